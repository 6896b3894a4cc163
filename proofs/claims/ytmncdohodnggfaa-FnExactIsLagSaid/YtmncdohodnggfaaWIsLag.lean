/-
  The law on IsLag, walked over the contracts of both sides.
-/
import Derived.Test.YtmncdohodnggfaaLawKit
import Derived.Test.YtmncdohodnggfaaBoxKit
import Derived.Deep.RegionHeld3
import Derived.Deep.DeepCutAuto
import Derived.Test.YtmncdohodnggfaaStepH
import Derived.Test.YtmncdohodnggfaaIsLag
import Derived.Test.YtmncdohodnggfaaOpen
namespace Go.Proofs.Ytmncdohodnggfaa
open Go.RowKit Go.Deep Go.Sd
set_option linter.unusedVariables false in
set_option maxHeartbeats 2000000 in
set_option maxRecDepth 10000 in
theorem law_IsLag {w : World} {v0 : Value} {a0 : List (List Int)} (t0 : Tab w v0 a0) (b0 : ∀ r, r ∈ a0 → ∀ x, x ∈ r → I64 x) {v1 : Value} {a1 : List (List Int)} (t1 : Tab w v1 a1) (b1 : ∀ r, r ∈ a1 → ∀ x, x ∈ r → I64 x) {v2 : Value} {a2 : List (List Int) × List (List Int)} (t2 : StepR w v2 a2) (b2 : StpI64 a2) {a3 : Int} (t3 : I64 a3) :
    Calls Try.prog 11 #[v0, v1, v2, .int .i64 a3] w fun e w' => e = .returned (.bool true) ∧ Below w.heap.size w w' := by
  clear b0
  have T0 := t0
  obtain ⟨va0, vc0, rfl, _, _, _⟩ := t0.shape
  clear t0
  have T0' := Lib.hid T0
  clear T0
  clear b1
  have T1 := t1
  obtain ⟨va1, vc1, rfl, _, _, _⟩ := t1.shape
  clear t1
  have T1' := Lib.hid T1
  clear T1
  clear b2
  have T2 := t2
  obtain ⟨kaa2, kna2, kca2, laa2, lna2, lca2, rfl⟩ := t2.slices
  clear t2
  have T2' := Lib.hid T2
  clear T2
  have A0 : Below w.heap.size w w := Below.refl _ _
  have Z0 := Lib.hid (fun (v : Value) (wz : World) (h : Tab wz v a0) => szIntSS_c h (l := 1048576) (by omega) (by omega))
  have c0 := szSS_bd a0 1048576 (by omega)
  have d0 := fun h => cntSS_le a0 1048576 (by omega) h
  generalize szSS a0 1048576 = l0 at Z0 c0 d0
  have D0 := Lib.hid d0
  clear d0
  go_enter Try.func11, Try.ntmps11
  go_wp2_with fail
  obtain ⟨w1, ex, hb1, ca20, ca21, ma2⟩ := boxA_ex w 53 (.slice kaa2 kna2 kca2) (.slice laa2 lna2 lca2)
  have y1 := ma2
  change Calls Try.prog _ _ (w.alloc (.cells #[(.slice kaa2 kna2 kca2), (.slice laa2 lna2 lca2)] 53)) _
  rw [ex]
  clear ex
  replace A0 := A0.trans (hb1.mono A0.size)
  have z1 := hb1.size
  clear hb1
  refine (Z0.out _ _ (Tab.frame _ _ _ _ T0'.out A0)).mono ?_
  rintro e w' ⟨rfl, rfl⟩
  by_cases n0 : l0 < 0
  · go_wp2
    go_ret
    exact ⟨rfl, A0⟩
  have d0' := D0.out (by omega)
  have sz0 : a0.length ≤ 1048576 := by have := cntSS_nn a0; omega
  have S0 := Lib.hid (show ∀ r, r ∈ a0 → r.length ≤ 1048576 from fun r hr => by have := len_le_cntSS hr; omega)
  have E0 := Lib.hid (show cntSS a0 ≤ 1048576 from by have := a0.length; omega)
  have l00 : 0 ≤ l0 := by omega
  have l01 : l0 ≤ 1048576 := by omega
  clear c0 d0' n0 Z0 D0
  have Z1 := Lib.hid (fun (v : Value) (wz : World) (h : Tab wz v a1) => szIntSS_c h (l := l0) (by omega) (by omega))
  have c1 := szSS_bd a1 l0 (by omega)
  have d1 := fun h => cntSS_le a1 l0 (by omega) h
  generalize szSS a1 l0 = l1 at Z1 c1 d1
  have D1 := Lib.hid d1
  clear d1
  go_wp2_with fail
  refine (Z1.out _ _ (Tab.frame _ _ _ _ T1'.out A0)).mono ?_
  rintro e w' ⟨rfl, rfl⟩
  by_cases n1 : l1 < 0
  · go_wp2
    go_ret
    exact ⟨rfl, A0⟩
  have d1' := D1.out (by omega)
  have sz1 : a1.length ≤ 1048576 := by have := cntSS_nn a1; omega
  have S1 := Lib.hid (show ∀ r, r ∈ a1 → r.length ≤ 1048576 from fun r hr => by have := len_le_cntSS hr; omega)
  have E1 := Lib.hid (show cntSS a1 ≤ 1048576 from by have := a1.length; omega)
  have l10 : 0 ≤ l1 := by omega
  have l11 : l1 ≤ 1048576 := by omega
  clear c1 d1' n1 Z1 D1
  have Z2 := Lib.hid (fun (v : Value) (wz : World) (h : StepR wz v a2) => szStep_c h (l := l1) (by omega) (by omega))
  have c2 := szStp_bd a2 l1 (by omega)
  have d2 := fun h => cntStp_le a2 l1 (by omega) h
  generalize szStp a2 l1 = l2 at Z2 c2 d2
  have D2 := Lib.hid d2
  clear d2
  go_wp2_with fail
  refine (Z2.out _ _ (StepR.frame _ _ _ _ T2'.out A0)).mono ?_
  rintro e w2 ⟨rfl, hb2⟩
  replace A0 := A0.trans (hb2.mono A0.size)
  replace ca20 := (hb2.cell (p := ⟨w.heap.size, 0, none⟩) ma2).trans ca20
  replace ca21 := (hb2.cell (p := ⟨w.heap.size, 1, none⟩) ma2).trans ca21
  replace ma2 := Nat.lt_of_lt_of_le ma2 hb2.size
  have z2 := hb2.size
  clear hb2
  by_cases n2 : l2 < 0
  · go_wp2
    go_ret
    exact ⟨rfl, A0⟩
  have d2' := D2.out (by omega)
  have S2 := Lib.hid (StpSz.mk' a2 d2' (by omega) (by omega))
  have E2 := Lib.hid (show cntStp a2 ≤ 1048576 from by omega)
  have l20 : 0 ≤ l2 := by omega
  have l21 : l2 ≤ 1048576 := by omega
  clear c2 d2' n2 Z2 D2
  go_wp2
  have hS0 := (show w2.cell? ⟨w.heap.size, 0, none⟩ = some (.slice kaa2 kna2 kca2) ∧ w2.cell? ⟨w.heap.size, 1, none⟩ = some (.slice laa2 lna2 lca2) from ⟨ca20, ca21⟩)
  go_region_held3 (fun w' => w'.cell? ⟨w.heap.size, 0, none⟩ = some (.slice kaa2 kna2 kca2) ∧ w'.cell? ⟨w.heap.size, 1, none⟩ = some (.slice laa2 lna2 lca2))
    (first | exact hS4 | exact hS3 | exact hS2 | exact hS1 | exact hS0 | go_keep)
    ((first
      | (have hg3 := hS3; go_at_call 43; refine (spec_IsLag_c (New.tab hp0.new) (New.tab hp1.new) (New.stp hp2.new)).mono ?_; rintro e w6 ⟨rfl, hb6⟩; replace A0 := A0.trans (hb6.mono A0.size); replace hp0 := hp0.keep (OTab.kept _ _).held hb6 (by omega); replace hp1 := hp1.keep (OTab.kept _ _).held hb6 (by omega); replace hp2 := hp2.keep OStep.held hb6 (by omega); replace ca20 := (hb6.cell (p := ⟨w.heap.size, 0, none⟩) ma2).trans ca20; replace ca21 := (hb6.cell (p := ⟨w.heap.size, 1, none⟩) ma2).trans ca21; replace ma2 := Nat.lt_of_lt_of_le ma2 hb6.size; have z6 := hb6.size; clear hb6; have hS4 := (show w6.cell? ⟨w.heap.size, 0, none⟩ = some (.slice kaa2 kna2 kca2) ∧ w6.cell? ⟨w.heap.size, 1, none⟩ = some (.slice laa2 lna2 lca2) from ⟨ca20, ca21⟩))
      | (have hg2 := hS2; go_at_call 45; refine (toStep_c (StepR.frame _ _ _ _ T2'.out A0) S2.out).mono ?_; rintro e w5 ⟨p2, rfl, hp2, hb5⟩; replace A0 := A0.trans (hb5.mono A0.size); replace hp0 := hp0.keep (OTab.kept _ _).held hb5 (by omega); replace hp1 := hp1.keep (OTab.kept _ _).held hb5 (by omega); replace ca20 := (hb5.cell (p := ⟨w.heap.size, 0, none⟩) ma2).trans ca20; replace ca21 := (hb5.cell (p := ⟨w.heap.size, 1, none⟩) ma2).trans ca21; replace ma2 := Nat.lt_of_lt_of_le ma2 hb5.size; have z5 := hb5.size; clear hb5; replace hp2 := hp2.inn OStep.held; have hS3 := (show w5.cell? ⟨w.heap.size, 0, none⟩ = some (.slice kaa2 kna2 kca2) ∧ w5.cell? ⟨w.heap.size, 1, none⟩ = some (.slice laa2 lna2 lca2) from ⟨ca20, ca21⟩))
      | (have hg1 := hS1; go_at_call 44; refine (toIntSS_c (Tab.frame _ _ _ _ T1'.out A0) sz1 S1.out).mono ?_; rintro e w4 ⟨p1, rfl, hp1, hb4⟩; replace A0 := A0.trans (hb4.mono A0.size); replace hp0 := hp0.keep (OTab.kept _ _).held hb4 (by omega); replace ca20 := (hb4.cell (p := ⟨w.heap.size, 0, none⟩) ma2).trans ca20; replace ca21 := (hb4.cell (p := ⟨w.heap.size, 1, none⟩) ma2).trans ca21; replace ma2 := Nat.lt_of_lt_of_le ma2 hb4.size; have z4 := hb4.size; clear hb4; replace hp1 := hp1.inn (OTab.kept _ _).held; have hS2 := (show w4.cell? ⟨w.heap.size, 0, none⟩ = some (.slice kaa2 kna2 kca2) ∧ w4.cell? ⟨w.heap.size, 1, none⟩ = some (.slice laa2 lna2 lca2) from ⟨ca20, ca21⟩))
      | (have hbd := (Below.refl w2.heap.size w2).drew; replace A0 := A0.trans (hbd.mono A0.size); replace ca20 := (hbd.cell (p := ⟨w.heap.size, 0, none⟩) ma2).trans ca20; replace ca21 := (hbd.cell (p := ⟨w.heap.size, 1, none⟩) ma2).trans ca21; replace ma2 := Nat.lt_of_lt_of_le ma2 hbd.size; have z2 := hbd.size; clear hbd; go_at_call 44; refine (toIntSS_c (Tab.frame _ _ _ _ T0'.out A0) sz0 S0.out).mono ?_; rintro e w3 ⟨p0, rfl, hp0, hb3⟩; replace A0 := A0.trans (hb3.mono A0.size); replace ca20 := (hb3.cell (p := ⟨w.heap.size, 0, none⟩) ma2).trans ca20; replace ca21 := (hb3.cell (p := ⟨w.heap.size, 1, none⟩) ma2).trans ca21; replace ma2 := Nat.lt_of_lt_of_le ma2 hb3.size; have z3 := hb3.size; clear hb3; replace hp0 := hp0.inn (OTab.kept _ _).held; have hS1 := (show w3.cell? ⟨w.heap.size, 0, none⟩ = some (.slice kaa2 kna2 kca2) ∧ w3.cell? ⟨w.heap.size, 1, none⟩ = some (.slice laa2 lna2 lca2) from ⟨ca20, ca21⟩))
      | fail))
  clear hS0 hS1 hS2 hS3 hS4
  clear hp0
  clear hp1
  clear hp2
  go_wp2_with fail
  refine (toIntSS_c (Tab.frame _ _ _ _ T0'.out A0) sz0 S0.out).mono ?_
  rintro e w7 ⟨x0, rfl, hx0, hb7⟩
  replace A0 := A0.trans (hb7.mono A0.size)
  replace ca20 := (hb7.cell (p := ⟨w.heap.size, 0, none⟩) ma2).trans ca20
  replace ca21 := (hb7.cell (p := ⟨w.heap.size, 1, none⟩) ma2).trans ca21
  replace ma2 := Nat.lt_of_lt_of_le ma2 hb7.size
  have z7 := hb7.size
  clear hb7
  replace hx0 := hx0.inn (OTab.kept _ _).held
  go_wp2_with fail
  refine (toIntSS_c (Tab.frame _ _ _ _ T1'.out A0) sz1 S1.out).mono ?_
  rintro e w8 ⟨x1, rfl, hx1, hb8⟩
  replace A0 := A0.trans (hb8.mono A0.size)
  replace hx0 := hx0.keep (OTab.kept _ _).held hb8 (by omega)
  replace ca20 := (hb8.cell (p := ⟨w.heap.size, 0, none⟩) ma2).trans ca20
  replace ca21 := (hb8.cell (p := ⟨w.heap.size, 1, none⟩) ma2).trans ca21
  replace ma2 := Nat.lt_of_lt_of_le ma2 hb8.size
  have z8 := hb8.size
  clear hb8
  replace hx1 := hx1.inn (OTab.kept _ _).held
  go_wp2_with fail
  refine (toStep_c (StepR.frame _ _ _ _ T2'.out A0) S2.out).mono ?_
  rintro e w9 ⟨x2, rfl, hx2, hb9⟩
  replace A0 := A0.trans (hb9.mono A0.size)
  replace hx0 := hx0.keep (OTab.kept _ _).held hb9 (by omega)
  replace hx1 := hx1.keep (OTab.kept _ _).held hb9 (by omega)
  replace ca20 := (hb9.cell (p := ⟨w.heap.size, 0, none⟩) ma2).trans ca20
  replace ca21 := (hb9.cell (p := ⟨w.heap.size, 1, none⟩) ma2).trans ca21
  replace ma2 := Nat.lt_of_lt_of_le ma2 hb9.size
  have z9 := hb9.size
  clear hb9
  replace hx2 := hx2.inn OStep.held
  obtain ⟨kax2, knx2, kcx2, lax2, lnx2, lcx2, rfl⟩ := (New.stp hx2.new).slices
  go_wp2_with fail
  obtain ⟨w10, ex, hb10, cx20, cx21, mx2⟩ := boxA_ex w9 57 (.slice kax2 knx2 kcx2) (.slice lax2 lnx2 lcx2)
  have y10 := mx2
  change Calls Try.prog _ _ (w9.alloc (.cells #[(.slice kax2 knx2 kcx2), (.slice lax2 lnx2 lcx2)] 57)) _
  rw [ex]
  clear ex
  replace A0 := A0.trans (hb10.mono A0.size)
  replace hx0 := hx0.keep (OTab.kept _ _).held hb10 (by omega)
  replace hx1 := hx1.keep (OTab.kept _ _).held hb10 (by omega)
  replace hx2 := hx2.keep OStep.held hb10 (by omega)
  replace ca20 := (hb10.cell (p := ⟨w.heap.size, 0, none⟩) ma2).trans ca20
  replace ca21 := (hb10.cell (p := ⟨w.heap.size, 1, none⟩) ma2).trans ca21
  replace ma2 := Nat.lt_of_lt_of_le ma2 hb10.size
  have z10 := hb10.size
  clear hb10
  refine (impl_IsLag_c (New.tab hx0.new) (New.tab hx1.new) (New.stp hx2.new)).mono ?_
  rintro e w11 ⟨rfl, hb11⟩
  replace A0 := A0.trans (hb11.mono A0.size)
  replace hx0 := hx0.keep (OTab.kept _ _).held hb11 (by omega)
  replace hx1 := hx1.keep (OTab.kept _ _).held hb11 (by omega)
  replace hx2 := hx2.keep OStep.held hb11 (by omega)
  replace ca20 := (hb11.cell (p := ⟨w.heap.size, 0, none⟩) ma2).trans ca20
  replace ca21 := (hb11.cell (p := ⟨w.heap.size, 1, none⟩) ma2).trans ca21
  replace ma2 := Nat.lt_of_lt_of_le ma2 hb11.size
  replace cx20 := (hb11.cell (p := ⟨w9.heap.size, 0, none⟩) mx2).trans cx20
  replace cx21 := (hb11.cell (p := ⟨w9.heap.size, 1, none⟩) mx2).trans cx21
  replace mx2 := Nat.lt_of_lt_of_le mx2 hb11.size
  have z11 := hb11.size
  clear hb11
  go_wp2_with fail
  refine (toIntSS_c (Tab.frame _ _ _ _ T0'.out A0) sz0 S0.out).mono ?_
  rintro e w12 ⟨y0, rfl, hy0, hb12⟩
  replace A0 := A0.trans (hb12.mono A0.size)
  replace hx0 := hx0.keep (OTab.kept _ _).held hb12 (by omega)
  replace hx1 := hx1.keep (OTab.kept _ _).held hb12 (by omega)
  replace hx2 := hx2.keep OStep.held hb12 (by omega)
  replace ca20 := (hb12.cell (p := ⟨w.heap.size, 0, none⟩) ma2).trans ca20
  replace ca21 := (hb12.cell (p := ⟨w.heap.size, 1, none⟩) ma2).trans ca21
  replace ma2 := Nat.lt_of_lt_of_le ma2 hb12.size
  replace cx20 := (hb12.cell (p := ⟨w9.heap.size, 0, none⟩) mx2).trans cx20
  replace cx21 := (hb12.cell (p := ⟨w9.heap.size, 1, none⟩) mx2).trans cx21
  replace mx2 := Nat.lt_of_lt_of_le mx2 hb12.size
  have z12 := hb12.size
  clear hb12
  replace hy0 := hy0.inn (OTab.kept _ _).held
  go_wp2_with fail
  refine (eqIntSS_same (New.tab hx0.new) (New.tab hy0.new)).mono ?_
  rintro e w13 ⟨rfl, hdr⟩
  have hb13 := hdr.below w12.heap.size
  clear hdr
  replace A0 := A0.trans (hb13.mono A0.size)
  replace hx0 := hx0.keep (OTab.kept _ _).held hb13 (by omega)
  replace hx1 := hx1.keep (OTab.kept _ _).held hb13 (by omega)
  replace hx2 := hx2.keep OStep.held hb13 (by omega)
  replace hy0 := hy0.keep (OTab.kept _ _).held hb13 (by omega)
  replace ca20 := (hb13.cell (p := ⟨w.heap.size, 0, none⟩) ma2).trans ca20
  replace ca21 := (hb13.cell (p := ⟨w.heap.size, 1, none⟩) ma2).trans ca21
  replace ma2 := Nat.lt_of_lt_of_le ma2 hb13.size
  replace cx20 := (hb13.cell (p := ⟨w9.heap.size, 0, none⟩) mx2).trans cx20
  replace cx21 := (hb13.cell (p := ⟨w9.heap.size, 1, none⟩) mx2).trans cx21
  replace mx2 := Nat.lt_of_lt_of_le mx2 hb13.size
  have z13 := hb13.size
  clear hb13
  clear hy0
  go_wp2_with fail
  refine (toIntSS_c (Tab.frame _ _ _ _ T1'.out A0) sz1 S1.out).mono ?_
  rintro e w14 ⟨y1, rfl, hy1, hb14⟩
  replace A0 := A0.trans (hb14.mono A0.size)
  replace hx0 := hx0.keep (OTab.kept _ _).held hb14 (by omega)
  replace hx1 := hx1.keep (OTab.kept _ _).held hb14 (by omega)
  replace hx2 := hx2.keep OStep.held hb14 (by omega)
  replace ca20 := (hb14.cell (p := ⟨w.heap.size, 0, none⟩) ma2).trans ca20
  replace ca21 := (hb14.cell (p := ⟨w.heap.size, 1, none⟩) ma2).trans ca21
  replace ma2 := Nat.lt_of_lt_of_le ma2 hb14.size
  replace cx20 := (hb14.cell (p := ⟨w9.heap.size, 0, none⟩) mx2).trans cx20
  replace cx21 := (hb14.cell (p := ⟨w9.heap.size, 1, none⟩) mx2).trans cx21
  replace mx2 := Nat.lt_of_lt_of_le mx2 hb14.size
  have z14 := hb14.size
  clear hb14
  replace hy1 := hy1.inn (OTab.kept _ _).held
  go_wp2_with fail
  refine (eqIntSS_same (New.tab hx1.new) (New.tab hy1.new)).mono ?_
  rintro e w15 ⟨rfl, hdr⟩
  have hb15 := hdr.below w14.heap.size
  clear hdr
  replace A0 := A0.trans (hb15.mono A0.size)
  replace hx0 := hx0.keep (OTab.kept _ _).held hb15 (by omega)
  replace hx1 := hx1.keep (OTab.kept _ _).held hb15 (by omega)
  replace hx2 := hx2.keep OStep.held hb15 (by omega)
  replace hy1 := hy1.keep (OTab.kept _ _).held hb15 (by omega)
  replace ca20 := (hb15.cell (p := ⟨w.heap.size, 0, none⟩) ma2).trans ca20
  replace ca21 := (hb15.cell (p := ⟨w.heap.size, 1, none⟩) ma2).trans ca21
  replace ma2 := Nat.lt_of_lt_of_le ma2 hb15.size
  replace cx20 := (hb15.cell (p := ⟨w9.heap.size, 0, none⟩) mx2).trans cx20
  replace cx21 := (hb15.cell (p := ⟨w9.heap.size, 1, none⟩) mx2).trans cx21
  replace mx2 := Nat.lt_of_lt_of_le mx2 hb15.size
  have z15 := hb15.size
  clear hb15
  clear hy1
  go_wp2
  have hS0 := (show w15.cell? ⟨w9.heap.size, 0, none⟩ = some (.slice kax2 knx2 kcx2) ∧ w15.cell? ⟨w9.heap.size, 1, none⟩ = some (.slice lax2 lnx2 lcx2) ∧ w15.cell? ⟨w.heap.size, 0, none⟩ = some (.slice kaa2 kna2 kca2) ∧ w15.cell? ⟨w.heap.size, 1, none⟩ = some (.slice laa2 lna2 lca2) from ⟨cx20, cx21, ca20, ca21⟩)
  go_region_held3 (fun w' => w'.cell? ⟨w9.heap.size, 0, none⟩ = some (.slice kax2 knx2 kcx2) ∧ w'.cell? ⟨w9.heap.size, 1, none⟩ = some (.slice lax2 lnx2 lcx2) ∧ w'.cell? ⟨w.heap.size, 0, none⟩ = some (.slice kaa2 kna2 kca2) ∧ w'.cell? ⟨w.heap.size, 1, none⟩ = some (.slice laa2 lna2 lca2))
    (first | exact hS2 | exact hS1 | exact hS0 | go_keep)
    ((first
      | (have hg1 := hS1; go_at_call 47; refine (eqStep_same (New.stp hx2.new) (New.stp hy2.new)).mono ?_; rintro e w17 ⟨rfl, hb17⟩; replace A0 := A0.trans (hb17.mono A0.size); replace hx0 := hx0.keep (OTab.kept _ _).held hb17 (by omega); replace hx1 := hx1.keep (OTab.kept _ _).held hb17 (by omega); replace hx2 := hx2.keep OStep.held hb17 (by omega); replace hy2 := hy2.keep OStep.held hb17 (by omega); replace ca20 := (hb17.cell (p := ⟨w.heap.size, 0, none⟩) ma2).trans ca20; replace ca21 := (hb17.cell (p := ⟨w.heap.size, 1, none⟩) ma2).trans ca21; replace ma2 := Nat.lt_of_lt_of_le ma2 hb17.size; replace cx20 := (hb17.cell (p := ⟨w9.heap.size, 0, none⟩) mx2).trans cx20; replace cx21 := (hb17.cell (p := ⟨w9.heap.size, 1, none⟩) mx2).trans cx21; replace mx2 := Nat.lt_of_lt_of_le mx2 hb17.size; have z17 := hb17.size; clear hb17; have hS2 := (show w17.cell? ⟨w9.heap.size, 0, none⟩ = some (.slice kax2 knx2 kcx2) ∧ w17.cell? ⟨w9.heap.size, 1, none⟩ = some (.slice lax2 lnx2 lcx2) ∧ w17.cell? ⟨w.heap.size, 0, none⟩ = some (.slice kaa2 kna2 kca2) ∧ w17.cell? ⟨w.heap.size, 1, none⟩ = some (.slice laa2 lna2 lca2) from ⟨cx20, cx21, ca20, ca21⟩))
      | (have hbd := (Below.refl w15.heap.size w15).drew; replace A0 := A0.trans (hbd.mono A0.size); replace hx0 := hx0.keep (OTab.kept _ _).held hbd (by omega); replace hx1 := hx1.keep (OTab.kept _ _).held hbd (by omega); replace hx2 := hx2.keep OStep.held hbd (by omega); replace ca20 := (hbd.cell (p := ⟨w.heap.size, 0, none⟩) ma2).trans ca20; replace ca21 := (hbd.cell (p := ⟨w.heap.size, 1, none⟩) ma2).trans ca21; replace ma2 := Nat.lt_of_lt_of_le ma2 hbd.size; replace cx20 := (hbd.cell (p := ⟨w9.heap.size, 0, none⟩) mx2).trans cx20; replace cx21 := (hbd.cell (p := ⟨w9.heap.size, 1, none⟩) mx2).trans cx21; replace mx2 := Nat.lt_of_lt_of_le mx2 hbd.size; have z15 := hbd.size; clear hbd; go_at_call 45; refine (toStep_c (StepR.frame _ _ _ _ T2'.out A0) S2.out).mono ?_; rintro e w16 ⟨y2, rfl, hy2, hb16⟩; replace A0 := A0.trans (hb16.mono A0.size); replace hx0 := hx0.keep (OTab.kept _ _).held hb16 (by omega); replace hx1 := hx1.keep (OTab.kept _ _).held hb16 (by omega); replace hx2 := hx2.keep OStep.held hb16 (by omega); replace ca20 := (hb16.cell (p := ⟨w.heap.size, 0, none⟩) ma2).trans ca20; replace ca21 := (hb16.cell (p := ⟨w.heap.size, 1, none⟩) ma2).trans ca21; replace ma2 := Nat.lt_of_lt_of_le ma2 hb16.size; replace cx20 := (hb16.cell (p := ⟨w9.heap.size, 0, none⟩) mx2).trans cx20; replace cx21 := (hb16.cell (p := ⟨w9.heap.size, 1, none⟩) mx2).trans cx21; replace mx2 := Nat.lt_of_lt_of_le mx2 hb16.size; have z16 := hb16.size; clear hb16; replace hy2 := hy2.inn OStep.held; have hS1 := (show w16.cell? ⟨w9.heap.size, 0, none⟩ = some (.slice kax2 knx2 kcx2) ∧ w16.cell? ⟨w9.heap.size, 1, none⟩ = some (.slice lax2 lnx2 lcx2) ∧ w16.cell? ⟨w.heap.size, 0, none⟩ = some (.slice kaa2 kna2 kca2) ∧ w16.cell? ⟨w.heap.size, 1, none⟩ = some (.slice laa2 lna2 lca2) from ⟨cx20, cx21, ca20, ca21⟩))
      | fail))
  clear hS0 hS1 hS2
  clear hy2
  go_wp2
  go_ret
  exact ⟨rfl, A0⟩
end Go.Proofs.Ytmncdohodnggfaa
