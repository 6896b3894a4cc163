/-
  The law on LagOfChain, walked over the contracts of both sides.
-/
import Derived.Test.YtjgiobapdkdhpaaLawKit
import Derived.Test.YtjgiobapdkdhpaaBoxKit
import Derived.Deep.RegionHeld3
import Derived.Deep.DeepCutAuto
import Derived.Test.YtjgiobapdkdhpaaHarn3b
import Derived.Test.YtjgiobapdkdhpaaStpsO
import Derived.Test.YtjgiobapdkdhpaaStepH
import Derived.Test.YtjgiobapdkdhpaaChain
import Derived.Test.YtjgiobapdkdhpaaChLagM
import Derived.Test.YtjgiobapdkdhpaaChLagS
import Derived.Test.YtjgiobapdkdhpaaChLagI
import Derived.Test.YtjgiobapdkdhpaaOpen
namespace Go.Proofs.Ytjgiobapdkdhpaa
open Go.RowKit Go.Deep Go.Sd
set_option linter.unusedVariables false in
set_option maxHeartbeats 2000000 in
set_option maxRecDepth 10000 in
theorem law_LagOfChain {w : World} {v0 : Value} {a0 : List (List (List Int))} (t0 : Tabs w v0 a0) (b0 : ∀ t, t ∈ a0 → ∀ r, r ∈ t → ∀ x, x ∈ r → I64 x) {v1 : Value} {a1 : List (Tb × Tb)} (t1 : StpsR w v1 a1) (b1 : True) :
    Calls Try.prog 5 #[v0, v1] w fun e w' => e = .returned (.bool true) ∧ Below w.heap.size w w' := by
  clear b0
  have T0 := t0
  obtain ⟨va0, vc0, rfl, _, _, _⟩ := t0.shape
  clear t0
  have T0' := Lib.hid T0
  clear T0
  clear b1
  have T1 := t1
  obtain ⟨_, va1, vc1, rfl, _, _, _, _⟩ := t1
  have T1' := Lib.hid T1
  clear T1
  have A0 : Below w.heap.size w w := Below.refl _ _
  have Z0 := Lib.hid (fun (v : Value) (wz : World) (h : Tabs wz v a0) => szIntSSS_c h (l := 1048576) (by omega) (by omega))
  have d0 := szSSS_bd a0 1048576 (by omega)
  generalize szSSS a0 1048576 = l0 at Z0 d0
  obtain ⟨e0, f0, k0⟩ := d0
  have D0 := Lib.hid k0
  clear k0
  go_enter Try.func5, Try.ntmps5
  go_wp2_with fail
  refine (Z0.out _ _ (Tabs.frame _ _ _ _ T0'.out A0)).mono ?_
  rintro e w' ⟨rfl, rfl⟩
  by_cases n0 : l0 < 0
  · go_wp2
    go_ret
    exact ⟨rfl, A0⟩
  have l00 : 0 ≤ l0 := by omega
  have l01 : l0 ≤ 1048576 := by omega
  have S0 := Lib.hid (show a0.length ≤ 1048576 ∧ ∀ t, t ∈ a0 → t.length ≤ 1048576 ∧ ∀ r, r ∈ t → r.length ≤ 1048576 from ⟨by have := (D0.out l00).1; omega, fun t ht => ⟨by have := ((D0.out l00).2 t ht).1; omega, fun r hr => by have := ((D0.out l00).2 t ht).2 r hr; omega⟩⟩)
  have E0 := Lib.hid (cntSSS_bd S0.out.1 S0.out.2)
  clear n0 Z0 D0
  have Z1 := Lib.hid (fun (v : Value) (wz : World) (h : StpsR wz v a1) => szStepS_c h (l := l0) (by omega) (by omega))
  have d1 := szStps_bd a1 l0 (by omega) (by omega)
  generalize szStps a1 l0 = l1 at Z1 d1
  obtain ⟨e1, f1, k1⟩ := d1
  have D1 := Lib.hid k1
  clear k1
  go_wp2_with fail
  refine (Z1.out _ _ (StpsR.frame _ _ _ _ T1'.out A0)).mono ?_
  rintro e w1 ⟨rfl, hb1⟩
  replace A0 := A0.trans (hb1.mono A0.size)
  have z1 := hb1.size
  clear hb1
  by_cases n1 : l1 < 0
  · go_wp2
    go_ret
    exact ⟨rfl, A0⟩
  have l10 : 0 ≤ l1 := by omega
  have l11 : l1 ≤ 1048576 := by omega
  have S1 := Lib.hid (show a1.length ≤ 1048576 ∧ ∀ x, x ∈ a1 → StpSz x from ⟨by have := (D1.out l10).1; omega, (D1.out l10).2⟩)
  have E1 := Lib.hid (cntStps_bd S1.out.1 S1.out.2)
  clear n1 Z1 D1
  go_wp2_with fail
  refine (toIntSSS_c (Tabs.frame _ _ _ _ T0'.out A0) S0.out.1 S0.out.2).mono ?_
  rintro e w2 ⟨p0, rfl, hp0, hb2⟩
  replace A0 := A0.trans (hb2.mono A0.size)
  have z2 := hb2.size
  clear hb2
  replace hp0 := hp0.inn (OTabs.kept _ _ _).held
  go_wp2_with fail
  refine (toStepS_o (StpsR.frame _ _ _ _ T1'.out A0) S1.out.1 S1.out.2).mono ?_
  rintro e w3 ⟨p1, rfl, hp1, hb3⟩
  replace A0 := A0.trans (hb3.mono A0.size)
  replace hp0 := hp0.keep (OTabs.kept _ _ _).held hb3 (by omega)
  have z3 := hb3.size
  clear hb3
  replace hp1 := hp1.inn OStps.held
  go_wp2_with fail
  refine (spec_LagOfChain_c (New.tabs hp0.new) (New.stps hp1.new)).mono ?_
  rintro e w4 ⟨s0, rfl, hs0, hb4⟩
  replace A0 := A0.trans (hb4.mono A0.size)
  replace hp0 := hp0.keep (OTabs.kept _ _ _).held hb4 (by omega)
  replace hp1 := hp1.keep OStps.held hb4 (by omega)
  have z4 := hb4.size
  clear hb4
  replace hs0 := hs0.inn OStep.held
  obtain ⟨kas0, kns0, kcs0, las0, lns0, lcs0, rfl⟩ := (New.stp hs0.new).slices
  clear hp0
  clear hp1
  have R0' : StepR w4 (.agg #[(.slice kas0 kns0 kcs0), (.slice las0 lns0 lcs0)]) (found (lagC a0 a1)) := (New.stp hs0.new)
  have R0 := Lib.hid R0'
  clear R0'
  clear hs0
  have hwA : Below w4.heap.size w4 w4 := Below.refl _ _
  go_wp2_with fail
  obtain ⟨w5, ex, hb5, cs00, cs01, ms0⟩ := boxA_ex w4 38 (.slice kas0 kns0 kcs0) (.slice las0 lns0 lcs0)
  have y5 := ms0
  change Calls Try.prog _ _ (w4.alloc (.cells #[(.slice kas0 kns0 kcs0), (.slice las0 lns0 lcs0)] 38)) _
  rw [ex]
  clear ex
  replace A0 := A0.trans (hb5.mono A0.size)
  replace hwA := hwA.trans (hb5.mono hwA.size)
  have z5 := hb5.size
  clear hb5
  refine (toIntSSS_c (Tabs.frame _ _ _ _ T0'.out A0) S0.out.1 S0.out.2).mono ?_
  rintro e w6 ⟨x0, rfl, hx0, hb6⟩
  replace A0 := A0.trans (hb6.mono A0.size)
  replace hwA := hwA.trans (hb6.mono hwA.size)
  replace cs00 := (hb6.cell (p := ⟨w4.heap.size, 0, none⟩) ms0).trans cs00
  replace cs01 := (hb6.cell (p := ⟨w4.heap.size, 1, none⟩) ms0).trans cs01
  replace ms0 := Nat.lt_of_lt_of_le ms0 hb6.size
  have z6 := hb6.size
  clear hb6
  replace hx0 := hx0.inn (OTabs.kept _ _ _).held
  go_wp2_with fail
  refine (toStepS_o (StpsR.frame _ _ _ _ T1'.out A0) S1.out.1 S1.out.2).mono ?_
  rintro e w7 ⟨x1, rfl, hx1, hb7⟩
  replace A0 := A0.trans (hb7.mono A0.size)
  replace hwA := hwA.trans (hb7.mono hwA.size)
  replace hx0 := hx0.keep (OTabs.kept _ _ _).held hb7 (by omega)
  replace cs00 := (hb7.cell (p := ⟨w4.heap.size, 0, none⟩) ms0).trans cs00
  replace cs01 := (hb7.cell (p := ⟨w4.heap.size, 1, none⟩) ms0).trans cs01
  replace ms0 := Nat.lt_of_lt_of_le ms0 hb7.size
  have z7 := hb7.size
  clear hb7
  replace hx1 := hx1.inn OStps.held
  go_wp2_with fail
  refine (impl_LagOfChain_c (New.tabs hx0.new) (New.stps hx1.new)).mono ?_
  rintro e w8 ⟨g0, rfl, hg0, hb8⟩
  replace A0 := A0.trans (hb8.mono A0.size)
  replace hwA := hwA.trans (hb8.mono hwA.size)
  replace hx0 := hx0.keep (OTabs.kept _ _ _).held hb8 (by omega)
  replace hx1 := hx1.keep OStps.held hb8 (by omega)
  replace cs00 := (hb8.cell (p := ⟨w4.heap.size, 0, none⟩) ms0).trans cs00
  replace cs01 := (hb8.cell (p := ⟨w4.heap.size, 1, none⟩) ms0).trans cs01
  replace ms0 := Nat.lt_of_lt_of_le ms0 hb8.size
  have z8 := hb8.size
  clear hb8
  replace hg0 := hg0.inn OStep.held
  obtain ⟨kag0, kng0, kcg0, lag0, lng0, lcg0, rfl⟩ := (New.stp hg0.new).slices
  go_wp2_with fail
  obtain ⟨w9, ex, hb9, cg00, cg01, mg0⟩ := boxA_ex w8 38 (.slice kag0 kng0 kcg0) (.slice lag0 lng0 lcg0)
  have y9 := mg0
  change Calls Try.prog _ _ (w8.alloc (.cells #[(.slice kag0 kng0 kcg0), (.slice lag0 lng0 lcg0)] 38)) _
  rw [ex]
  clear ex
  replace A0 := A0.trans (hb9.mono A0.size)
  replace hwA := hwA.trans (hb9.mono hwA.size)
  replace hx0 := hx0.keep (OTabs.kept _ _ _).held hb9 (by omega)
  replace hx1 := hx1.keep OStps.held hb9 (by omega)
  replace hg0 := hg0.keep OStep.held hb9 (by omega)
  replace cs00 := (hb9.cell (p := ⟨w4.heap.size, 0, none⟩) ms0).trans cs00
  replace cs01 := (hb9.cell (p := ⟨w4.heap.size, 1, none⟩) ms0).trans cs01
  replace ms0 := Nat.lt_of_lt_of_le ms0 hb9.size
  have z9 := hb9.size
  clear hb9
  refine (eqStep_same (New.stp hg0.new) (StepR.frame _ _ _ _ R0.out hwA)).mono ?_
  rintro e w10 ⟨rfl, hb10⟩
  replace A0 := A0.trans (hb10.mono A0.size)
  replace hwA := hwA.trans (hb10.mono hwA.size)
  replace hx0 := hx0.keep (OTabs.kept _ _ _).held hb10 (by omega)
  replace hx1 := hx1.keep OStps.held hb10 (by omega)
  replace hg0 := hg0.keep OStep.held hb10 (by omega)
  replace cs00 := (hb10.cell (p := ⟨w4.heap.size, 0, none⟩) ms0).trans cs00
  replace cs01 := (hb10.cell (p := ⟨w4.heap.size, 1, none⟩) ms0).trans cs01
  replace ms0 := Nat.lt_of_lt_of_le ms0 hb10.size
  replace cg00 := (hb10.cell (p := ⟨w8.heap.size, 0, none⟩) mg0).trans cg00
  replace cg01 := (hb10.cell (p := ⟨w8.heap.size, 1, none⟩) mg0).trans cg01
  replace mg0 := Nat.lt_of_lt_of_le mg0 hb10.size
  have z10 := hb10.size
  clear hb10
  go_wp2_with fail
  refine (toIntSSS_c (Tabs.frame _ _ _ _ T0'.out A0) S0.out.1 S0.out.2).mono ?_
  rintro e w11 ⟨y0, rfl, hy0, hb11⟩
  replace A0 := A0.trans (hb11.mono A0.size)
  replace hwA := hwA.trans (hb11.mono hwA.size)
  replace hx0 := hx0.keep (OTabs.kept _ _ _).held hb11 (by omega)
  replace hx1 := hx1.keep OStps.held hb11 (by omega)
  replace hg0 := hg0.keep OStep.held hb11 (by omega)
  replace cs00 := (hb11.cell (p := ⟨w4.heap.size, 0, none⟩) ms0).trans cs00
  replace cs01 := (hb11.cell (p := ⟨w4.heap.size, 1, none⟩) ms0).trans cs01
  replace ms0 := Nat.lt_of_lt_of_le ms0 hb11.size
  replace cg00 := (hb11.cell (p := ⟨w8.heap.size, 0, none⟩) mg0).trans cg00
  replace cg01 := (hb11.cell (p := ⟨w8.heap.size, 1, none⟩) mg0).trans cg01
  replace mg0 := Nat.lt_of_lt_of_le mg0 hb11.size
  have z11 := hb11.size
  clear hb11
  replace hy0 := hy0.inn (OTabs.kept _ _ _).held
  go_wp2_with fail
  refine (eqIntSSS_same (New.tabs hx0.new) (New.tabs hy0.new)).mono ?_
  rintro e w12 ⟨rfl, hdr⟩
  have hb12 := hdr.below w11.heap.size
  clear hdr
  replace A0 := A0.trans (hb12.mono A0.size)
  replace hwA := hwA.trans (hb12.mono hwA.size)
  replace hx0 := hx0.keep (OTabs.kept _ _ _).held hb12 (by omega)
  replace hx1 := hx1.keep OStps.held hb12 (by omega)
  replace hg0 := hg0.keep OStep.held hb12 (by omega)
  replace hy0 := hy0.keep (OTabs.kept _ _ _).held hb12 (by omega)
  replace cs00 := (hb12.cell (p := ⟨w4.heap.size, 0, none⟩) ms0).trans cs00
  replace cs01 := (hb12.cell (p := ⟨w4.heap.size, 1, none⟩) ms0).trans cs01
  replace ms0 := Nat.lt_of_lt_of_le ms0 hb12.size
  replace cg00 := (hb12.cell (p := ⟨w8.heap.size, 0, none⟩) mg0).trans cg00
  replace cg01 := (hb12.cell (p := ⟨w8.heap.size, 1, none⟩) mg0).trans cg01
  replace mg0 := Nat.lt_of_lt_of_le mg0 hb12.size
  have z12 := hb12.size
  clear hb12
  clear hy0
  go_wp2_with fail
  refine (toStepS_o (StpsR.frame _ _ _ _ T1'.out A0) S1.out.1 S1.out.2).mono ?_
  rintro e w13 ⟨y1, rfl, hy1, hb13⟩
  replace A0 := A0.trans (hb13.mono A0.size)
  replace hwA := hwA.trans (hb13.mono hwA.size)
  replace hx0 := hx0.keep (OTabs.kept _ _ _).held hb13 (by omega)
  replace hx1 := hx1.keep OStps.held hb13 (by omega)
  replace hg0 := hg0.keep OStep.held hb13 (by omega)
  replace cs00 := (hb13.cell (p := ⟨w4.heap.size, 0, none⟩) ms0).trans cs00
  replace cs01 := (hb13.cell (p := ⟨w4.heap.size, 1, none⟩) ms0).trans cs01
  replace ms0 := Nat.lt_of_lt_of_le ms0 hb13.size
  replace cg00 := (hb13.cell (p := ⟨w8.heap.size, 0, none⟩) mg0).trans cg00
  replace cg01 := (hb13.cell (p := ⟨w8.heap.size, 1, none⟩) mg0).trans cg01
  replace mg0 := Nat.lt_of_lt_of_le mg0 hb13.size
  have z13 := hb13.size
  clear hb13
  replace hy1 := hy1.inn OStps.held
  go_wp2_with fail
  refine (eqStepS_same (New.stps hx1.new) (New.stps hy1.new)).mono ?_
  rintro e w14 ⟨rfl, hb14⟩
  replace A0 := A0.trans (hb14.mono A0.size)
  replace hwA := hwA.trans (hb14.mono hwA.size)
  replace hx0 := hx0.keep (OTabs.kept _ _ _).held hb14 (by omega)
  replace hx1 := hx1.keep OStps.held hb14 (by omega)
  replace hg0 := hg0.keep OStep.held hb14 (by omega)
  replace hy1 := hy1.keep OStps.held hb14 (by omega)
  replace cs00 := (hb14.cell (p := ⟨w4.heap.size, 0, none⟩) ms0).trans cs00
  replace cs01 := (hb14.cell (p := ⟨w4.heap.size, 1, none⟩) ms0).trans cs01
  replace ms0 := Nat.lt_of_lt_of_le ms0 hb14.size
  replace cg00 := (hb14.cell (p := ⟨w8.heap.size, 0, none⟩) mg0).trans cg00
  replace cg01 := (hb14.cell (p := ⟨w8.heap.size, 1, none⟩) mg0).trans cg01
  replace mg0 := Nat.lt_of_lt_of_le mg0 hb14.size
  have z14 := hb14.size
  clear hb14
  clear hy1
  have q0d := E0.out
  have r0d := cntSSS_nn a0
  generalize hq0 : cntSSS a0 = cq0 at q0d r0d
  have Hq0 := Lib.hid hq0
  clear hq0
  have q1d := E1.out
  have r1d := cntStps_nn a1
  generalize hq1 : cntStps a1 = cq1 at q1d r1d
  have Hq1 := Lib.hid hq1
  clear hq1
  have M := Lib.hid (markIntSSS_in (k0 := 1) hx0 (by omega) (by rw [Hq0.out]; omega))
  rw [Hq0.out] at M
  go_wp2_with fail
  refine M.out.mono ?_
  rintro e w15 ⟨rfl, hm15, ho15⟩
  clear M
  replace A0 := A0.trans (ho15.below (by omega) A0.size)
  replace hwA := hwA.trans (ho15.below (by omega) hwA.size)
  replace hx1 := hx1.off OStps.held ho15 (by omega)
  replace hg0 := hg0.off OStep.held ho15 (by omega)
  replace cs00 := (ho15.cell ms0 (by omega)).trans cs00
  replace cs01 := (ho15.cell ms0 (by omega)).trans cs01
  replace ms0 := Nat.lt_of_lt_of_le ms0 ho15.size
  replace cg00 := (ho15.cell mg0 (by omega)).trans cg00
  replace cg01 := (ho15.cell mg0 (by omega)).trans cg01
  replace mg0 := Nat.lt_of_lt_of_le mg0 ho15.size
  have z15 := ho15.size
  clear hx0 ho15
  clear hm15
  have M := Lib.hid (markStepS_in (k0 := (1 + cq0)) hx1 (by omega) (by rw [Hq1.out]; omega))
  rw [Hq1.out] at M
  go_wp2_with fail
  refine M.out.mono ?_
  rintro e w16 ⟨rfl, hm16, ho16⟩
  clear M
  replace A0 := A0.trans (ho16.below (by omega) A0.size)
  replace hwA := hwA.trans (ho16.below (by omega) hwA.size)
  replace hg0 := hg0.off OStep.held ho16 (by omega)
  replace cs00 := (ho16.cell ms0 (by omega)).trans cs00
  replace cs01 := (ho16.cell ms0 (by omega)).trans cs01
  replace ms0 := Nat.lt_of_lt_of_le ms0 ho16.size
  replace cg00 := (ho16.cell mg0 (by omega)).trans cg00
  replace cg01 := (ho16.cell mg0 (by omega)).trans cg01
  replace mg0 := Nat.lt_of_lt_of_le mg0 ho16.size
  have z16 := ho16.size
  clear hx1 ho16
  clear hm16
  go_wp2_with fail
  refine (eqStep_same (New.stp hg0.new) (StepR.frame _ _ _ _ R0.out hwA)).mono ?_
  rintro e w17 ⟨rfl, hb17⟩
  replace A0 := A0.trans (hb17.mono A0.size)
  replace hwA := hwA.trans (hb17.mono hwA.size)
  replace hg0 := hg0.keep OStep.held hb17 (by omega)
  replace cs00 := (hb17.cell (p := ⟨w4.heap.size, 0, none⟩) ms0).trans cs00
  replace cs01 := (hb17.cell (p := ⟨w4.heap.size, 1, none⟩) ms0).trans cs01
  replace ms0 := Nat.lt_of_lt_of_le ms0 hb17.size
  replace cg00 := (hb17.cell (p := ⟨w8.heap.size, 0, none⟩) mg0).trans cg00
  replace cg01 := (hb17.cell (p := ⟨w8.heap.size, 1, none⟩) mg0).trans cg01
  replace mg0 := Nat.lt_of_lt_of_le mg0 hb17.size
  have z17 := hb17.size
  clear hb17
  have qg0 : cntStp (found (lagC a0 a1)) ≤ 1099511627776 := Int.le_trans (lagC_bd a0 a1) (by decide)
  have rg0 : 0 ≤ cntStp (found (lagC a0 a1)) := cntStp_nn _
  generalize eqg0 : cntStp (found (lagC a0 a1)) = cg0 at qg0 rg0
  have Hg0 := Lib.hid eqg0
  clear eqg0
  have M := Lib.hid (markStep_in (k0 := 1) hg0 (by omega) (by rw [Hg0.out]; omega))
  rw [Hg0.out] at M
  go_wp2_with fail
  refine M.out.mono ?_
  rintro e w18 ⟨rfl, hm18, ho18⟩
  clear M
  replace A0 := A0.trans (ho18.below (by omega) A0.size)
  replace hwA := hwA.trans (ho18.below (by omega) hwA.size)
  replace cs00 := (ho18.cell ms0 (by omega)).trans cs00
  replace cs01 := (ho18.cell ms0 (by omega)).trans cs01
  replace ms0 := Nat.lt_of_lt_of_le ms0 ho18.size
  replace cg00 := (ho18.cell mg0 (by omega)).trans cg00
  replace cg01 := (ho18.cell mg0 (by omega)).trans cg01
  replace mg0 := Nat.lt_of_lt_of_le mg0 ho18.size
  have z18 := ho18.size
  clear hg0 ho18
  have hg0 := hm18
  clear hm18
  have M := Lib.hid (heldStep_same (k0 := 1) (New.stp hg0.new) (by omega) (by rw [Hg0.out]; omega))
  rw [Hg0.out] at M
  go_wp2_with fail
  refine (M.out).mono ?_
  rintro e w19 ⟨rfl, hb19⟩
  replace A0 := A0.trans (hb19.mono A0.size)
  replace hwA := hwA.trans (hb19.mono hwA.size)
  replace hg0 := hg0.keep OStep.held hb19 (by omega)
  replace cs00 := (hb19.cell (p := ⟨w4.heap.size, 0, none⟩) ms0).trans cs00
  replace cs01 := (hb19.cell (p := ⟨w4.heap.size, 1, none⟩) ms0).trans cs01
  replace ms0 := Nat.lt_of_lt_of_le ms0 hb19.size
  replace cg00 := (hb19.cell (p := ⟨w8.heap.size, 0, none⟩) mg0).trans cg00
  replace cg01 := (hb19.cell (p := ⟨w8.heap.size, 1, none⟩) mg0).trans cg01
  replace mg0 := Nat.lt_of_lt_of_le mg0 hb19.size
  have z19 := hb19.size
  clear hb19
  clear M
  go_wp2_with fail
  refine (toIntSSS_c (Tabs.frame _ _ _ _ T0'.out A0) S0.out.1 S0.out.2).mono ?_
  rintro e w20 ⟨u0, rfl, hu0, hb20⟩
  replace A0 := A0.trans (hb20.mono A0.size)
  replace hwA := hwA.trans (hb20.mono hwA.size)
  replace hg0 := hg0.keep OStep.held hb20 (by omega)
  replace cs00 := (hb20.cell (p := ⟨w4.heap.size, 0, none⟩) ms0).trans cs00
  replace cs01 := (hb20.cell (p := ⟨w4.heap.size, 1, none⟩) ms0).trans cs01
  replace ms0 := Nat.lt_of_lt_of_le ms0 hb20.size
  replace cg00 := (hb20.cell (p := ⟨w8.heap.size, 0, none⟩) mg0).trans cg00
  replace cg01 := (hb20.cell (p := ⟨w8.heap.size, 1, none⟩) mg0).trans cg01
  replace mg0 := Nat.lt_of_lt_of_le mg0 hb20.size
  have z20 := hb20.size
  clear hb20
  replace hu0 := hu0.inn (OTabs.kept _ _ _).held
  go_wp2_with fail
  refine (toStepS_o (StpsR.frame _ _ _ _ T1'.out A0) S1.out.1 S1.out.2).mono ?_
  rintro e w21 ⟨u1, rfl, hu1, hb21⟩
  replace A0 := A0.trans (hb21.mono A0.size)
  replace hwA := hwA.trans (hb21.mono hwA.size)
  replace hg0 := hg0.keep OStep.held hb21 (by omega)
  replace hu0 := hu0.keep (OTabs.kept _ _ _).held hb21 (by omega)
  replace cs00 := (hb21.cell (p := ⟨w4.heap.size, 0, none⟩) ms0).trans cs00
  replace cs01 := (hb21.cell (p := ⟨w4.heap.size, 1, none⟩) ms0).trans cs01
  replace ms0 := Nat.lt_of_lt_of_le ms0 hb21.size
  replace cg00 := (hb21.cell (p := ⟨w8.heap.size, 0, none⟩) mg0).trans cg00
  replace cg01 := (hb21.cell (p := ⟨w8.heap.size, 1, none⟩) mg0).trans cg01
  replace mg0 := Nat.lt_of_lt_of_le mg0 hb21.size
  have z21 := hb21.size
  clear hb21
  replace hu1 := hu1.inn OStps.held
  go_wp2_with fail
  refine (impl_LagOfChain_c (New.tabs hu0.new) (New.stps hu1.new)).mono ?_
  rintro e w22 ⟨f0, rfl, hf0, hb22⟩
  replace A0 := A0.trans (hb22.mono A0.size)
  replace hwA := hwA.trans (hb22.mono hwA.size)
  replace hg0 := hg0.keep OStep.held hb22 (by omega)
  replace hu0 := hu0.keep (OTabs.kept _ _ _).held hb22 (by omega)
  replace hu1 := hu1.keep OStps.held hb22 (by omega)
  replace cs00 := (hb22.cell (p := ⟨w4.heap.size, 0, none⟩) ms0).trans cs00
  replace cs01 := (hb22.cell (p := ⟨w4.heap.size, 1, none⟩) ms0).trans cs01
  replace ms0 := Nat.lt_of_lt_of_le ms0 hb22.size
  replace cg00 := (hb22.cell (p := ⟨w8.heap.size, 0, none⟩) mg0).trans cg00
  replace cg01 := (hb22.cell (p := ⟨w8.heap.size, 1, none⟩) mg0).trans cg01
  replace mg0 := Nat.lt_of_lt_of_le mg0 hb22.size
  have z22 := hb22.size
  clear hb22
  replace hf0 := hf0.inn OStep.held
  obtain ⟨kaf0, knf0, kcf0, laf0, lnf0, lcf0, rfl⟩ := (New.stp hf0.new).slices
  clear hu0
  clear hu1
  go_wp2_with fail
  obtain ⟨w23, ex, hb23, cf00, cf01, mf0⟩ := boxA_ex w22 38 (.slice kaf0 knf0 kcf0) (.slice laf0 lnf0 lcf0)
  have y23 := mf0
  change Calls Try.prog _ _ (w22.alloc (.cells #[(.slice kaf0 knf0 kcf0), (.slice laf0 lnf0 lcf0)] 38)) _
  rw [ex]
  clear ex
  replace A0 := A0.trans (hb23.mono A0.size)
  replace hwA := hwA.trans (hb23.mono hwA.size)
  replace hg0 := hg0.keep OStep.held hb23 (by omega)
  replace hf0 := hf0.keep OStep.held hb23 (by omega)
  replace cs00 := (hb23.cell (p := ⟨w4.heap.size, 0, none⟩) ms0).trans cs00
  replace cs01 := (hb23.cell (p := ⟨w4.heap.size, 1, none⟩) ms0).trans cs01
  replace ms0 := Nat.lt_of_lt_of_le ms0 hb23.size
  replace cg00 := (hb23.cell (p := ⟨w8.heap.size, 0, none⟩) mg0).trans cg00
  replace cg01 := (hb23.cell (p := ⟨w8.heap.size, 1, none⟩) mg0).trans cg01
  replace mg0 := Nat.lt_of_lt_of_le mg0 hb23.size
  have z23 := hb23.size
  clear hb23
  refine (eqStep_same (New.stp hf0.new) (StepR.frame _ _ _ _ R0.out hwA)).mono ?_
  rintro e w24 ⟨rfl, hb24⟩
  replace A0 := A0.trans (hb24.mono A0.size)
  replace hwA := hwA.trans (hb24.mono hwA.size)
  replace hg0 := hg0.keep OStep.held hb24 (by omega)
  replace hf0 := hf0.keep OStep.held hb24 (by omega)
  replace cs00 := (hb24.cell (p := ⟨w4.heap.size, 0, none⟩) ms0).trans cs00
  replace cs01 := (hb24.cell (p := ⟨w4.heap.size, 1, none⟩) ms0).trans cs01
  replace ms0 := Nat.lt_of_lt_of_le ms0 hb24.size
  replace cg00 := (hb24.cell (p := ⟨w8.heap.size, 0, none⟩) mg0).trans cg00
  replace cg01 := (hb24.cell (p := ⟨w8.heap.size, 1, none⟩) mg0).trans cg01
  replace mg0 := Nat.lt_of_lt_of_le mg0 hb24.size
  replace cf00 := (hb24.cell (p := ⟨w22.heap.size, 0, none⟩) mf0).trans cf00
  replace cf01 := (hb24.cell (p := ⟨w22.heap.size, 1, none⟩) mf0).trans cf01
  replace mf0 := Nat.lt_of_lt_of_le mf0 hb24.size
  have z24 := hb24.size
  clear hb24
  have M := Lib.hid (heldStep_same (k0 := 1) (New.stp hg0.new) (by omega) (by rw [Hg0.out]; omega))
  rw [Hg0.out] at M
  go_wp2_with fail
  refine (M.out).mono ?_
  rintro e w25 ⟨rfl, hb25⟩
  replace A0 := A0.trans (hb25.mono A0.size)
  replace hwA := hwA.trans (hb25.mono hwA.size)
  replace hg0 := hg0.keep OStep.held hb25 (by omega)
  replace hf0 := hf0.keep OStep.held hb25 (by omega)
  replace cs00 := (hb25.cell (p := ⟨w4.heap.size, 0, none⟩) ms0).trans cs00
  replace cs01 := (hb25.cell (p := ⟨w4.heap.size, 1, none⟩) ms0).trans cs01
  replace ms0 := Nat.lt_of_lt_of_le ms0 hb25.size
  replace cg00 := (hb25.cell (p := ⟨w8.heap.size, 0, none⟩) mg0).trans cg00
  replace cg01 := (hb25.cell (p := ⟨w8.heap.size, 1, none⟩) mg0).trans cg01
  replace mg0 := Nat.lt_of_lt_of_le mg0 hb25.size
  replace cf00 := (hb25.cell (p := ⟨w22.heap.size, 0, none⟩) mf0).trans cf00
  replace cf01 := (hb25.cell (p := ⟨w22.heap.size, 1, none⟩) mf0).trans cf01
  replace mf0 := Nat.lt_of_lt_of_le mf0 hb25.size
  have z25 := hb25.size
  clear hb25
  clear M
  go_wp2
  go_ret
  exact ⟨rfl, A0⟩
end Go.Proofs.Ytjgiobapdkdhpaa
