/-
  The law on FindLag, walked over the contracts of both sides.
-/
import Derived.Test.YtjgiobapdkdhpaaLawKit
import Derived.Test.YtjgiobapdkdhpaaBoxKit
import Derived.Deep.RegionHeld3
import Derived.Deep.DeepCutAuto
import Derived.Test.YtjgiobapdkdhpaaStepH
import Derived.Test.YtjgiobapdkdhpaaFLagM
import Derived.Test.YtjgiobapdkdhpaaFLagS
import Derived.Test.YtjgiobapdkdhpaaFLagI
import Derived.Test.YtjgiobapdkdhpaaOpen
namespace Go.Proofs.Ytjgiobapdkdhpaa
open Go.RowKit Go.Deep Go.Sd
set_option linter.unusedVariables false in
set_option maxHeartbeats 2000000 in
set_option maxRecDepth 10000 in
theorem law_FindLag {w : World} {v0 : Value} {a0 : List (List Int)} (t0 : Tab w v0 a0) (b0 : ∀ r, r ∈ a0 → ∀ x, x ∈ r → I64 x) {v1 : Value} {a1 : List (List Int)} (t1 : Tab w v1 a1) (b1 : ∀ r, r ∈ a1 → ∀ x, x ∈ r → I64 x) {a2 : Int} (t2 : I64 a2) :
    Calls Try.prog 4 #[v0, v1, .int .i64 a2] w fun e w' => e = .returned (.bool true) ∧ Below w.heap.size w w' := by
  clear b0
  have T0 := t0
  obtain ⟨va0, vc0, rfl, _, _, _⟩ := t0.shape
  clear t0
  have T0' := Lib.hid T0
  clear T0
  clear b1
  have T1 := t1
  obtain ⟨va1, vc1, rfl, _, _, _⟩ := t1.shape
  clear t1
  have T1' := Lib.hid T1
  clear T1
  have A0 : Below w.heap.size w w := Below.refl _ _
  have Z0 := Lib.hid (fun (v : Value) (wz : World) (h : Tab wz v a0) => szIntSS_c h (l := 1048576) (by omega) (by omega))
  have c0 := szSS_bd a0 1048576 (by omega)
  have d0 := fun h => cntSS_le a0 1048576 (by omega) h
  generalize szSS a0 1048576 = l0 at Z0 c0 d0
  have D0 := Lib.hid d0
  clear d0
  go_enter Try.func4, Try.ntmps4
  go_wp2_with fail
  refine (Z0.out _ _ (Tab.frame _ _ _ _ T0'.out A0)).mono ?_
  rintro e w' ⟨rfl, rfl⟩
  by_cases n0 : l0 < 0
  · go_wp2
    go_ret
    exact ⟨rfl, A0⟩
  have d0' := D0.out (by omega)
  have sz0 : a0.length ≤ 1048576 := by have := cntSS_nn a0; omega
  have S0 := Lib.hid (show ∀ r, r ∈ a0 → r.length ≤ 1048576 from fun r hr => by have := len_le_cntSS hr; omega)
  have E0 := Lib.hid (show cntSS a0 ≤ 1048576 from by have := a0.length; omega)
  have l00 : 0 ≤ l0 := by omega
  have l01 : l0 ≤ 1048576 := by omega
  clear c0 d0' n0 Z0 D0
  have Z1 := Lib.hid (fun (v : Value) (wz : World) (h : Tab wz v a1) => szIntSS_c h (l := l0) (by omega) (by omega))
  have c1 := szSS_bd a1 l0 (by omega)
  have d1 := fun h => cntSS_le a1 l0 (by omega) h
  generalize szSS a1 l0 = l1 at Z1 c1 d1
  have D1 := Lib.hid d1
  clear d1
  go_wp2_with fail
  refine (Z1.out _ _ (Tab.frame _ _ _ _ T1'.out A0)).mono ?_
  rintro e w' ⟨rfl, rfl⟩
  by_cases n1 : l1 < 0
  · go_wp2
    go_ret
    exact ⟨rfl, A0⟩
  have d1' := D1.out (by omega)
  have sz1 : a1.length ≤ 1048576 := by have := cntSS_nn a1; omega
  have S1 := Lib.hid (show ∀ r, r ∈ a1 → r.length ≤ 1048576 from fun r hr => by have := len_le_cntSS hr; omega)
  have E1 := Lib.hid (show cntSS a1 ≤ 1048576 from by have := a1.length; omega)
  have l10 : 0 ≤ l1 := by omega
  have l11 : l1 ≤ 1048576 := by omega
  clear c1 d1' n1 Z1 D1
  go_wp2_with fail
  refine (toIntSS_c (Tab.frame _ _ _ _ T0'.out A0) sz0 S0.out).mono ?_
  rintro e w1 ⟨p0, rfl, hp0, hb1⟩
  replace A0 := A0.trans (hb1.mono A0.size)
  have z1 := hb1.size
  clear hb1
  replace hp0 := hp0.inn (OTab.kept _ _).held
  go_wp2_with fail
  refine (toIntSS_c (Tab.frame _ _ _ _ T1'.out A0) sz1 S1.out).mono ?_
  rintro e w2 ⟨p1, rfl, hp1, hb2⟩
  replace A0 := A0.trans (hb2.mono A0.size)
  replace hp0 := hp0.keep (OTab.kept _ _).held hb2 (by omega)
  have z2 := hb2.size
  clear hb2
  replace hp1 := hp1.inn (OTab.kept _ _).held
  go_wp2_with fail
  refine (spec_FindLag_c (New.tab hp0.new) (New.tab hp1.new) t2).mono ?_
  rintro e w3 ⟨s0, rfl, hs0, hb3⟩
  replace A0 := A0.trans (hb3.mono A0.size)
  replace hp0 := hp0.keep (OTab.kept _ _).held hb3 (by omega)
  replace hp1 := hp1.keep (OTab.kept _ _).held hb3 (by omega)
  have z3 := hb3.size
  clear hb3
  replace hs0 := hs0.inn OStep.held
  obtain ⟨kas0, kns0, kcs0, las0, lns0, lcs0, rfl⟩ := (New.stp hs0.new).slices
  clear hp0
  clear hp1
  have R0' : StepR w3 (.agg #[(.slice kas0 kns0 kcs0), (.slice las0 lns0 lcs0)]) (found (lagF a0 a1 a2)) := (New.stp hs0.new)
  have R0 := Lib.hid R0'
  clear R0'
  clear hs0
  have hwA : Below w3.heap.size w3 w3 := Below.refl _ _
  go_wp2_with fail
  obtain ⟨w4, ex, hb4, cs00, cs01, ms0⟩ := boxA_ex w3 38 (.slice kas0 kns0 kcs0) (.slice las0 lns0 lcs0)
  have y4 := ms0
  change Calls Try.prog _ _ (w3.alloc (.cells #[(.slice kas0 kns0 kcs0), (.slice las0 lns0 lcs0)] 38)) _
  rw [ex]
  clear ex
  replace A0 := A0.trans (hb4.mono A0.size)
  replace hwA := hwA.trans (hb4.mono hwA.size)
  have z4 := hb4.size
  clear hb4
  refine (toIntSS_c (Tab.frame _ _ _ _ T0'.out A0) sz0 S0.out).mono ?_
  rintro e w5 ⟨x0, rfl, hx0, hb5⟩
  replace A0 := A0.trans (hb5.mono A0.size)
  replace hwA := hwA.trans (hb5.mono hwA.size)
  replace cs00 := (hb5.cell (p := ⟨w3.heap.size, 0, none⟩) ms0).trans cs00
  replace cs01 := (hb5.cell (p := ⟨w3.heap.size, 1, none⟩) ms0).trans cs01
  replace ms0 := Nat.lt_of_lt_of_le ms0 hb5.size
  have z5 := hb5.size
  clear hb5
  replace hx0 := hx0.inn (OTab.kept _ _).held
  go_wp2_with fail
  refine (toIntSS_c (Tab.frame _ _ _ _ T1'.out A0) sz1 S1.out).mono ?_
  rintro e w6 ⟨x1, rfl, hx1, hb6⟩
  replace A0 := A0.trans (hb6.mono A0.size)
  replace hwA := hwA.trans (hb6.mono hwA.size)
  replace hx0 := hx0.keep (OTab.kept _ _).held hb6 (by omega)
  replace cs00 := (hb6.cell (p := ⟨w3.heap.size, 0, none⟩) ms0).trans cs00
  replace cs01 := (hb6.cell (p := ⟨w3.heap.size, 1, none⟩) ms0).trans cs01
  replace ms0 := Nat.lt_of_lt_of_le ms0 hb6.size
  have z6 := hb6.size
  clear hb6
  replace hx1 := hx1.inn (OTab.kept _ _).held
  go_wp2_with fail
  refine (impl_FindLag_c (New.tab hx0.new) (New.tab hx1.new) t2).mono ?_
  rintro e w7 ⟨g0, rfl, hg0, hb7⟩
  replace A0 := A0.trans (hb7.mono A0.size)
  replace hwA := hwA.trans (hb7.mono hwA.size)
  replace hx0 := hx0.keep (OTab.kept _ _).held hb7 (by omega)
  replace hx1 := hx1.keep (OTab.kept _ _).held hb7 (by omega)
  replace cs00 := (hb7.cell (p := ⟨w3.heap.size, 0, none⟩) ms0).trans cs00
  replace cs01 := (hb7.cell (p := ⟨w3.heap.size, 1, none⟩) ms0).trans cs01
  replace ms0 := Nat.lt_of_lt_of_le ms0 hb7.size
  have z7 := hb7.size
  clear hb7
  replace hg0 := hg0.inn OStep.held
  obtain ⟨kag0, kng0, kcg0, lag0, lng0, lcg0, rfl⟩ := (New.stp hg0.new).slices
  go_wp2_with fail
  obtain ⟨w8, ex, hb8, cg00, cg01, mg0⟩ := boxA_ex w7 38 (.slice kag0 kng0 kcg0) (.slice lag0 lng0 lcg0)
  have y8 := mg0
  change Calls Try.prog _ _ (w7.alloc (.cells #[(.slice kag0 kng0 kcg0), (.slice lag0 lng0 lcg0)] 38)) _
  rw [ex]
  clear ex
  replace A0 := A0.trans (hb8.mono A0.size)
  replace hwA := hwA.trans (hb8.mono hwA.size)
  replace hx0 := hx0.keep (OTab.kept _ _).held hb8 (by omega)
  replace hx1 := hx1.keep (OTab.kept _ _).held hb8 (by omega)
  replace hg0 := hg0.keep OStep.held hb8 (by omega)
  replace cs00 := (hb8.cell (p := ⟨w3.heap.size, 0, none⟩) ms0).trans cs00
  replace cs01 := (hb8.cell (p := ⟨w3.heap.size, 1, none⟩) ms0).trans cs01
  replace ms0 := Nat.lt_of_lt_of_le ms0 hb8.size
  have z8 := hb8.size
  clear hb8
  refine (eqStep_same (New.stp hg0.new) (StepR.frame _ _ _ _ R0.out hwA)).mono ?_
  rintro e w9 ⟨rfl, hb9⟩
  replace A0 := A0.trans (hb9.mono A0.size)
  replace hwA := hwA.trans (hb9.mono hwA.size)
  replace hx0 := hx0.keep (OTab.kept _ _).held hb9 (by omega)
  replace hx1 := hx1.keep (OTab.kept _ _).held hb9 (by omega)
  replace hg0 := hg0.keep OStep.held hb9 (by omega)
  replace cs00 := (hb9.cell (p := ⟨w3.heap.size, 0, none⟩) ms0).trans cs00
  replace cs01 := (hb9.cell (p := ⟨w3.heap.size, 1, none⟩) ms0).trans cs01
  replace ms0 := Nat.lt_of_lt_of_le ms0 hb9.size
  replace cg00 := (hb9.cell (p := ⟨w7.heap.size, 0, none⟩) mg0).trans cg00
  replace cg01 := (hb9.cell (p := ⟨w7.heap.size, 1, none⟩) mg0).trans cg01
  replace mg0 := Nat.lt_of_lt_of_le mg0 hb9.size
  have z9 := hb9.size
  clear hb9
  go_wp2_with fail
  refine (toIntSS_c (Tab.frame _ _ _ _ T0'.out A0) sz0 S0.out).mono ?_
  rintro e w10 ⟨y0, rfl, hy0, hb10⟩
  replace A0 := A0.trans (hb10.mono A0.size)
  replace hwA := hwA.trans (hb10.mono hwA.size)
  replace hx0 := hx0.keep (OTab.kept _ _).held hb10 (by omega)
  replace hx1 := hx1.keep (OTab.kept _ _).held hb10 (by omega)
  replace hg0 := hg0.keep OStep.held hb10 (by omega)
  replace cs00 := (hb10.cell (p := ⟨w3.heap.size, 0, none⟩) ms0).trans cs00
  replace cs01 := (hb10.cell (p := ⟨w3.heap.size, 1, none⟩) ms0).trans cs01
  replace ms0 := Nat.lt_of_lt_of_le ms0 hb10.size
  replace cg00 := (hb10.cell (p := ⟨w7.heap.size, 0, none⟩) mg0).trans cg00
  replace cg01 := (hb10.cell (p := ⟨w7.heap.size, 1, none⟩) mg0).trans cg01
  replace mg0 := Nat.lt_of_lt_of_le mg0 hb10.size
  have z10 := hb10.size
  clear hb10
  replace hy0 := hy0.inn (OTab.kept _ _).held
  go_wp2_with fail
  refine (eqIntSS_same (New.tab hx0.new) (New.tab hy0.new)).mono ?_
  rintro e w11 ⟨rfl, hdr⟩
  have hb11 := hdr.below w10.heap.size
  clear hdr
  replace A0 := A0.trans (hb11.mono A0.size)
  replace hwA := hwA.trans (hb11.mono hwA.size)
  replace hx0 := hx0.keep (OTab.kept _ _).held hb11 (by omega)
  replace hx1 := hx1.keep (OTab.kept _ _).held hb11 (by omega)
  replace hg0 := hg0.keep OStep.held hb11 (by omega)
  replace hy0 := hy0.keep (OTab.kept _ _).held hb11 (by omega)
  replace cs00 := (hb11.cell (p := ⟨w3.heap.size, 0, none⟩) ms0).trans cs00
  replace cs01 := (hb11.cell (p := ⟨w3.heap.size, 1, none⟩) ms0).trans cs01
  replace ms0 := Nat.lt_of_lt_of_le ms0 hb11.size
  replace cg00 := (hb11.cell (p := ⟨w7.heap.size, 0, none⟩) mg0).trans cg00
  replace cg01 := (hb11.cell (p := ⟨w7.heap.size, 1, none⟩) mg0).trans cg01
  replace mg0 := Nat.lt_of_lt_of_le mg0 hb11.size
  have z11 := hb11.size
  clear hb11
  clear hy0
  go_wp2_with fail
  refine (toIntSS_c (Tab.frame _ _ _ _ T1'.out A0) sz1 S1.out).mono ?_
  rintro e w12 ⟨y1, rfl, hy1, hb12⟩
  replace A0 := A0.trans (hb12.mono A0.size)
  replace hwA := hwA.trans (hb12.mono hwA.size)
  replace hx0 := hx0.keep (OTab.kept _ _).held hb12 (by omega)
  replace hx1 := hx1.keep (OTab.kept _ _).held hb12 (by omega)
  replace hg0 := hg0.keep OStep.held hb12 (by omega)
  replace cs00 := (hb12.cell (p := ⟨w3.heap.size, 0, none⟩) ms0).trans cs00
  replace cs01 := (hb12.cell (p := ⟨w3.heap.size, 1, none⟩) ms0).trans cs01
  replace ms0 := Nat.lt_of_lt_of_le ms0 hb12.size
  replace cg00 := (hb12.cell (p := ⟨w7.heap.size, 0, none⟩) mg0).trans cg00
  replace cg01 := (hb12.cell (p := ⟨w7.heap.size, 1, none⟩) mg0).trans cg01
  replace mg0 := Nat.lt_of_lt_of_le mg0 hb12.size
  have z12 := hb12.size
  clear hb12
  replace hy1 := hy1.inn (OTab.kept _ _).held
  go_wp2_with fail
  refine (eqIntSS_same (New.tab hx1.new) (New.tab hy1.new)).mono ?_
  rintro e w13 ⟨rfl, hdr⟩
  have hb13 := hdr.below w12.heap.size
  clear hdr
  replace A0 := A0.trans (hb13.mono A0.size)
  replace hwA := hwA.trans (hb13.mono hwA.size)
  replace hx0 := hx0.keep (OTab.kept _ _).held hb13 (by omega)
  replace hx1 := hx1.keep (OTab.kept _ _).held hb13 (by omega)
  replace hg0 := hg0.keep OStep.held hb13 (by omega)
  replace hy1 := hy1.keep (OTab.kept _ _).held hb13 (by omega)
  replace cs00 := (hb13.cell (p := ⟨w3.heap.size, 0, none⟩) ms0).trans cs00
  replace cs01 := (hb13.cell (p := ⟨w3.heap.size, 1, none⟩) ms0).trans cs01
  replace ms0 := Nat.lt_of_lt_of_le ms0 hb13.size
  replace cg00 := (hb13.cell (p := ⟨w7.heap.size, 0, none⟩) mg0).trans cg00
  replace cg01 := (hb13.cell (p := ⟨w7.heap.size, 1, none⟩) mg0).trans cg01
  replace mg0 := Nat.lt_of_lt_of_le mg0 hb13.size
  have z13 := hb13.size
  clear hb13
  clear hy1
  have q0d := E0.out
  have r0d := cntSS_nn a0
  generalize hq0 : cntSS a0 = cq0 at q0d r0d
  have Hq0 := Lib.hid hq0
  clear hq0
  have q1d := E1.out
  have r1d := cntSS_nn a1
  generalize hq1 : cntSS a1 = cq1 at q1d r1d
  have Hq1 := Lib.hid hq1
  clear hq1
  have M := Lib.hid (markIntSS_in (k0 := 1) hx0 (by omega) (by rw [Hq0.out]; omega))
  rw [Hq0.out] at M
  go_wp2_with fail
  refine M.out.mono ?_
  rintro e w14 ⟨rfl, hm14, ho14⟩
  clear M
  replace A0 := A0.trans (ho14.below (by omega) A0.size)
  replace hwA := hwA.trans (ho14.below (by omega) hwA.size)
  replace hx1 := hx1.off (OTab.kept _ _).held ho14 (by omega)
  replace hg0 := hg0.off OStep.held ho14 (by omega)
  replace cs00 := (ho14.cell ms0 (by omega)).trans cs00
  replace cs01 := (ho14.cell ms0 (by omega)).trans cs01
  replace ms0 := Nat.lt_of_lt_of_le ms0 ho14.size
  replace cg00 := (ho14.cell mg0 (by omega)).trans cg00
  replace cg01 := (ho14.cell mg0 (by omega)).trans cg01
  replace mg0 := Nat.lt_of_lt_of_le mg0 ho14.size
  have z14 := ho14.size
  clear hx0 ho14
  clear hm14
  have M := Lib.hid (markIntSS_in (k0 := (1 + cq0)) hx1 (by omega) (by rw [Hq1.out]; omega))
  rw [Hq1.out] at M
  go_wp2_with fail
  refine M.out.mono ?_
  rintro e w15 ⟨rfl, hm15, ho15⟩
  clear M
  replace A0 := A0.trans (ho15.below (by omega) A0.size)
  replace hwA := hwA.trans (ho15.below (by omega) hwA.size)
  replace hg0 := hg0.off OStep.held ho15 (by omega)
  replace cs00 := (ho15.cell ms0 (by omega)).trans cs00
  replace cs01 := (ho15.cell ms0 (by omega)).trans cs01
  replace ms0 := Nat.lt_of_lt_of_le ms0 ho15.size
  replace cg00 := (ho15.cell mg0 (by omega)).trans cg00
  replace cg01 := (ho15.cell mg0 (by omega)).trans cg01
  replace mg0 := Nat.lt_of_lt_of_le mg0 ho15.size
  have z15 := ho15.size
  clear hx1 ho15
  clear hm15
  go_wp2_with fail
  refine (eqStep_same (New.stp hg0.new) (StepR.frame _ _ _ _ R0.out hwA)).mono ?_
  rintro e w16 ⟨rfl, hb16⟩
  replace A0 := A0.trans (hb16.mono A0.size)
  replace hwA := hwA.trans (hb16.mono hwA.size)
  replace hg0 := hg0.keep OStep.held hb16 (by omega)
  replace cs00 := (hb16.cell (p := ⟨w3.heap.size, 0, none⟩) ms0).trans cs00
  replace cs01 := (hb16.cell (p := ⟨w3.heap.size, 1, none⟩) ms0).trans cs01
  replace ms0 := Nat.lt_of_lt_of_le ms0 hb16.size
  replace cg00 := (hb16.cell (p := ⟨w7.heap.size, 0, none⟩) mg0).trans cg00
  replace cg01 := (hb16.cell (p := ⟨w7.heap.size, 1, none⟩) mg0).trans cg01
  replace mg0 := Nat.lt_of_lt_of_le mg0 hb16.size
  have z16 := hb16.size
  clear hb16
  have qg0 : cntStp (found (lagF a0 a1 a2)) ≤ 1099511627776 := Int.le_trans (lagF_bd a0 a1 a2) (by decide)
  have rg0 : 0 ≤ cntStp (found (lagF a0 a1 a2)) := cntStp_nn _
  generalize eqg0 : cntStp (found (lagF a0 a1 a2)) = cg0 at qg0 rg0
  have Hg0 := Lib.hid eqg0
  clear eqg0
  have M := Lib.hid (markStep_in (k0 := 1) hg0 (by omega) (by rw [Hg0.out]; omega))
  rw [Hg0.out] at M
  go_wp2_with fail
  refine M.out.mono ?_
  rintro e w17 ⟨rfl, hm17, ho17⟩
  clear M
  replace A0 := A0.trans (ho17.below (by omega) A0.size)
  replace hwA := hwA.trans (ho17.below (by omega) hwA.size)
  replace cs00 := (ho17.cell ms0 (by omega)).trans cs00
  replace cs01 := (ho17.cell ms0 (by omega)).trans cs01
  replace ms0 := Nat.lt_of_lt_of_le ms0 ho17.size
  replace cg00 := (ho17.cell mg0 (by omega)).trans cg00
  replace cg01 := (ho17.cell mg0 (by omega)).trans cg01
  replace mg0 := Nat.lt_of_lt_of_le mg0 ho17.size
  have z17 := ho17.size
  clear hg0 ho17
  have hg0 := hm17
  clear hm17
  have M := Lib.hid (heldStep_same (k0 := 1) (New.stp hg0.new) (by omega) (by rw [Hg0.out]; omega))
  rw [Hg0.out] at M
  go_wp2_with fail
  refine (M.out).mono ?_
  rintro e w18 ⟨rfl, hb18⟩
  replace A0 := A0.trans (hb18.mono A0.size)
  replace hwA := hwA.trans (hb18.mono hwA.size)
  replace hg0 := hg0.keep OStep.held hb18 (by omega)
  replace cs00 := (hb18.cell (p := ⟨w3.heap.size, 0, none⟩) ms0).trans cs00
  replace cs01 := (hb18.cell (p := ⟨w3.heap.size, 1, none⟩) ms0).trans cs01
  replace ms0 := Nat.lt_of_lt_of_le ms0 hb18.size
  replace cg00 := (hb18.cell (p := ⟨w7.heap.size, 0, none⟩) mg0).trans cg00
  replace cg01 := (hb18.cell (p := ⟨w7.heap.size, 1, none⟩) mg0).trans cg01
  replace mg0 := Nat.lt_of_lt_of_le mg0 hb18.size
  have z18 := hb18.size
  clear hb18
  clear M
  go_wp2_with fail
  refine (toIntSS_c (Tab.frame _ _ _ _ T0'.out A0) sz0 S0.out).mono ?_
  rintro e w19 ⟨u0, rfl, hu0, hb19⟩
  replace A0 := A0.trans (hb19.mono A0.size)
  replace hwA := hwA.trans (hb19.mono hwA.size)
  replace hg0 := hg0.keep OStep.held hb19 (by omega)
  replace cs00 := (hb19.cell (p := ⟨w3.heap.size, 0, none⟩) ms0).trans cs00
  replace cs01 := (hb19.cell (p := ⟨w3.heap.size, 1, none⟩) ms0).trans cs01
  replace ms0 := Nat.lt_of_lt_of_le ms0 hb19.size
  replace cg00 := (hb19.cell (p := ⟨w7.heap.size, 0, none⟩) mg0).trans cg00
  replace cg01 := (hb19.cell (p := ⟨w7.heap.size, 1, none⟩) mg0).trans cg01
  replace mg0 := Nat.lt_of_lt_of_le mg0 hb19.size
  have z19 := hb19.size
  clear hb19
  replace hu0 := hu0.inn (OTab.kept _ _).held
  go_wp2_with fail
  refine (toIntSS_c (Tab.frame _ _ _ _ T1'.out A0) sz1 S1.out).mono ?_
  rintro e w20 ⟨u1, rfl, hu1, hb20⟩
  replace A0 := A0.trans (hb20.mono A0.size)
  replace hwA := hwA.trans (hb20.mono hwA.size)
  replace hg0 := hg0.keep OStep.held hb20 (by omega)
  replace hu0 := hu0.keep (OTab.kept _ _).held hb20 (by omega)
  replace cs00 := (hb20.cell (p := ⟨w3.heap.size, 0, none⟩) ms0).trans cs00
  replace cs01 := (hb20.cell (p := ⟨w3.heap.size, 1, none⟩) ms0).trans cs01
  replace ms0 := Nat.lt_of_lt_of_le ms0 hb20.size
  replace cg00 := (hb20.cell (p := ⟨w7.heap.size, 0, none⟩) mg0).trans cg00
  replace cg01 := (hb20.cell (p := ⟨w7.heap.size, 1, none⟩) mg0).trans cg01
  replace mg0 := Nat.lt_of_lt_of_le mg0 hb20.size
  have z20 := hb20.size
  clear hb20
  replace hu1 := hu1.inn (OTab.kept _ _).held
  go_wp2_with fail
  refine (impl_FindLag_c (New.tab hu0.new) (New.tab hu1.new) t2).mono ?_
  rintro e w21 ⟨f0, rfl, hf0, hb21⟩
  replace A0 := A0.trans (hb21.mono A0.size)
  replace hwA := hwA.trans (hb21.mono hwA.size)
  replace hg0 := hg0.keep OStep.held hb21 (by omega)
  replace hu0 := hu0.keep (OTab.kept _ _).held hb21 (by omega)
  replace hu1 := hu1.keep (OTab.kept _ _).held hb21 (by omega)
  replace cs00 := (hb21.cell (p := ⟨w3.heap.size, 0, none⟩) ms0).trans cs00
  replace cs01 := (hb21.cell (p := ⟨w3.heap.size, 1, none⟩) ms0).trans cs01
  replace ms0 := Nat.lt_of_lt_of_le ms0 hb21.size
  replace cg00 := (hb21.cell (p := ⟨w7.heap.size, 0, none⟩) mg0).trans cg00
  replace cg01 := (hb21.cell (p := ⟨w7.heap.size, 1, none⟩) mg0).trans cg01
  replace mg0 := Nat.lt_of_lt_of_le mg0 hb21.size
  have z21 := hb21.size
  clear hb21
  replace hf0 := hf0.inn OStep.held
  obtain ⟨kaf0, knf0, kcf0, laf0, lnf0, lcf0, rfl⟩ := (New.stp hf0.new).slices
  clear hu0
  clear hu1
  go_wp2_with fail
  obtain ⟨w22, ex, hb22, cf00, cf01, mf0⟩ := boxA_ex w21 38 (.slice kaf0 knf0 kcf0) (.slice laf0 lnf0 lcf0)
  have y22 := mf0
  change Calls Try.prog _ _ (w21.alloc (.cells #[(.slice kaf0 knf0 kcf0), (.slice laf0 lnf0 lcf0)] 38)) _
  rw [ex]
  clear ex
  replace A0 := A0.trans (hb22.mono A0.size)
  replace hwA := hwA.trans (hb22.mono hwA.size)
  replace hg0 := hg0.keep OStep.held hb22 (by omega)
  replace hf0 := hf0.keep OStep.held hb22 (by omega)
  replace cs00 := (hb22.cell (p := ⟨w3.heap.size, 0, none⟩) ms0).trans cs00
  replace cs01 := (hb22.cell (p := ⟨w3.heap.size, 1, none⟩) ms0).trans cs01
  replace ms0 := Nat.lt_of_lt_of_le ms0 hb22.size
  replace cg00 := (hb22.cell (p := ⟨w7.heap.size, 0, none⟩) mg0).trans cg00
  replace cg01 := (hb22.cell (p := ⟨w7.heap.size, 1, none⟩) mg0).trans cg01
  replace mg0 := Nat.lt_of_lt_of_le mg0 hb22.size
  have z22 := hb22.size
  clear hb22
  refine (eqStep_same (New.stp hf0.new) (StepR.frame _ _ _ _ R0.out hwA)).mono ?_
  rintro e w23 ⟨rfl, hb23⟩
  replace A0 := A0.trans (hb23.mono A0.size)
  replace hwA := hwA.trans (hb23.mono hwA.size)
  replace hg0 := hg0.keep OStep.held hb23 (by omega)
  replace hf0 := hf0.keep OStep.held hb23 (by omega)
  replace cs00 := (hb23.cell (p := ⟨w3.heap.size, 0, none⟩) ms0).trans cs00
  replace cs01 := (hb23.cell (p := ⟨w3.heap.size, 1, none⟩) ms0).trans cs01
  replace ms0 := Nat.lt_of_lt_of_le ms0 hb23.size
  replace cg00 := (hb23.cell (p := ⟨w7.heap.size, 0, none⟩) mg0).trans cg00
  replace cg01 := (hb23.cell (p := ⟨w7.heap.size, 1, none⟩) mg0).trans cg01
  replace mg0 := Nat.lt_of_lt_of_le mg0 hb23.size
  replace cf00 := (hb23.cell (p := ⟨w21.heap.size, 0, none⟩) mf0).trans cf00
  replace cf01 := (hb23.cell (p := ⟨w21.heap.size, 1, none⟩) mf0).trans cf01
  replace mf0 := Nat.lt_of_lt_of_le mf0 hb23.size
  have z23 := hb23.size
  clear hb23
  have M := Lib.hid (heldStep_same (k0 := 1) (New.stp hg0.new) (by omega) (by rw [Hg0.out]; omega))
  rw [Hg0.out] at M
  go_wp2_with fail
  refine (M.out).mono ?_
  rintro e w24 ⟨rfl, hb24⟩
  replace A0 := A0.trans (hb24.mono A0.size)
  replace hwA := hwA.trans (hb24.mono hwA.size)
  replace hg0 := hg0.keep OStep.held hb24 (by omega)
  replace hf0 := hf0.keep OStep.held hb24 (by omega)
  replace cs00 := (hb24.cell (p := ⟨w3.heap.size, 0, none⟩) ms0).trans cs00
  replace cs01 := (hb24.cell (p := ⟨w3.heap.size, 1, none⟩) ms0).trans cs01
  replace ms0 := Nat.lt_of_lt_of_le ms0 hb24.size
  replace cg00 := (hb24.cell (p := ⟨w7.heap.size, 0, none⟩) mg0).trans cg00
  replace cg01 := (hb24.cell (p := ⟨w7.heap.size, 1, none⟩) mg0).trans cg01
  replace mg0 := Nat.lt_of_lt_of_le mg0 hb24.size
  replace cf00 := (hb24.cell (p := ⟨w21.heap.size, 0, none⟩) mf0).trans cf00
  replace cf01 := (hb24.cell (p := ⟨w21.heap.size, 1, none⟩) mf0).trans cf01
  replace mf0 := Nat.lt_of_lt_of_le mf0 hb24.size
  have z24 := hb24.size
  clear hb24
  clear M
  go_wp2
  go_ret
  exact ⟨rfl, A0⟩
end Go.Proofs.Ytjgiobapdkdhpaa
