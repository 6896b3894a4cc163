/-
  The law on SplitPair, walked over the contracts of both sides.
-/
import Derived.Test.YtiecliglmfampaaLawKit
import Derived.Test.YtiecliglmfampaaPairLib
import Derived.Test.YtiecliglmfampaaLawPair
import Derived.Test.YtiecliglmfampaaPairM
import Derived.Test.YtiecliglmfampaaPair
import Derived.Test.YtiecliglmfampaaOpen
namespace Go.Proofs.Ytiecliglmfampaa
open Go.RowKit Go.Deep Go.Sd
set_option linter.unusedVariables false in
set_option maxHeartbeats 2000000 in
set_option maxRecDepth 100000 in
theorem law_SplitPair {w : World} {v0 : Value} {a0 : List (List Int)} (t0 : Tab w v0 a0) (b0 : ∀ r, r ∈ a0 → ∀ x, x ∈ r → I64 x) {a1 : Int} (t1 : I64 a1) {v2 : Value} {a2 : List Int} (t2 : Ints w v2 a2) (b2 : ∀ x, x ∈ a2 → I64 x) :
    Calls Try.prog 4 #[v0, .int .i64 a1, v2] w fun e w' => e = .returned (.bool true) ∧ Below w.heap.size w w' := by
  obtain ⟨va2, vc2, rfl, _, _, _⟩ := t2.shape
  by_cases n2 : 1048576 < a2.length
  · clear b2
    go_enter Try.func4, Try.ntmps4
    go_wp2
    go_ret
    exact ⟨rfl, Below.refl _ _⟩
  have sz2 : a2.length ≤ 1048576 := by omega
  have c0 := szSS_bd a0 1048576 (by omega)
  have d0 := fun h => cntSS_le a0 1048576 (by omega) h
  have Z0 := Lib.hid (szIntSS_c t0 (l := 1048576) (by omega) (by omega))
  generalize szSS a0 1048576 = l0 at Z0 c0 d0
  by_cases n0 : l0 < 0
  · clear c0 d0
    go_enter Try.func4, Try.ntmps4
    go_wp2_with fail
    refine (Z0.out).mono ?_
    rintro e w' ⟨rfl, rfl⟩
    go_wp2
    go_ret
    exact ⟨rfl, Below.refl _ _⟩
  have d0' := d0 (by omega)
  have sz0 : a0.length ≤ 1048576 := by have := cntSS_nn a0; omega
  have sz0' : ∀ r, r ∈ a0 → r.length ≤ 1048576 := fun r hr => by have := len_le_cntSS hr; omega
  have e0 : cntSS a0 ≤ 1048576 := by omega
  have l00 : 0 ≤ l0 := by omega
  have l01 : l0 ≤ 1048576 := by omega
  clear c0 d0 d0' n0
  have B0 := Lib.hid b0
  clear b0
  have S0 := Lib.hid sz0'
  have E0 := Lib.hid e0
  clear sz0' e0
  have B2 := Lib.hid b2
  clear b2
  go_enter Try.func4, Try.ntmps4
  go_wp2_with fail
  refine (Z0.out).mono ?_
  rintro e w' ⟨rfl, rfl⟩
  have A0 : Below w.heap.size w w := Below.refl _ _
  go_wp2_with fail
  refine (toIntSS_c (Tab.frame _ _ _ _ t0 A0) sz0 S0.out).mono ?_
  rintro e w1 ⟨p0, rfl, hp0, hb1⟩
  replace A0 := A0.trans (hb1.mono A0.size)
  have z1 := hb1.size
  clear hb1
  replace hp0 := hp0.inn (OTab.kept _ _).held
  go_wp2_with fail
  refine (toIntS_c (Ints.frame _ _ _ _ t2 A0) sz2).mono ?_
  rintro e w2 ⟨p2, rfl, hp2, hb2⟩
  replace A0 := A0.trans (hb2.mono A0.size)
  replace hp0 := hp0.keep (OTab.kept _ _).held hb2 (by omega)
  have z2 := hb2.size
  clear hb2
  replace hp2 := hp2.inn (OInts.kept _).held
  go_wp2_with fail
  refine (spec_SplitPair_c (New.tab hp0.new) (New.ints hp2.new)).mono ?_
  rintro e w3 ⟨s0, s1, rfl, hap, hb3⟩
  replace A0 := A0.trans (hb3.mono A0.size)
  replace hp0 := hp0.keep (OTab.kept _ _).held hb3 (by omega)
  replace hp2 := hp2.keep (OInts.kept _).held hb3 (by omega)
  have z3 := hb3.size
  clear hb3
  have hs0 := hap.left.inn (OTab.kept _ _).held
  have hs1 := hap.right.inn (OTab.kept _ _).held
  clear hap
  clear hp0
  clear hp2
  have R0 : Tab w3 s0 (pairRV a0 a1 a2) := (New.tab hs0.new)
  clear hs0
  have R1 : Tab w3 s1 (pairSV a0 a1 a2) := (New.tab hs1.new)
  clear hs1
  have hwA : Below w3.heap.size w3 w3 := Below.refl _ _
  go_wp2_with fail
  refine (toIntSS_c (Tab.frame _ _ _ _ t0 A0) sz0 S0.out).mono ?_
  rintro e w4 ⟨x0, rfl, hx0, hb4⟩
  replace A0 := A0.trans (hb4.mono A0.size)
  replace hwA := hwA.trans (hb4.mono hwA.size)
  have z4 := hb4.size
  clear hb4
  replace hx0 := hx0.inn (OTab.kept _ _).held
  go_wp2_with fail
  refine (toIntS_c (Ints.frame _ _ _ _ t2 A0) sz2).mono ?_
  rintro e w5 ⟨x2, rfl, hx2, hb5⟩
  replace A0 := A0.trans (hb5.mono A0.size)
  replace hwA := hwA.trans (hb5.mono hwA.size)
  replace hx0 := hx0.keep (OTab.kept _ _).held hb5 (by omega)
  have z5 := hb5.size
  clear hb5
  replace hx2 := hx2.inn (OInts.kept _).held
  go_wp2_with fail
  refine (impl_SplitPair_c (New.tab hx0.new) (New.ints hx2.new)).mono ?_
  rintro e w6 ⟨g0, g1, rfl, hap, hb6⟩
  replace A0 := A0.trans (hb6.mono A0.size)
  replace hwA := hwA.trans (hb6.mono hwA.size)
  replace hx0 := hx0.keep (OTab.kept _ _).held hb6 (by omega)
  replace hx2 := hx2.keep (OInts.kept _).held hb6 (by omega)
  have z6 := hb6.size
  clear hb6
  obtain ⟨G0, G1, hg0, hg1, hdd⟩ := hap.inF (OTab.kept _ _).held (OTab.kept _ _).held
  clear hap
  go_wp2_with fail
  refine (eqIntSS_same (New.tab hg0.new) (Tab.frame _ _ _ _ R0 hwA)).mono ?_
  rintro e w7 ⟨rfl, hdr⟩
  have hb7 := hdr.below w6.heap.size
  clear hdr
  replace A0 := A0.trans (hb7.mono A0.size)
  replace hwA := hwA.trans (hb7.mono hwA.size)
  replace hx0 := hx0.keep (OTab.kept _ _).held hb7 (by omega)
  replace hx2 := hx2.keep (OInts.kept _).held hb7 (by omega)
  replace hg0 := hg0.keep (OTab.kept _ _).held hb7 (by omega)
  replace hg1 := hg1.keep (OTab.kept _ _).held hb7 (by omega)
  have z7 := hb7.size
  clear hb7
  go_wp2_with fail
  refine (eqIntSS_same (New.tab hg1.new) (Tab.frame _ _ _ _ R1 hwA)).mono ?_
  rintro e w8 ⟨rfl, hdr⟩
  have hb8 := hdr.below w7.heap.size
  clear hdr
  replace A0 := A0.trans (hb8.mono A0.size)
  replace hwA := hwA.trans (hb8.mono hwA.size)
  replace hx0 := hx0.keep (OTab.kept _ _).held hb8 (by omega)
  replace hx2 := hx2.keep (OInts.kept _).held hb8 (by omega)
  replace hg0 := hg0.keep (OTab.kept _ _).held hb8 (by omega)
  replace hg1 := hg1.keep (OTab.kept _ _).held hb8 (by omega)
  have z8 := hb8.size
  clear hb8
  go_wp2_with fail
  refine (toIntSS_c (Tab.frame _ _ _ _ t0 A0) sz0 S0.out).mono ?_
  rintro e w9 ⟨y0, rfl, hy0, hb9⟩
  replace A0 := A0.trans (hb9.mono A0.size)
  replace hwA := hwA.trans (hb9.mono hwA.size)
  replace hx0 := hx0.keep (OTab.kept _ _).held hb9 (by omega)
  replace hx2 := hx2.keep (OInts.kept _).held hb9 (by omega)
  replace hg0 := hg0.keep (OTab.kept _ _).held hb9 (by omega)
  replace hg1 := hg1.keep (OTab.kept _ _).held hb9 (by omega)
  have z9 := hb9.size
  clear hb9
  replace hy0 := hy0.inn (OTab.kept _ _).held
  go_wp2_with fail
  refine (eqIntSS_same (New.tab hx0.new) (New.tab hy0.new)).mono ?_
  rintro e w10 ⟨rfl, hdr⟩
  have hb10 := hdr.below w9.heap.size
  clear hdr
  replace A0 := A0.trans (hb10.mono A0.size)
  replace hwA := hwA.trans (hb10.mono hwA.size)
  replace hx0 := hx0.keep (OTab.kept _ _).held hb10 (by omega)
  replace hx2 := hx2.keep (OInts.kept _).held hb10 (by omega)
  replace hg0 := hg0.keep (OTab.kept _ _).held hb10 (by omega)
  replace hg1 := hg1.keep (OTab.kept _ _).held hb10 (by omega)
  replace hy0 := hy0.keep (OTab.kept _ _).held hb10 (by omega)
  have z10 := hb10.size
  clear hb10
  clear hy0
  go_wp2_with fail
  refine (toIntS_c (Ints.frame _ _ _ _ t2 A0) sz2).mono ?_
  rintro e w11 ⟨y2, rfl, hy2, hb11⟩
  replace A0 := A0.trans (hb11.mono A0.size)
  replace hwA := hwA.trans (hb11.mono hwA.size)
  replace hx0 := hx0.keep (OTab.kept _ _).held hb11 (by omega)
  replace hx2 := hx2.keep (OInts.kept _).held hb11 (by omega)
  replace hg0 := hg0.keep (OTab.kept _ _).held hb11 (by omega)
  replace hg1 := hg1.keep (OTab.kept _ _).held hb11 (by omega)
  have z11 := hb11.size
  clear hb11
  replace hy2 := hy2.inn (OInts.kept _).held
  go_wp2_with fail
  refine (eqIntS_same (New.ints hx2.new) (New.ints hy2.new)).mono ?_
  rintro e w12 ⟨rfl, hdr⟩
  have hb12 := hdr.below w11.heap.size
  clear hdr
  replace A0 := A0.trans (hb12.mono A0.size)
  replace hwA := hwA.trans (hb12.mono hwA.size)
  replace hx0 := hx0.keep (OTab.kept _ _).held hb12 (by omega)
  replace hx2 := hx2.keep (OInts.kept _).held hb12 (by omega)
  replace hg0 := hg0.keep (OTab.kept _ _).held hb12 (by omega)
  replace hg1 := hg1.keep (OTab.kept _ _).held hb12 (by omega)
  replace hy2 := hy2.keep (OInts.kept _).held hb12 (by omega)
  have z12 := hb12.size
  clear hb12
  clear hy2
  have q0 := E0.out
  have r0 := cntSS_nn a0
  generalize hq0 : cntSS a0 = cq0 at q0 r0
  have Hq0 := Lib.hid hq0
  clear hq0
  have M := Lib.hid (markIntSS_in (k0 := 1) hx0 (by omega) (by rw [Hq0.out]; omega))
  rw [Hq0.out] at M
  go_wp2_with fail
  refine M.out.mono ?_
  rintro e w13 ⟨rfl, hm13, ho13⟩
  clear M
  replace A0 := A0.trans (ho13.below (by omega) A0.size)
  replace hwA := hwA.trans (ho13.below (by omega) hwA.size)
  replace hx2 := hx2.off (OInts.kept _).held ho13 (by omega)
  replace hg0 := hg0.off (OTab.kept _ _).held ho13 (by omega)
  replace hg1 := hg1.off (OTab.kept _ _).held ho13 (by omega)
  have z13 := ho13.size
  clear hx0 ho13 hm13
  have M := Lib.hid (markIntS_in (k0 := (1 + cq0)) hx2 (by omega) (by omega))
  go_wp2_with fail
  refine M.out.mono ?_
  rintro e w14 ⟨rfl, hm14, ho14⟩
  clear M
  replace A0 := A0.trans (ho14.below (by omega) A0.size)
  replace hwA := hwA.trans (ho14.below (by omega) hwA.size)
  replace hg0 := hg0.off (OTab.kept _ _).held ho14 (by omega)
  replace hg1 := hg1.off (OTab.kept _ _).held ho14 (by omega)
  have z14 := ho14.size
  clear hx2 ho14 hm14
  go_wp2_with fail
  refine (eqIntSS_same (New.tab hg0.new) (Tab.frame _ _ _ _ R0 hwA)).mono ?_
  rintro e w15 ⟨rfl, hdr⟩
  have hb15 := hdr.below w14.heap.size
  clear hdr
  replace A0 := A0.trans (hb15.mono A0.size)
  replace hwA := hwA.trans (hb15.mono hwA.size)
  replace hg0 := hg0.keep (OTab.kept _ _).held hb15 (by omega)
  replace hg1 := hg1.keep (OTab.kept _ _).held hb15 (by omega)
  have z15 := hb15.size
  clear hb15
  go_wp2_with fail
  refine (eqIntSS_same (New.tab hg1.new) (Tab.frame _ _ _ _ R1 hwA)).mono ?_
  rintro e w16 ⟨rfl, hdr⟩
  have hb16 := hdr.below w15.heap.size
  clear hdr
  replace A0 := A0.trans (hb16.mono A0.size)
  replace hwA := hwA.trans (hb16.mono hwA.size)
  replace hg0 := hg0.keep (OTab.kept _ _).held hb16 (by omega)
  replace hg1 := hg1.keep (OTab.kept _ _).held hb16 (by omega)
  have z16 := hb16.size
  clear hb16
  have qg0 : cntSS (pairRV a0 a1 a2) ≤ 1099511627776 := Int.le_trans (cntSS_bd (pairRV_bd a0 a1 a2).1 (pairRV_bd a0 a1 a2).2) (by decide)
  have rg0 : 0 ≤ cntSS (pairRV a0 a1 a2) := cntSS_nn _
  generalize eqg0 : cntSS (pairRV a0 a1 a2) = cg0 at qg0 rg0
  have Hg0 := Lib.hid eqg0
  clear eqg0
  have qg1 : cntSS (pairSV a0 a1 a2) ≤ 1099511627776 := Int.le_trans (cntSS_bd (pairSV_bd a0 a1 a2).1 (pairSV_bd a0 a1 a2).2) (by decide)
  have rg1 : 0 ≤ cntSS (pairSV a0 a1 a2) := cntSS_nn _
  generalize eqg1 : cntSS (pairSV a0 a1 a2) = cg1 at qg1 rg1
  have Hg1 := Lib.hid eqg1
  clear eqg1
  have M := Lib.hid (markIntSS_F (k0 := 1) hg0 (by omega) (by rw [Hg0.out]; omega))
  rw [Hg0.out] at M
  go_wp2_with fail
  refine M.out.mono ?_
  rintro e w17 ⟨rfl, hm17, ho17, hoF⟩
  clear M
  replace A0 := A0.trans (ho17.below (by omega) A0.size)
  replace hwA := hwA.trans (ho17.below (by omega) hwA.size)
  replace hg1 := hg1.offF (OTab.kept _ _).held hoF (fun b h1 h0 => hdd b h0 h1)
  have z17 := ho17.size
  clear hg0 ho17
  have hg0 := hm17
  clear hm17
  have M := Lib.hid (markIntSS_F (k0 := (1 + cg0)) hg1 (by omega) (by rw [Hg1.out]; omega))
  rw [Hg1.out] at M
  go_wp2_with fail
  refine M.out.mono ?_
  rintro e w18 ⟨rfl, hm18, ho18, hoF⟩
  clear M
  replace A0 := A0.trans (ho18.below (by omega) A0.size)
  replace hwA := hwA.trans (ho18.below (by omega) hwA.size)
  replace hg0 := hg0.offF (OTab.kept _ _).held hoF hdd
  have z18 := ho18.size
  clear hg1 ho18
  have hg1 := hm18
  clear hm18
  have M := Lib.hid (heldIntSS_same (k0 := 1) (New.tab hg0.new) (by omega) (by rw [Hg0.out]; omega))
  rw [Hg0.out] at M
  go_wp2_with fail
  refine M.out.mono ?_
  rintro e w' ⟨rfl, rfl⟩
  clear M
  have M := Lib.hid (heldIntSS_same (k0 := (1 + cg0)) (New.tab hg1.new) (by omega) (by rw [Hg1.out]; omega))
  rw [Hg1.out] at M
  go_wp2_with fail
  refine M.out.mono ?_
  rintro e w' ⟨rfl, rfl⟩
  clear M
  go_wp2_with fail
  refine (toIntSS_c (Tab.frame _ _ _ _ t0 A0) sz0 S0.out).mono ?_
  rintro e w19 ⟨u0, rfl, hu0, hb19⟩
  replace A0 := A0.trans (hb19.mono A0.size)
  replace hwA := hwA.trans (hb19.mono hwA.size)
  replace hg0 := hg0.keep (OTab.kept _ _).held hb19 (by omega)
  replace hg1 := hg1.keep (OTab.kept _ _).held hb19 (by omega)
  have z19 := hb19.size
  clear hb19
  replace hu0 := hu0.inn (OTab.kept _ _).held
  go_wp2_with fail
  refine (toIntS_c (Ints.frame _ _ _ _ t2 A0) sz2).mono ?_
  rintro e w20 ⟨u2, rfl, hu2, hb20⟩
  replace A0 := A0.trans (hb20.mono A0.size)
  replace hwA := hwA.trans (hb20.mono hwA.size)
  replace hg0 := hg0.keep (OTab.kept _ _).held hb20 (by omega)
  replace hg1 := hg1.keep (OTab.kept _ _).held hb20 (by omega)
  replace hu0 := hu0.keep (OTab.kept _ _).held hb20 (by omega)
  have z20 := hb20.size
  clear hb20
  replace hu2 := hu2.inn (OInts.kept _).held
  go_wp2_with fail
  refine (impl_SplitPair_c (New.tab hu0.new) (New.ints hu2.new)).mono ?_
  rintro e w21 ⟨f0, f1, rfl, hap, hb21⟩
  replace A0 := A0.trans (hb21.mono A0.size)
  replace hwA := hwA.trans (hb21.mono hwA.size)
  replace hg0 := hg0.keep (OTab.kept _ _).held hb21 (by omega)
  replace hg1 := hg1.keep (OTab.kept _ _).held hb21 (by omega)
  replace hu0 := hu0.keep (OTab.kept _ _).held hb21 (by omega)
  replace hu2 := hu2.keep (OInts.kept _).held hb21 (by omega)
  have z21 := hb21.size
  clear hb21
  have hf0 := hap.left.inn (OTab.kept _ _).held
  have hf1 := hap.right.inn (OTab.kept _ _).held
  clear hap
  clear hu0
  clear hu2
  go_wp2_with fail
  refine (eqIntSS_same (New.tab hf0.new) (Tab.frame _ _ _ _ R0 hwA)).mono ?_
  rintro e w22 ⟨rfl, hdr⟩
  have hb22 := hdr.below w21.heap.size
  clear hdr
  replace A0 := A0.trans (hb22.mono A0.size)
  replace hwA := hwA.trans (hb22.mono hwA.size)
  replace hg0 := hg0.keep (OTab.kept _ _).held hb22 (by omega)
  replace hg1 := hg1.keep (OTab.kept _ _).held hb22 (by omega)
  replace hf0 := hf0.keep (OTab.kept _ _).held hb22 (by omega)
  replace hf1 := hf1.keep (OTab.kept _ _).held hb22 (by omega)
  have z22 := hb22.size
  clear hb22
  go_wp2_with fail
  refine (eqIntSS_same (New.tab hf1.new) (Tab.frame _ _ _ _ R1 hwA)).mono ?_
  rintro e w23 ⟨rfl, hdr⟩
  have hb23 := hdr.below w22.heap.size
  clear hdr
  replace A0 := A0.trans (hb23.mono A0.size)
  replace hwA := hwA.trans (hb23.mono hwA.size)
  replace hg0 := hg0.keep (OTab.kept _ _).held hb23 (by omega)
  replace hg1 := hg1.keep (OTab.kept _ _).held hb23 (by omega)
  replace hf0 := hf0.keep (OTab.kept _ _).held hb23 (by omega)
  replace hf1 := hf1.keep (OTab.kept _ _).held hb23 (by omega)
  have z23 := hb23.size
  clear hb23
  have M := Lib.hid (heldIntSS_same (k0 := 1) (New.tab hg0.new) (by omega) (by rw [Hg0.out]; omega))
  rw [Hg0.out] at M
  go_wp2_with fail
  refine M.out.mono ?_
  rintro e w' ⟨rfl, rfl⟩
  clear M
  have M := Lib.hid (heldIntSS_same (k0 := (1 + cg0)) (New.tab hg1.new) (by omega) (by rw [Hg1.out]; omega))
  rw [Hg1.out] at M
  go_wp2_with fail
  refine M.out.mono ?_
  rintro e w' ⟨rfl, rfl⟩
  clear M
  go_wp2
  go_ret
  exact ⟨rfl, A0⟩
end Go.Proofs.Ytiecliglmfampaa
