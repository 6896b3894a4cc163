/-
  The law on ZetaNumbers, walked over the contracts of both sides.
-/
import Derived.Test.YtdohepngandajaaLawKit
import Derived.Test.YtdohepngandajaaPolG
import Derived.Test.YtdohepngandajaaOpen
namespace Go.Proofs.Ytdohepngandajaa
open Go.RowKit Go.Deep Go.Sd
set_option linter.unusedVariables false in
set_option maxHeartbeats 2000000 in
theorem law_ZetaNumbers {w : World} {v0 : Value} {a0 : List (List Int)} (t0 : Tab w v0 a0) (b0 : ∀ r, r ∈ a0 → ∀ x, x ∈ r → I64 x) {a1 : Int} (t1 : I64 a1) :
    Calls Try.prog 9 #[v0, .int .i64 a1] w fun e w' => e = .returned (.bool true) ∧ Below w.heap.size w w' := by
  have c0 := szSS_bd a0 1048576 (by omega)
  have d0 := fun h => cntSS_le a0 1048576 (by omega) h
  have Z0 := Lib.hid (szIntSS_c t0 (l := 1048576) (by omega) (by omega))
  generalize szSS a0 1048576 = l0 at Z0 c0 d0
  by_cases n0 : l0 < 0
  · clear c0 d0
    go_enter Try.func9, Try.ntmps9
    go_wp2_with fail
    refine (Z0.out).mono ?_
    rintro e w' ⟨rfl, rfl⟩
    go_wp2
    go_ret
    exact ⟨rfl, Below.refl _ _⟩
  have d0' := d0 (by omega)
  have sz0 : a0.length ≤ 1048576 := by have := cntSS_nn a0; omega
  have sz0' : ∀ r, r ∈ a0 → r.length ≤ 1048576 := fun r hr => by have := len_le_cntSS hr; omega
  have e0 : cntSS a0 ≤ 1048576 := by omega
  have l00 : 0 ≤ l0 := by omega
  have l01 : l0 ≤ 1048576 := by omega
  clear c0 d0 d0' n0
  have B0 := Lib.hid b0
  clear b0
  have S0 := Lib.hid sz0'
  have E0 := Lib.hid e0
  clear sz0' e0
  go_enter Try.func9, Try.ntmps9
  go_wp2_with fail
  refine (Z0.out).mono ?_
  rintro e w' ⟨rfl, rfl⟩
  have A0 : Below w.heap.size w w := Below.refl _ _
  go_wp2_with fail
  refine (toIntSS_c (Tab.frame _ _ _ _ t0 A0) sz0 S0.out).mono ?_
  rintro e w1 ⟨p0, rfl, hp0, hb1⟩
  replace A0 := A0.trans (hb1.mono A0.size)
  have z1 := hb1.size
  clear hb1
  replace hp0 := hp0.inn (OTab.kept _ _).held
  go_wp2_with fail
  refine (spec_ZetaNumbers_c (n := a1) (New.tab hp0.new)).mono ?_
  rintro e w2 ⟨s0, rfl, hs0, hb2⟩
  replace A0 := A0.trans (hb2.mono A0.size)
  replace hp0 := hp0.keep (OTab.kept _ _).held hb2 (by omega)
  have z2 := hb2.size
  clear hb2
  replace hs0 := hs0.inn (OInts.kept _).held
  clear hp0
  have R0 : Ints w2 s0 (zetaV a0 a1) := (New.ints hs0.new)
  clear hs0
  have hwA : Below w2.heap.size w2 w2 := Below.refl _ _
  go_wp2_with fail
  refine (toIntSS_c (Tab.frame _ _ _ _ t0 A0) sz0 S0.out).mono ?_
  rintro e w3 ⟨x0, rfl, hx0, hb3⟩
  replace A0 := A0.trans (hb3.mono A0.size)
  replace hwA := hwA.trans (hb3.mono hwA.size)
  have z3 := hb3.size
  clear hb3
  replace hx0 := hx0.inn (OTab.kept _ _).held
  go_wp2_with fail
  refine (impl_ZetaNumbers_c (n := a1) (New.tab hx0.new)).mono ?_
  rintro e w4 ⟨g0, rfl, hg0, hb4⟩
  replace A0 := A0.trans (hb4.mono A0.size)
  replace hwA := hwA.trans (hb4.mono hwA.size)
  replace hx0 := hx0.keep (OTab.kept _ _).held hb4 (by omega)
  have z4 := hb4.size
  clear hb4
  replace hg0 := hg0.inn (OInts.kept _).held
  go_wp2_with fail
  refine (eqIntS_same (New.ints hg0.new) (Ints.frame _ _ _ _ R0 hwA)).mono ?_
  rintro e w5 ⟨rfl, hdr⟩
  have hb5 := hdr.below w4.heap.size
  clear hdr
  replace A0 := A0.trans (hb5.mono A0.size)
  replace hwA := hwA.trans (hb5.mono hwA.size)
  replace hx0 := hx0.keep (OTab.kept _ _).held hb5 (by omega)
  replace hg0 := hg0.keep (OInts.kept _).held hb5 (by omega)
  have z5 := hb5.size
  clear hb5
  go_wp2_with fail
  refine (toIntSS_c (Tab.frame _ _ _ _ t0 A0) sz0 S0.out).mono ?_
  rintro e w6 ⟨y0, rfl, hy0, hb6⟩
  replace A0 := A0.trans (hb6.mono A0.size)
  replace hwA := hwA.trans (hb6.mono hwA.size)
  replace hx0 := hx0.keep (OTab.kept _ _).held hb6 (by omega)
  replace hg0 := hg0.keep (OInts.kept _).held hb6 (by omega)
  have z6 := hb6.size
  clear hb6
  replace hy0 := hy0.inn (OTab.kept _ _).held
  go_wp2_with fail
  refine (eqIntSS_same (New.tab hx0.new) (New.tab hy0.new)).mono ?_
  rintro e w7 ⟨rfl, hdr⟩
  have hb7 := hdr.below w6.heap.size
  clear hdr
  replace A0 := A0.trans (hb7.mono A0.size)
  replace hwA := hwA.trans (hb7.mono hwA.size)
  replace hx0 := hx0.keep (OTab.kept _ _).held hb7 (by omega)
  replace hg0 := hg0.keep (OInts.kept _).held hb7 (by omega)
  replace hy0 := hy0.keep (OTab.kept _ _).held hb7 (by omega)
  have z7 := hb7.size
  clear hb7
  clear hy0
  have q0 := E0.out
  have r0 := cntSS_nn a0
  generalize hq0 : cntSS a0 = cq0 at q0 r0
  have Hq0 := Lib.hid hq0
  clear hq0
  have M := Lib.hid (markIntSS_in (k0 := 1) hx0 (by omega) (by rw [Hq0.out]; omega))
  rw [Hq0.out] at M
  go_wp2_with fail
  refine M.out.mono ?_
  rintro e w8 ⟨rfl, hm8, ho8⟩
  clear M
  replace A0 := A0.trans (ho8.below (by omega) A0.size)
  replace hwA := hwA.trans (ho8.below (by omega) hwA.size)
  replace hg0 := hg0.off (OInts.kept _).held ho8 (by omega)
  have z8 := ho8.size
  clear hx0 ho8 hm8
  go_wp2_with fail
  refine (eqIntS_same (New.ints hg0.new) (Ints.frame _ _ _ _ R0 hwA)).mono ?_
  rintro e w9 ⟨rfl, hdr⟩
  have hb9 := hdr.below w8.heap.size
  clear hdr
  replace A0 := A0.trans (hb9.mono A0.size)
  replace hwA := hwA.trans (hb9.mono hwA.size)
  replace hg0 := hg0.keep (OInts.kept _).held hb9 (by omega)
  have z9 := hb9.size
  clear hb9
  have qg0 : (((zetaV a0 a1)).length : Int) ≤ 1099511627776 := zetaV_cnt a0 a1
  have rg0 : 0 ≤ (((zetaV a0 a1)).length : Int) := by omega
  generalize eqg0 : (((zetaV a0 a1)).length : Int) = cg0 at qg0 rg0
  have Hg0 := Lib.hid eqg0
  clear eqg0
  have M := Lib.hid (markIntS_in (k0 := 1) hg0 (by omega) (by rw [Hg0.out]; omega))
  rw [Hg0.out] at M
  go_wp2_with fail
  refine M.out.mono ?_
  rintro e w10 ⟨rfl, hm10, ho10⟩
  clear M
  replace A0 := A0.trans (ho10.below (by omega) A0.size)
  replace hwA := hwA.trans (ho10.below (by omega) hwA.size)
  have z10 := ho10.size
  clear hg0 ho10
  have hg0 := hm10
  clear hm10
  have M := Lib.hid (heldIntS_same (k0 := 1) (New.ints hg0.new) (by omega) (by rw [Hg0.out]; omega))
  rw [Hg0.out] at M
  go_wp2_with fail
  refine M.out.mono ?_
  rintro e w' ⟨rfl, rfl⟩
  clear M
  go_wp2_with fail
  refine (toIntSS_c (Tab.frame _ _ _ _ t0 A0) sz0 S0.out).mono ?_
  rintro e w11 ⟨u0, rfl, hu0, hb11⟩
  replace A0 := A0.trans (hb11.mono A0.size)
  replace hwA := hwA.trans (hb11.mono hwA.size)
  replace hg0 := hg0.keep (OInts.kept _).held hb11 (by omega)
  have z11 := hb11.size
  clear hb11
  replace hu0 := hu0.inn (OTab.kept _ _).held
  go_wp2_with fail
  refine (impl_ZetaNumbers_c (n := a1) (New.tab hu0.new)).mono ?_
  rintro e w12 ⟨f0, rfl, hf0, hb12⟩
  replace A0 := A0.trans (hb12.mono A0.size)
  replace hwA := hwA.trans (hb12.mono hwA.size)
  replace hg0 := hg0.keep (OInts.kept _).held hb12 (by omega)
  replace hu0 := hu0.keep (OTab.kept _ _).held hb12 (by omega)
  have z12 := hb12.size
  clear hb12
  replace hf0 := hf0.inn (OInts.kept _).held
  clear hu0
  go_wp2_with fail
  refine (eqIntS_same (New.ints hf0.new) (Ints.frame _ _ _ _ R0 hwA)).mono ?_
  rintro e w13 ⟨rfl, hdr⟩
  have hb13 := hdr.below w12.heap.size
  clear hdr
  replace A0 := A0.trans (hb13.mono A0.size)
  replace hwA := hwA.trans (hb13.mono hwA.size)
  replace hg0 := hg0.keep (OInts.kept _).held hb13 (by omega)
  replace hf0 := hf0.keep (OInts.kept _).held hb13 (by omega)
  have z13 := hb13.size
  clear hb13
  have M := Lib.hid (heldIntS_same (k0 := 1) (New.ints hg0.new) (by omega) (by rw [Hg0.out]; omega))
  rw [Hg0.out] at M
  go_wp2_with fail
  refine M.out.mono ?_
  rintro e w' ⟨rfl, rfl⟩
  clear M
  go_wp2
  go_ret
  exact ⟨rfl, A0⟩
end Go.Proofs.Ytdohepngandajaa
