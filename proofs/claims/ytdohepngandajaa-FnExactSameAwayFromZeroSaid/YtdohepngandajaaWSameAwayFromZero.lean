/-
  The law on SameAwayFromZero, walked over the contracts of both sides.
-/
import Derived.Test.YtdohepngandajaaLawKit
import Derived.Test.YtdohepngandajaaPolG
import Derived.Test.YtdohepngandajaaOpen
namespace Go.Proofs.Ytdohepngandajaa
open Go.RowKit Go.Deep Go.Sd
set_option linter.unusedVariables false in
set_option maxHeartbeats 2000000 in
theorem law_SameAwayFromZero {w : World} {v0 : Value} {a0 : List (List Int)} (t0 : Tab w v0 a0) (b0 : ∀ r, r ∈ a0 → ∀ x, x ∈ r → I64 x) {v1 : Value} {a1 : List (List Int)} (t1 : Tab w v1 a1) (b1 : ∀ r, r ∈ a1 → ∀ x, x ∈ r → I64 x) :
    Calls Try.prog 10 #[v0, v1] w fun e w' => e = .returned (.bool true) ∧ Below w.heap.size w w' := by
  have c0 := szSS_bd a0 1048576 (by omega)
  have d0 := fun h => cntSS_le a0 1048576 (by omega) h
  have Z0 := Lib.hid (szIntSS_c t0 (l := 1048576) (by omega) (by omega))
  generalize szSS a0 1048576 = l0 at Z0 c0 d0
  by_cases n0 : l0 < 0
  · clear c0 d0
    go_enter Try.func10, Try.ntmps10
    go_wp2_with fail
    refine (Z0.out).mono ?_
    rintro e w' ⟨rfl, rfl⟩
    go_wp2
    go_ret
    exact ⟨rfl, Below.refl _ _⟩
  have d0' := d0 (by omega)
  have sz0 : a0.length ≤ 1048576 := by have := cntSS_nn a0; omega
  have sz0' : ∀ r, r ∈ a0 → r.length ≤ 1048576 := fun r hr => by have := len_le_cntSS hr; omega
  have e0 : cntSS a0 ≤ 1048576 := by omega
  have l00 : 0 ≤ l0 := by omega
  have l01 : l0 ≤ 1048576 := by omega
  clear c0 d0 d0' n0
  have c1 := szSS_bd a1 l0 (by omega)
  have d1 := fun h => cntSS_le a1 l0 (by omega) h
  have Z1 := Lib.hid (szIntSS_c t1 (l := l0) (by omega) (by omega))
  generalize szSS a1 l0 = l1 at Z1 c1 d1
  by_cases n1 : l1 < 0
  · clear c1 d1
    go_enter Try.func10, Try.ntmps10
    go_wp2_with fail
    refine (Z0.out).mono ?_
    rintro e w' ⟨rfl, rfl⟩
    go_wp2_with fail
    refine (Z1.out).mono ?_
    rintro e w' ⟨rfl, rfl⟩
    go_wp2
    go_ret
    exact ⟨rfl, Below.refl _ _⟩
  have d1' := d1 (by omega)
  have sz1 : a1.length ≤ 1048576 := by have := cntSS_nn a1; omega
  have sz1' : ∀ r, r ∈ a1 → r.length ≤ 1048576 := fun r hr => by have := len_le_cntSS hr; omega
  have e1 : cntSS a1 ≤ 1048576 := by omega
  have l10 : 0 ≤ l1 := by omega
  have l11 : l1 ≤ 1048576 := by omega
  clear c1 d1 d1' n1
  have B0 := Lib.hid b0
  clear b0
  have S0 := Lib.hid sz0'
  have E0 := Lib.hid e0
  clear sz0' e0
  have B1 := Lib.hid b1
  clear b1
  have S1 := Lib.hid sz1'
  have E1 := Lib.hid e1
  clear sz1' e1
  go_enter Try.func10, Try.ntmps10
  go_wp2_with fail
  refine (Z0.out).mono ?_
  rintro e w' ⟨rfl, rfl⟩
  go_wp2_with fail
  refine (Z1.out).mono ?_
  rintro e w' ⟨rfl, rfl⟩
  have A0 : Below w.heap.size w w := Below.refl _ _
  go_wp2_with fail
  refine (toIntSS_c (Tab.frame _ _ _ _ t0 A0) sz0 S0.out).mono ?_
  rintro e w1 ⟨p0, rfl, hp0, hb1⟩
  replace A0 := A0.trans (hb1.mono A0.size)
  have z1 := hb1.size
  clear hb1
  replace hp0 := hp0.inn (OTab.kept _ _).held
  go_wp2_with fail
  refine (toIntSS_c (Tab.frame _ _ _ _ t1 A0) sz1 S1.out).mono ?_
  rintro e w2 ⟨p1, rfl, hp1, hb2⟩
  replace A0 := A0.trans (hb2.mono A0.size)
  replace hp0 := hp0.keep (OTab.kept _ _).held hb2 (by omega)
  have z2 := hb2.size
  clear hb2
  replace hp1 := hp1.inn (OTab.kept _ _).held
  go_wp2_with fail
  refine (spec_SameAway_c (New.tab hp0.new) (New.tab hp1.new)).mono ?_
  rintro e w3 ⟨rfl, hb3⟩
  replace A0 := A0.trans (hb3.mono A0.size)
  replace hp0 := hp0.keep (OTab.kept _ _).held hb3 (by omega)
  replace hp1 := hp1.keep (OTab.kept _ _).held hb3 (by omega)
  have z3 := hb3.size
  clear hb3
  clear hp0
  clear hp1
  go_wp2_with fail
  refine (toIntSS_c (Tab.frame _ _ _ _ t0 A0) sz0 S0.out).mono ?_
  rintro e w4 ⟨x0, rfl, hx0, hb4⟩
  replace A0 := A0.trans (hb4.mono A0.size)
  have z4 := hb4.size
  clear hb4
  replace hx0 := hx0.inn (OTab.kept _ _).held
  go_wp2_with fail
  refine (toIntSS_c (Tab.frame _ _ _ _ t1 A0) sz1 S1.out).mono ?_
  rintro e w5 ⟨x1, rfl, hx1, hb5⟩
  replace A0 := A0.trans (hb5.mono A0.size)
  replace hx0 := hx0.keep (OTab.kept _ _).held hb5 (by omega)
  have z5 := hb5.size
  clear hb5
  replace hx1 := hx1.inn (OTab.kept _ _).held
  go_wp2_with fail
  refine (impl_SameAway_c (New.tab hx0.new) (New.tab hx1.new)).mono ?_
  rintro e w6 ⟨rfl, hb6⟩
  replace A0 := A0.trans (hb6.mono A0.size)
  replace hx0 := hx0.keep (OTab.kept _ _).held hb6 (by omega)
  replace hx1 := hx1.keep (OTab.kept _ _).held hb6 (by omega)
  have z6 := hb6.size
  clear hb6
  go_wp2_with fail
  refine (toIntSS_c (Tab.frame _ _ _ _ t0 A0) sz0 S0.out).mono ?_
  rintro e w7 ⟨y0, rfl, hy0, hb7⟩
  replace A0 := A0.trans (hb7.mono A0.size)
  replace hx0 := hx0.keep (OTab.kept _ _).held hb7 (by omega)
  replace hx1 := hx1.keep (OTab.kept _ _).held hb7 (by omega)
  have z7 := hb7.size
  clear hb7
  replace hy0 := hy0.inn (OTab.kept _ _).held
  go_wp2_with fail
  refine (eqIntSS_same (New.tab hx0.new) (New.tab hy0.new)).mono ?_
  rintro e w8 ⟨rfl, hdr⟩
  have hb8 := hdr.below w7.heap.size
  clear hdr
  replace A0 := A0.trans (hb8.mono A0.size)
  replace hx0 := hx0.keep (OTab.kept _ _).held hb8 (by omega)
  replace hx1 := hx1.keep (OTab.kept _ _).held hb8 (by omega)
  replace hy0 := hy0.keep (OTab.kept _ _).held hb8 (by omega)
  have z8 := hb8.size
  clear hb8
  clear hy0
  go_wp2_with fail
  refine (toIntSS_c (Tab.frame _ _ _ _ t1 A0) sz1 S1.out).mono ?_
  rintro e w9 ⟨y1, rfl, hy1, hb9⟩
  replace A0 := A0.trans (hb9.mono A0.size)
  replace hx0 := hx0.keep (OTab.kept _ _).held hb9 (by omega)
  replace hx1 := hx1.keep (OTab.kept _ _).held hb9 (by omega)
  have z9 := hb9.size
  clear hb9
  replace hy1 := hy1.inn (OTab.kept _ _).held
  go_wp2_with fail
  refine (eqIntSS_same (New.tab hx1.new) (New.tab hy1.new)).mono ?_
  rintro e w10 ⟨rfl, hdr⟩
  have hb10 := hdr.below w9.heap.size
  clear hdr
  replace A0 := A0.trans (hb10.mono A0.size)
  replace hx0 := hx0.keep (OTab.kept _ _).held hb10 (by omega)
  replace hx1 := hx1.keep (OTab.kept _ _).held hb10 (by omega)
  replace hy1 := hy1.keep (OTab.kept _ _).held hb10 (by omega)
  have z10 := hb10.size
  clear hb10
  clear hy1
  go_wp2
  go_ret
  exact ⟨rfl, A0⟩
end Go.Proofs.Ytdohepngandajaa
