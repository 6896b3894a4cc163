/-
  The law on CountOrbits, walked over the contracts of both sides.
-/
import Derived.Test.YtiecliglmfampaaLawKit
import Derived.Test.YtiecliglmfampaaLeastC
import Derived.Test.YtiecliglmfampaaOpen
namespace Go.Proofs.Ytiecliglmfampaa
open Go.RowKit Go.Deep Go.Sd
set_option linter.unusedVariables false in
set_option maxHeartbeats 1000000 in
theorem law_CountOrbits {w : World} {v0 : Value} {a0 : List (List Int)} (t0 : Tab w v0 a0) (b0 : ∀ r, r ∈ a0 → ∀ x, x ∈ r → I64 x) {a1 : Int} (t1 : I64 a1) :
    Calls Try.prog 11 #[v0, .int .i64 a1] w fun e w' => e = .returned (.bool true) ∧ Below w.heap.size w w' := by
  have c0 := szSS_bd a0 1048576 (by omega)
  have d0 := fun h => cntSS_le a0 1048576 (by omega) h
  have Z0 := Lib.hid (szIntSS_c t0 (l := 1048576) (by omega) (by omega))
  generalize szSS a0 1048576 = l0 at Z0 c0 d0
  by_cases n0 : l0 < 0
  · clear c0 d0
    go_enter Try.func11, Try.ntmps11
    go_wp2_with fail
    refine (Z0.out).mono ?_
    rintro e w' ⟨rfl, rfl⟩
    go_wp2
    go_ret
    exact ⟨rfl, Below.refl _ _⟩
  have d0' := d0 (by omega)
  have sz0 : a0.length ≤ 1048576 := by have := cntSS_nn a0; omega
  have sz0' : ∀ r, r ∈ a0 → r.length ≤ 1048576 := fun r hr => by have := len_le_cntSS hr; omega
  have e0 : cntSS a0 ≤ 1048576 := by omega
  have l00 : 0 ≤ l0 := by omega
  have l01 : l0 ≤ 1048576 := by omega
  clear c0 d0 d0' n0
  have B0 := Lib.hid b0
  clear b0
  have S0 := Lib.hid sz0'
  have E0 := Lib.hid e0
  clear sz0' e0
  go_enter Try.func11, Try.ntmps11
  go_wp2_with fail
  refine (Z0.out).mono ?_
  rintro e w' ⟨rfl, rfl⟩
  have A0 : Below w.heap.size w w := Below.refl _ _
  go_wp2_with fail
  refine (toIntSS_c (Tab.frame _ _ _ _ t0 A0) sz0 S0.out).mono ?_
  rintro e w1 ⟨p0, rfl, hp0, hb1⟩
  replace A0 := A0.trans (hb1.mono A0.size)
  have z1 := hb1.size
  clear hb1
  replace hp0 := hp0.inn (OTab.kept _ _).held
  go_wp2_with fail
  refine (spec_CountOrbits_c (New.tab hp0.new) t1).mono ?_
  rintro e w2 ⟨rfl, hb2⟩
  replace A0 := A0.trans (hb2.mono A0.size)
  replace hp0 := hp0.keep (OTab.kept _ _).held hb2 (by omega)
  have z2 := hb2.size
  clear hb2
  clear hp0
  go_wp2_with fail
  refine (toIntSS_c (Tab.frame _ _ _ _ t0 A0) sz0 S0.out).mono ?_
  rintro e w3 ⟨x0, rfl, hx0, hb3⟩
  replace A0 := A0.trans (hb3.mono A0.size)
  have z3 := hb3.size
  clear hb3
  replace hx0 := hx0.inn (OTab.kept _ _).held
  go_wp2_with fail
  refine (impl_CountOrbits_c (New.tab hx0.new) t1).mono ?_
  rintro e w4 ⟨rfl, hb4⟩
  replace A0 := A0.trans (hb4.mono A0.size)
  replace hx0 := hx0.keep (OTab.kept _ _).held hb4 (by omega)
  have z4 := hb4.size
  clear hb4
  go_wp2_with fail
  refine (toIntSS_c (Tab.frame _ _ _ _ t0 A0) sz0 S0.out).mono ?_
  rintro e w5 ⟨y0, rfl, hy0, hb5⟩
  replace A0 := A0.trans (hb5.mono A0.size)
  replace hx0 := hx0.keep (OTab.kept _ _).held hb5 (by omega)
  have z5 := hb5.size
  clear hb5
  replace hy0 := hy0.inn (OTab.kept _ _).held
  go_wp2_with fail
  refine (eqIntSS_same (New.tab hx0.new) (New.tab hy0.new)).mono ?_
  rintro e w6 ⟨rfl, hdr⟩
  have hb6 := hdr.below w5.heap.size
  clear hdr
  replace A0 := A0.trans (hb6.mono A0.size)
  replace hx0 := hx0.keep (OTab.kept _ _).held hb6 (by omega)
  replace hy0 := hy0.keep (OTab.kept _ _).held hb6 (by omega)
  have z6 := hb6.size
  clear hb6
  clear hy0
  go_wp2
  go_ret
  exact ⟨rfl, A0⟩
end Go.Proofs.Ytiecliglmfampaa
