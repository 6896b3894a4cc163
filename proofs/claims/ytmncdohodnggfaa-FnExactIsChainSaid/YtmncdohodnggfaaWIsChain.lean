/-
  The law on IsChain, walked over the contracts of both sides.
-/
import Derived.Test.YtmncdohodnggfaaLawKit
import Derived.Test.YtmncdohodnggfaaHarn3
import Derived.Test.YtmncdohodnggfaaStps
import Derived.Test.YtmncdohodnggfaaStpsTo
import Derived.Test.YtmncdohodnggfaaChain
import Derived.Test.YtmncdohodnggfaaOpen
namespace Go.Proofs.Ytmncdohodnggfaa
open Go.RowKit Go.Deep Go.Sd
set_option linter.unusedVariables false in
set_option maxHeartbeats 2000000 in
set_option maxRecDepth 10000 in
theorem law_IsChain {w : World} {v0 : Value} {a0 : List (List (List Int))} (t0 : Tabs w v0 a0) (b0 : ∀ t, t ∈ a0 → ∀ r, r ∈ t → ∀ x, x ∈ r → I64 x) {v1 : Value} {a1 : List (Tb × Tb)} (t1 : StpsR w v1 a1) (b1 : True) :
    Calls Try.prog 12 #[v0, v1] w fun e w' => e = .returned (.bool true) ∧ Below w.heap.size w w' := by
  have A0 : Below w.heap.size w w := Below.refl _ _
  have T0 := Lib.hid t0
  clear t0 b0
  have d0 := szSSS_bd a0 1048576 (by omega)
  have Z0 := Lib.hid (fun wz (h : Below w.heap.size w wz) => szIntSSS_c (Tabs.frame _ _ _ _ T0.out h) (l := 1048576) (by omega) (by omega))
  generalize szSSS a0 1048576 = l0 at Z0 d0
  obtain ⟨e0, f0, k0⟩ := d0
  have D0 := Lib.hid k0
  clear k0
  go_enter Try.func12, Try.ntmps12
  go_wp2_with fail
  refine (Z0.out _ A0).mono ?_
  rintro e w' ⟨rfl, rfl⟩
  by_cases n0 : l0 < 0
  · go_wp2
    go_ret
    exact ⟨rfl, A0⟩
  have l00 : 0 ≤ l0 := by omega
  have l01 : l0 ≤ 1048576 := by omega
  have S0 := Lib.hid (show a0.length ≤ 1048576 ∧ ∀ t, t ∈ a0 → t.length ≤ 1048576 ∧ ∀ r, r ∈ t → r.length ≤ 1048576 from ⟨by have := (D0.out l00).1; omega, fun t ht => ⟨by have := ((D0.out l00).2 t ht).1; omega, fun r hr => by have := ((D0.out l00).2 t ht).2 r hr; omega⟩⟩)
  clear n0 Z0 D0
  have T1 := Lib.hid t1
  clear t1 b1
  have d1 := szStps_bd a1 l0 (by omega) (by omega)
  have Z1 := Lib.hid (fun wz (h : Below w.heap.size w wz) => szStepS_c (StpsR.frame _ _ _ _ T1.out h) (l := l0) (by omega) (by omega))
  generalize szStps a1 l0 = l1 at Z1 d1
  obtain ⟨e1, f1, k1⟩ := d1
  have D1 := Lib.hid k1
  clear k1
  go_wp2_with fail
  refine (Z1.out _ A0).mono ?_
  rintro e w1 ⟨rfl, hb1⟩
  replace A0 := A0.trans (hb1.mono A0.size)
  clear hb1
  by_cases n1 : l1 < 0
  · go_wp2
    go_ret
    exact ⟨rfl, A0⟩
  have l10 : 0 ≤ l1 := by omega
  have l11 : l1 ≤ 1048576 := by omega
  have S1 := Lib.hid (show a1.length ≤ 1048576 ∧ ∀ x, x ∈ a1 → StpSz x from ⟨by have := (D1.out l10).1; omega, (D1.out l10).2⟩)
  clear n1 Z1 D1
  go_wp2_with fail
  refine (toIntSSS_c (Tabs.frame _ _ _ _ T0.out A0) S0.out.1 S0.out.2).mono ?_
  rintro e w2 ⟨p0, rfl, hp0, hb2⟩
  replace A0 := A0.trans (hb2.mono A0.size)
  clear hb2
  have Hp0 := Lib.hid hp0.tabs
  clear hp0
  go_wp2_with fail
  refine (toStepS_c (StpsR.frame _ _ _ _ T1.out A0) S1.out.1 S1.out.2).mono ?_
  rintro e w3 ⟨p1, rfl, hp1, hb3⟩
  replace A0 := A0.trans (hb3.mono A0.size)
  replace Hp0 := Lib.hid (Tabs.frame _ _ _ _ Hp0.out hb3)
  clear hb3
  have Hp1 := Lib.hid hp1
  clear hp1
  go_wp2_with fail
  refine (spec_IsChain_c Hp0.out Hp1.out).mono ?_
  rintro e w4 ⟨rfl, hb4⟩
  replace A0 := A0.trans (hb4.mono A0.size)
  replace Hp0 := Lib.hid (Tabs.frame _ _ _ _ Hp0.out hb4)
  replace Hp1 := Lib.hid (StpsR.frame _ _ _ _ Hp1.out hb4)
  clear hb4
  clear Hp0
  clear Hp1
  go_wp2_with fail
  refine (toIntSSS_c (Tabs.frame _ _ _ _ T0.out A0) S0.out.1 S0.out.2).mono ?_
  rintro e w5 ⟨x0, rfl, hx0, hb5⟩
  replace A0 := A0.trans (hb5.mono A0.size)
  clear hb5
  have Hx0 := Lib.hid hx0.tabs
  clear hx0
  go_wp2_with fail
  refine (toStepS_c (StpsR.frame _ _ _ _ T1.out A0) S1.out.1 S1.out.2).mono ?_
  rintro e w6 ⟨x1, rfl, hx1, hb6⟩
  replace A0 := A0.trans (hb6.mono A0.size)
  replace Hx0 := Lib.hid (Tabs.frame _ _ _ _ Hx0.out hb6)
  clear hb6
  have Hx1 := Lib.hid hx1
  clear hx1
  go_wp2_with fail
  refine (impl_IsChain_c Hx0.out Hx1.out).mono ?_
  rintro e w7 ⟨rfl, hb7⟩
  replace A0 := A0.trans (hb7.mono A0.size)
  replace Hx0 := Lib.hid (Tabs.frame _ _ _ _ Hx0.out hb7)
  replace Hx1 := Lib.hid (StpsR.frame _ _ _ _ Hx1.out hb7)
  clear hb7
  go_wp2_with fail
  refine (toIntSSS_c (Tabs.frame _ _ _ _ T0.out A0) S0.out.1 S0.out.2).mono ?_
  rintro e w8 ⟨y0, rfl, hy0, hb8⟩
  replace A0 := A0.trans (hb8.mono A0.size)
  replace Hx0 := Lib.hid (Tabs.frame _ _ _ _ Hx0.out hb8)
  replace Hx1 := Lib.hid (StpsR.frame _ _ _ _ Hx1.out hb8)
  clear hb8
  have Hy0 := Lib.hid hy0.tabs
  clear hy0
  go_wp2_with fail
  refine (eqIntSSS_same Hx0.out Hy0.out).mono ?_
  rintro e w9 ⟨rfl, hdr⟩
  have hb9 := hdr.below w8.heap.size
  clear hdr
  replace A0 := A0.trans (hb9.mono A0.size)
  replace Hx0 := Lib.hid (Tabs.frame _ _ _ _ Hx0.out hb9)
  replace Hx1 := Lib.hid (StpsR.frame _ _ _ _ Hx1.out hb9)
  replace Hy0 := Lib.hid (Tabs.frame _ _ _ _ Hy0.out hb9)
  clear hb9
  clear Hy0
  go_wp2_with fail
  refine (toStepS_c (StpsR.frame _ _ _ _ T1.out A0) S1.out.1 S1.out.2).mono ?_
  rintro e w10 ⟨y1, rfl, hy1, hb10⟩
  replace A0 := A0.trans (hb10.mono A0.size)
  replace Hx0 := Lib.hid (Tabs.frame _ _ _ _ Hx0.out hb10)
  replace Hx1 := Lib.hid (StpsR.frame _ _ _ _ Hx1.out hb10)
  clear hb10
  have Hy1 := Lib.hid hy1
  clear hy1
  go_wp2_with fail
  refine (eqStepS_same Hx1.out Hy1.out).mono ?_
  rintro e w11 ⟨rfl, hb11⟩
  replace A0 := A0.trans (hb11.mono A0.size)
  replace Hx0 := Lib.hid (Tabs.frame _ _ _ _ Hx0.out hb11)
  replace Hx1 := Lib.hid (StpsR.frame _ _ _ _ Hx1.out hb11)
  replace Hy1 := Lib.hid (StpsR.frame _ _ _ _ Hy1.out hb11)
  clear hb11
  clear Hy1
  go_wp2
  go_ret
  exact ⟨rfl, A0⟩
end Go.Proofs.Ytmncdohodnggfaa
