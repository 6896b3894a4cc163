/-
  The law on RenameGraph, walked over the contracts of both sides.
-/
import Derived.Test.YtcomebceanajmaaLawKit
import Derived.Test.YtcomebceanajmaaRenameBd
import Derived.Test.YtcomebceanajmaaOpen
namespace Go.Proofs.Ytcomebceanajmaa
open Go.RowKit Go.Deep Go.Sd
set_option linter.unusedVariables false in
set_option maxHeartbeats 1000000 in
theorem law_RenameGraph {w : World} {v0 : Value} {a0 : List (List Int)} (t0 : Tab w v0 a0) (b0 : ∀ r, r ∈ a0 → ∀ x, x ∈ r → I64 x) {v1 : Value} {a1 : List Int} (t1 : Ints w v1 a1) (b1 : ∀ x, x ∈ a1 → I64 x) :
    Calls Try.prog 9 #[v0, v1] w fun e w' => e = .returned (.bool true) ∧ Below w.heap.size w w' := by
  obtain ⟨va1, vc1, rfl, _, _, _⟩ := t1.shape
  by_cases n1 : 1048576 < a1.length
  · clear b1
    go_enter Try.func9, Try.ntmps9
    go_wp2
    go_ret
    exact ⟨rfl, Below.refl _ _⟩
  have sz1 : a1.length ≤ 1048576 := by omega
  have c0 := szSS_bd a0 1048576 (by omega)
  have d0 := fun h => cntSS_le a0 1048576 (by omega) h
  have Z0 := Lib.hid (szIntSS_c t0 (l := 1048576) (by omega) (by omega))
  generalize szSS a0 1048576 = l0 at Z0 c0 d0
  by_cases n0 : l0 < 0
  · clear c0 d0
    go_enter Try.func9, Try.ntmps9
    go_wp2_with fail
    refine (Z0.out).mono ?_
    rintro e w' ⟨rfl, rfl⟩
    go_wp2
    go_ret
    exact ⟨rfl, Below.refl _ _⟩
  have d0' := d0 (by omega)
  have sz0 : a0.length ≤ 1048576 := by have := cntSS_nn a0; omega
  have sz0' : ∀ r, r ∈ a0 → r.length ≤ 1048576 := fun r hr => by have := len_le_cntSS hr; omega
  have e0 : cntSS a0 ≤ 1048576 := by omega
  have l00 : 0 ≤ l0 := by omega
  have l01 : l0 ≤ 1048576 := by omega
  clear c0 d0 d0' n0
  have B0 := Lib.hid b0
  clear b0
  have S0 := Lib.hid sz0'
  have E0 := Lib.hid e0
  clear sz0' e0
  have B1 := Lib.hid b1
  clear b1
  go_enter Try.func9, Try.ntmps9
  go_wp2_with fail
  refine (Z0.out).mono ?_
  rintro e w' ⟨rfl, rfl⟩
  have A0 : Below w.heap.size w w := Below.refl _ _
  go_wp2_with fail
  refine (toIntSS_c (Tab.frame _ _ _ _ t0 A0) sz0 S0.out).mono ?_
  rintro e w1 ⟨p0, rfl, hp0, hb1⟩
  replace A0 := A0.trans (hb1.mono A0.size)
  have z1 := hb1.size
  clear hb1
  replace hp0 := hp0.inn (OTab.kept _ _)
  go_wp2_with fail
  refine (toIntS_c (Ints.frame _ _ _ _ t1 A0) sz1).mono ?_
  rintro e w2 ⟨p1, rfl, hp1, hb2⟩
  replace A0 := A0.trans (hb2.mono A0.size)
  replace hp0 := hp0.keep (OTab.kept _ _) hb2 (by omega)
  have z2 := hb2.size
  clear hb2
  replace hp1 := hp1.inn (OInts.kept _)
  go_wp2_with fail
  refine (spec_RenameGraph_c (New.tab hp0.new) (New.ints hp1.new)).mono ?_
  rintro e w3 ⟨s0, rfl, hs0, hb3⟩
  replace A0 := A0.trans (hb3.mono A0.size)
  replace hp0 := hp0.keep (OTab.kept _ _) hb3 (by omega)
  replace hp1 := hp1.keep (OInts.kept _) hb3 (by omega)
  have z3 := hb3.size
  clear hb3
  replace hs0 := hs0.inn (OTab.kept _ _)
  clear hp0
  clear hp1
  have R0 : Tab w3 s0 (renV a0 a1) := (New.tab hs0.new)
  clear hs0
  have hwA : Below w3.heap.size w3 w3 := Below.refl _ _
  go_wp2_with fail
  refine (toIntSS_c (Tab.frame _ _ _ _ t0 A0) sz0 S0.out).mono ?_
  rintro e w4 ⟨x0, rfl, hx0, hb4⟩
  replace A0 := A0.trans (hb4.mono A0.size)
  replace hwA := hwA.trans (hb4.mono hwA.size)
  have z4 := hb4.size
  clear hb4
  replace hx0 := hx0.inn (OTab.kept _ _)
  go_wp2_with fail
  refine (toIntS_c (Ints.frame _ _ _ _ t1 A0) sz1).mono ?_
  rintro e w5 ⟨x1, rfl, hx1, hb5⟩
  replace A0 := A0.trans (hb5.mono A0.size)
  replace hwA := hwA.trans (hb5.mono hwA.size)
  replace hx0 := hx0.keep (OTab.kept _ _) hb5 (by omega)
  have z5 := hb5.size
  clear hb5
  replace hx1 := hx1.inn (OInts.kept _)
  go_wp2_with fail
  refine (impl_RenameGraph_c (New.tab hx0.new) (New.ints hx1.new)).mono ?_
  rintro e w6 ⟨g0, rfl, hg0, hb6⟩
  replace A0 := A0.trans (hb6.mono A0.size)
  replace hwA := hwA.trans (hb6.mono hwA.size)
  replace hx0 := hx0.keep (OTab.kept _ _) hb6 (by omega)
  replace hx1 := hx1.keep (OInts.kept _) hb6 (by omega)
  have z6 := hb6.size
  clear hb6
  replace hg0 := hg0.inn (OTab.kept _ _)
  go_wp2_with fail
  refine (eqIntSS_same (New.tab hg0.new) (Tab.frame _ _ _ _ R0 hwA)).mono ?_
  rintro e w7 ⟨rfl, hdr⟩
  have hb7 := hdr.below w6.heap.size
  clear hdr
  replace A0 := A0.trans (hb7.mono A0.size)
  replace hwA := hwA.trans (hb7.mono hwA.size)
  replace hx0 := hx0.keep (OTab.kept _ _) hb7 (by omega)
  replace hx1 := hx1.keep (OInts.kept _) hb7 (by omega)
  replace hg0 := hg0.keep (OTab.kept _ _) hb7 (by omega)
  have z7 := hb7.size
  clear hb7
  go_wp2_with fail
  refine (toIntSS_c (Tab.frame _ _ _ _ t0 A0) sz0 S0.out).mono ?_
  rintro e w8 ⟨y0, rfl, hy0, hb8⟩
  replace A0 := A0.trans (hb8.mono A0.size)
  replace hwA := hwA.trans (hb8.mono hwA.size)
  replace hx0 := hx0.keep (OTab.kept _ _) hb8 (by omega)
  replace hx1 := hx1.keep (OInts.kept _) hb8 (by omega)
  replace hg0 := hg0.keep (OTab.kept _ _) hb8 (by omega)
  have z8 := hb8.size
  clear hb8
  replace hy0 := hy0.inn (OTab.kept _ _)
  go_wp2_with fail
  refine (eqIntSS_same (New.tab hx0.new) (New.tab hy0.new)).mono ?_
  rintro e w9 ⟨rfl, hdr⟩
  have hb9 := hdr.below w8.heap.size
  clear hdr
  replace A0 := A0.trans (hb9.mono A0.size)
  replace hwA := hwA.trans (hb9.mono hwA.size)
  replace hx0 := hx0.keep (OTab.kept _ _) hb9 (by omega)
  replace hx1 := hx1.keep (OInts.kept _) hb9 (by omega)
  replace hg0 := hg0.keep (OTab.kept _ _) hb9 (by omega)
  replace hy0 := hy0.keep (OTab.kept _ _) hb9 (by omega)
  have z9 := hb9.size
  clear hb9
  clear hy0
  go_wp2_with fail
  refine (toIntS_c (Ints.frame _ _ _ _ t1 A0) sz1).mono ?_
  rintro e w10 ⟨y1, rfl, hy1, hb10⟩
  replace A0 := A0.trans (hb10.mono A0.size)
  replace hwA := hwA.trans (hb10.mono hwA.size)
  replace hx0 := hx0.keep (OTab.kept _ _) hb10 (by omega)
  replace hx1 := hx1.keep (OInts.kept _) hb10 (by omega)
  replace hg0 := hg0.keep (OTab.kept _ _) hb10 (by omega)
  have z10 := hb10.size
  clear hb10
  replace hy1 := hy1.inn (OInts.kept _)
  go_wp2_with fail
  refine (eqIntS_same (New.ints hx1.new) (New.ints hy1.new)).mono ?_
  rintro e w11 ⟨rfl, hdr⟩
  have hb11 := hdr.below w10.heap.size
  clear hdr
  replace A0 := A0.trans (hb11.mono A0.size)
  replace hwA := hwA.trans (hb11.mono hwA.size)
  replace hx0 := hx0.keep (OTab.kept _ _) hb11 (by omega)
  replace hx1 := hx1.keep (OInts.kept _) hb11 (by omega)
  replace hg0 := hg0.keep (OTab.kept _ _) hb11 (by omega)
  replace hy1 := hy1.keep (OInts.kept _) hb11 (by omega)
  have z11 := hb11.size
  clear hb11
  clear hy1
  have q0 := E0.out
  have r0 := cntSS_nn a0
  generalize hq0 : cntSS a0 = cq0 at q0 r0
  have Hq0 := Lib.hid hq0
  clear hq0
  have M := Lib.hid (markIntSS_in (k0 := 1) hx0 (by omega) (by rw [Hq0.out]; omega))
  rw [Hq0.out] at M
  go_wp2_with fail
  refine M.out.mono ?_
  rintro e w12 ⟨rfl, hm12, ho12⟩
  clear M
  replace A0 := A0.trans (ho12.below (by omega) A0.size)
  replace hwA := hwA.trans (ho12.below (by omega) hwA.size)
  replace hx1 := hx1.off (OInts.kept _) ho12 (by omega)
  replace hg0 := hg0.off (OTab.kept _ _) ho12 (by omega)
  have z12 := ho12.size
  clear hx0 ho12 hm12
  have M := Lib.hid (markIntS_in (k0 := (1 + cq0)) hx1 (by omega) (by omega))
  go_wp2_with fail
  refine M.out.mono ?_
  rintro e w13 ⟨rfl, hm13, ho13⟩
  clear M
  replace A0 := A0.trans (ho13.below (by omega) A0.size)
  replace hwA := hwA.trans (ho13.below (by omega) hwA.size)
  replace hg0 := hg0.off (OTab.kept _ _) ho13 (by omega)
  have z13 := ho13.size
  clear hx1 ho13 hm13
  go_wp2_with fail
  refine (eqIntSS_same (New.tab hg0.new) (Tab.frame _ _ _ _ R0 hwA)).mono ?_
  rintro e w14 ⟨rfl, hdr⟩
  have hb14 := hdr.below w13.heap.size
  clear hdr
  replace A0 := A0.trans (hb14.mono A0.size)
  replace hwA := hwA.trans (hb14.mono hwA.size)
  replace hg0 := hg0.keep (OTab.kept _ _) hb14 (by omega)
  have z14 := hb14.size
  clear hb14
  have qg0 : cntSS (renV a0 a1) ≤ 1099511627776 := Int.le_trans (cntSS_bd (renV_bd a0 a1).1 (renV_bd a0 a1).2) (by decide)
  have rg0 : 0 ≤ cntSS (renV a0 a1) := cntSS_nn _
  generalize eqg0 : cntSS (renV a0 a1) = cg0 at qg0 rg0
  have Hg0 := Lib.hid eqg0
  clear eqg0
  have M := Lib.hid (markIntSS_in (k0 := 1) hg0 (by omega) (by rw [Hg0.out]; omega))
  rw [Hg0.out] at M
  go_wp2_with fail
  refine M.out.mono ?_
  rintro e w15 ⟨rfl, hm15, ho15⟩
  clear M
  replace A0 := A0.trans (ho15.below (by omega) A0.size)
  replace hwA := hwA.trans (ho15.below (by omega) hwA.size)
  have z15 := ho15.size
  clear hg0 ho15
  have hg0 := hm15
  clear hm15
  have M := Lib.hid (heldIntSS_same (k0 := 1) (New.tab hg0.new) (by omega) (by rw [Hg0.out]; omega))
  rw [Hg0.out] at M
  go_wp2_with fail
  refine M.out.mono ?_
  rintro e w' ⟨rfl, rfl⟩
  clear M
  go_wp2_with fail
  refine (toIntSS_c (Tab.frame _ _ _ _ t0 A0) sz0 S0.out).mono ?_
  rintro e w16 ⟨u0, rfl, hu0, hb16⟩
  replace A0 := A0.trans (hb16.mono A0.size)
  replace hwA := hwA.trans (hb16.mono hwA.size)
  replace hg0 := hg0.keep (OTab.kept _ _) hb16 (by omega)
  have z16 := hb16.size
  clear hb16
  replace hu0 := hu0.inn (OTab.kept _ _)
  go_wp2_with fail
  refine (toIntS_c (Ints.frame _ _ _ _ t1 A0) sz1).mono ?_
  rintro e w17 ⟨u1, rfl, hu1, hb17⟩
  replace A0 := A0.trans (hb17.mono A0.size)
  replace hwA := hwA.trans (hb17.mono hwA.size)
  replace hg0 := hg0.keep (OTab.kept _ _) hb17 (by omega)
  replace hu0 := hu0.keep (OTab.kept _ _) hb17 (by omega)
  have z17 := hb17.size
  clear hb17
  replace hu1 := hu1.inn (OInts.kept _)
  go_wp2_with fail
  refine (impl_RenameGraph_c (New.tab hu0.new) (New.ints hu1.new)).mono ?_
  rintro e w18 ⟨f0, rfl, hf0, hb18⟩
  replace A0 := A0.trans (hb18.mono A0.size)
  replace hwA := hwA.trans (hb18.mono hwA.size)
  replace hg0 := hg0.keep (OTab.kept _ _) hb18 (by omega)
  replace hu0 := hu0.keep (OTab.kept _ _) hb18 (by omega)
  replace hu1 := hu1.keep (OInts.kept _) hb18 (by omega)
  have z18 := hb18.size
  clear hb18
  replace hf0 := hf0.inn (OTab.kept _ _)
  clear hu0
  clear hu1
  go_wp2_with fail
  refine (eqIntSS_same (New.tab hf0.new) (Tab.frame _ _ _ _ R0 hwA)).mono ?_
  rintro e w19 ⟨rfl, hdr⟩
  have hb19 := hdr.below w18.heap.size
  clear hdr
  replace A0 := A0.trans (hb19.mono A0.size)
  replace hwA := hwA.trans (hb19.mono hwA.size)
  replace hg0 := hg0.keep (OTab.kept _ _) hb19 (by omega)
  replace hf0 := hf0.keep (OTab.kept _ _) hb19 (by omega)
  have z19 := hb19.size
  clear hb19
  have M := Lib.hid (heldIntSS_same (k0 := 1) (New.tab hg0.new) (by omega) (by rw [Hg0.out]; omega))
  rw [Hg0.out] at M
  go_wp2_with fail
  refine M.out.mono ?_
  rintro e w' ⟨rfl, rfl⟩
  clear M
  go_wp2
  go_ret
  exact ⟨rfl, A0⟩
end Go.Proofs.Ytcomebceanajmaa
