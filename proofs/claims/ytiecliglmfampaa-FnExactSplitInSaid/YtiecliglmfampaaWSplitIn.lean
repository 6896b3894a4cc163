/-
  The law on SplitIn, walked over the contracts of both sides.
-/
import Derived.Test.YtiecliglmfampaaLawKit
import Derived.Test.YtiecliglmfampaaSplitIn
import Derived.Test.YtiecliglmfampaaOpen
namespace Go.Proofs.Ytiecliglmfampaa
open Go.RowKit Go.Deep Go.Sd
set_option linter.unusedVariables false in
set_option maxHeartbeats 1000000 in
theorem law_SplitIn {w : World} {v0 : Value} {a0 : List (List Int)} (t0 : Tab w v0 a0) (b0 : ∀ r, r ∈ a0 → ∀ x, x ∈ r → I64 x) {a1 : Int} (t1 : I64 a1) {v2 : Value} {a2 : List Int} (t2 : Ints w v2 a2) (b2 : ∀ x, x ∈ a2 → I64 x) :
    Calls Try.prog 7 #[v0, .int .i64 a1, v2] w fun e w' => e = .returned (.bool true) ∧ Below w.heap.size w w' := by
  obtain ⟨va2, vc2, rfl, _, _, _⟩ := t2.shape
  by_cases n2 : 1048576 < a2.length
  · clear b2
    go_enter Try.func7, Try.ntmps7
    go_wp2
    go_ret
    exact ⟨rfl, Below.refl _ _⟩
  have sz2 : a2.length ≤ 1048576 := by omega
  have c0 := szSS_bd a0 1048576 (by omega)
  have d0 := fun h => cntSS_le a0 1048576 (by omega) h
  have Z0 := Lib.hid (szIntSS_c t0 (l := 1048576) (by omega) (by omega))
  generalize szSS a0 1048576 = l0 at Z0 c0 d0
  by_cases n0 : l0 < 0
  · clear c0 d0
    go_enter Try.func7, Try.ntmps7
    go_wp2_with fail
    refine (Z0.out).mono ?_
    rintro e w' ⟨rfl, rfl⟩
    go_wp2
    go_ret
    exact ⟨rfl, Below.refl _ _⟩
  have d0' := d0 (by omega)
  have sz0 : a0.length ≤ 1048576 := by have := cntSS_nn a0; omega
  have sz0' : ∀ r, r ∈ a0 → r.length ≤ 1048576 := fun r hr => by have := len_le_cntSS hr; omega
  have e0 : cntSS a0 ≤ 1048576 := by omega
  have l00 : 0 ≤ l0 := by omega
  have l01 : l0 ≤ 1048576 := by omega
  clear c0 d0 d0' n0
  have B0 := Lib.hid b0
  clear b0
  have S0 := Lib.hid sz0'
  have E0 := Lib.hid e0
  clear sz0' e0
  have B2 := Lib.hid b2
  clear b2
  go_enter Try.func7, Try.ntmps7
  go_wp2_with fail
  refine (Z0.out).mono ?_
  rintro e w' ⟨rfl, rfl⟩
  have A0 : Below w.heap.size w w := Below.refl _ _
  go_wp2_with fail
  refine (toIntSS_c (Tab.frame _ _ _ _ t0 A0) sz0 S0.out).mono ?_
  rintro e w1 ⟨p0, rfl, hp0, hb1⟩
  replace A0 := A0.trans (hb1.mono A0.size)
  have z1 := hb1.size
  clear hb1
  replace hp0 := hp0.inn (OTab.kept _ _).held
  go_wp2_with fail
  refine (toIntS_c (Ints.frame _ _ _ _ t2 A0) sz2).mono ?_
  rintro e w2 ⟨p2, rfl, hp2, hb2⟩
  replace A0 := A0.trans (hb2.mono A0.size)
  replace hp0 := hp0.keep (OTab.kept _ _).held hb2 (by omega)
  have z2 := hb2.size
  clear hb2
  replace hp2 := hp2.inn (OInts.kept _).held
  go_wp2_with fail
  refine (spec_SplitIn_c (New.tab hp0.new) (New.ints hp2.new)).mono ?_
  rintro e w3 ⟨s0, rfl, hs0, hb3⟩
  replace A0 := A0.trans (hb3.mono A0.size)
  replace hp0 := hp0.keep (OTab.kept _ _).held hb3 (by omega)
  replace hp2 := hp2.keep (OInts.kept _).held hb3 (by omega)
  have z3 := hb3.size
  clear hb3
  replace hs0 := hs0.inn (OTab.kept _ _).held
  clear hp0
  clear hp2
  have R0 : Tab w3 s0 (splitInV a0 a1 a2) := (New.tab hs0.new)
  clear hs0
  have hwA : Below w3.heap.size w3 w3 := Below.refl _ _
  go_wp2_with fail
  refine (toIntSS_c (Tab.frame _ _ _ _ t0 A0) sz0 S0.out).mono ?_
  rintro e w4 ⟨x0, rfl, hx0, hb4⟩
  replace A0 := A0.trans (hb4.mono A0.size)
  replace hwA := hwA.trans (hb4.mono hwA.size)
  have z4 := hb4.size
  clear hb4
  replace hx0 := hx0.inn (OTab.kept _ _).held
  go_wp2_with fail
  refine (toIntS_c (Ints.frame _ _ _ _ t2 A0) sz2).mono ?_
  rintro e w5 ⟨x2, rfl, hx2, hb5⟩
  replace A0 := A0.trans (hb5.mono A0.size)
  replace hwA := hwA.trans (hb5.mono hwA.size)
  replace hx0 := hx0.keep (OTab.kept _ _).held hb5 (by omega)
  have z5 := hb5.size
  clear hb5
  replace hx2 := hx2.inn (OInts.kept _).held
  go_wp2_with fail
  refine (impl_SplitIn_c (New.tab hx0.new) (New.ints hx2.new)).mono ?_
  rintro e w6 ⟨g0, rfl, hg0, hb6⟩
  replace A0 := A0.trans (hb6.mono A0.size)
  replace hwA := hwA.trans (hb6.mono hwA.size)
  replace hx0 := hx0.keep (OTab.kept _ _).held hb6 (by omega)
  replace hx2 := hx2.keep (OInts.kept _).held hb6 (by omega)
  have z6 := hb6.size
  clear hb6
  replace hg0 := hg0.inn (OTab.kept _ _).held
  go_wp2_with fail
  refine (eqIntSS_same (New.tab hg0.new) (Tab.frame _ _ _ _ R0 hwA)).mono ?_
  rintro e w7 ⟨rfl, hdr⟩
  have hb7 := hdr.below w6.heap.size
  clear hdr
  replace A0 := A0.trans (hb7.mono A0.size)
  replace hwA := hwA.trans (hb7.mono hwA.size)
  replace hx0 := hx0.keep (OTab.kept _ _).held hb7 (by omega)
  replace hx2 := hx2.keep (OInts.kept _).held hb7 (by omega)
  replace hg0 := hg0.keep (OTab.kept _ _).held hb7 (by omega)
  have z7 := hb7.size
  clear hb7
  go_wp2_with fail
  refine (toIntSS_c (Tab.frame _ _ _ _ t0 A0) sz0 S0.out).mono ?_
  rintro e w8 ⟨y0, rfl, hy0, hb8⟩
  replace A0 := A0.trans (hb8.mono A0.size)
  replace hwA := hwA.trans (hb8.mono hwA.size)
  replace hx0 := hx0.keep (OTab.kept _ _).held hb8 (by omega)
  replace hx2 := hx2.keep (OInts.kept _).held hb8 (by omega)
  replace hg0 := hg0.keep (OTab.kept _ _).held hb8 (by omega)
  have z8 := hb8.size
  clear hb8
  replace hy0 := hy0.inn (OTab.kept _ _).held
  go_wp2_with fail
  refine (eqIntSS_same (New.tab hx0.new) (New.tab hy0.new)).mono ?_
  rintro e w9 ⟨rfl, hdr⟩
  have hb9 := hdr.below w8.heap.size
  clear hdr
  replace A0 := A0.trans (hb9.mono A0.size)
  replace hwA := hwA.trans (hb9.mono hwA.size)
  replace hx0 := hx0.keep (OTab.kept _ _).held hb9 (by omega)
  replace hx2 := hx2.keep (OInts.kept _).held hb9 (by omega)
  replace hg0 := hg0.keep (OTab.kept _ _).held hb9 (by omega)
  replace hy0 := hy0.keep (OTab.kept _ _).held hb9 (by omega)
  have z9 := hb9.size
  clear hb9
  clear hy0
  go_wp2_with fail
  refine (toIntS_c (Ints.frame _ _ _ _ t2 A0) sz2).mono ?_
  rintro e w10 ⟨y2, rfl, hy2, hb10⟩
  replace A0 := A0.trans (hb10.mono A0.size)
  replace hwA := hwA.trans (hb10.mono hwA.size)
  replace hx0 := hx0.keep (OTab.kept _ _).held hb10 (by omega)
  replace hx2 := hx2.keep (OInts.kept _).held hb10 (by omega)
  replace hg0 := hg0.keep (OTab.kept _ _).held hb10 (by omega)
  have z10 := hb10.size
  clear hb10
  replace hy2 := hy2.inn (OInts.kept _).held
  go_wp2_with fail
  refine (eqIntS_same (New.ints hx2.new) (New.ints hy2.new)).mono ?_
  rintro e w11 ⟨rfl, hdr⟩
  have hb11 := hdr.below w10.heap.size
  clear hdr
  replace A0 := A0.trans (hb11.mono A0.size)
  replace hwA := hwA.trans (hb11.mono hwA.size)
  replace hx0 := hx0.keep (OTab.kept _ _).held hb11 (by omega)
  replace hx2 := hx2.keep (OInts.kept _).held hb11 (by omega)
  replace hg0 := hg0.keep (OTab.kept _ _).held hb11 (by omega)
  replace hy2 := hy2.keep (OInts.kept _).held hb11 (by omega)
  have z11 := hb11.size
  clear hb11
  clear hy2
  have q0 := E0.out
  have r0 := cntSS_nn a0
  generalize hq0 : cntSS a0 = cq0 at q0 r0
  have Hq0 := Lib.hid hq0
  clear hq0
  have M := Lib.hid (markIntSS_in (k0 := 1) hx0 (by omega) (by rw [Hq0.out]; omega))
  rw [Hq0.out] at M
  go_wp2_with fail
  refine M.out.mono ?_
  rintro e w12 ⟨rfl, hm12, ho12⟩
  clear M
  replace A0 := A0.trans (ho12.below (by omega) A0.size)
  replace hwA := hwA.trans (ho12.below (by omega) hwA.size)
  replace hx2 := hx2.off (OInts.kept _).held ho12 (by omega)
  replace hg0 := hg0.off (OTab.kept _ _).held ho12 (by omega)
  have z12 := ho12.size
  clear hx0 ho12 hm12
  have M := Lib.hid (markIntS_in (k0 := (1 + cq0)) hx2 (by omega) (by omega))
  go_wp2_with fail
  refine M.out.mono ?_
  rintro e w13 ⟨rfl, hm13, ho13⟩
  clear M
  replace A0 := A0.trans (ho13.below (by omega) A0.size)
  replace hwA := hwA.trans (ho13.below (by omega) hwA.size)
  replace hg0 := hg0.off (OTab.kept _ _).held ho13 (by omega)
  have z13 := ho13.size
  clear hx2 ho13 hm13
  go_wp2_with fail
  refine (eqIntSS_same (New.tab hg0.new) (Tab.frame _ _ _ _ R0 hwA)).mono ?_
  rintro e w14 ⟨rfl, hdr⟩
  have hb14 := hdr.below w13.heap.size
  clear hdr
  replace A0 := A0.trans (hb14.mono A0.size)
  replace hwA := hwA.trans (hb14.mono hwA.size)
  replace hg0 := hg0.keep (OTab.kept _ _).held hb14 (by omega)
  have z14 := hb14.size
  clear hb14
  have qg0 : cntSS (splitInV a0 a1 a2) ≤ 1099511627776 := Int.le_trans (cntSS_bd (splitInV_bd a0 a1 a2).1 (splitInV_bd a0 a1 a2).2) (by decide)
  have rg0 : 0 ≤ cntSS (splitInV a0 a1 a2) := cntSS_nn _
  generalize eqg0 : cntSS (splitInV a0 a1 a2) = cg0 at qg0 rg0
  have Hg0 := Lib.hid eqg0
  clear eqg0
  have M := Lib.hid (markIntSS_in (k0 := 1) hg0 (by omega) (by rw [Hg0.out]; omega))
  rw [Hg0.out] at M
  go_wp2_with fail
  refine M.out.mono ?_
  rintro e w15 ⟨rfl, hm15, ho15⟩
  clear M
  replace A0 := A0.trans (ho15.below (by omega) A0.size)
  replace hwA := hwA.trans (ho15.below (by omega) hwA.size)
  have z15 := ho15.size
  clear hg0 ho15
  have hg0 := hm15
  clear hm15
  have M := Lib.hid (heldIntSS_same (k0 := 1) (New.tab hg0.new) (by omega) (by rw [Hg0.out]; omega))
  rw [Hg0.out] at M
  go_wp2_with fail
  refine M.out.mono ?_
  rintro e w' ⟨rfl, rfl⟩
  clear M
  go_wp2_with fail
  refine (toIntSS_c (Tab.frame _ _ _ _ t0 A0) sz0 S0.out).mono ?_
  rintro e w16 ⟨u0, rfl, hu0, hb16⟩
  replace A0 := A0.trans (hb16.mono A0.size)
  replace hwA := hwA.trans (hb16.mono hwA.size)
  replace hg0 := hg0.keep (OTab.kept _ _).held hb16 (by omega)
  have z16 := hb16.size
  clear hb16
  replace hu0 := hu0.inn (OTab.kept _ _).held
  go_wp2_with fail
  refine (toIntS_c (Ints.frame _ _ _ _ t2 A0) sz2).mono ?_
  rintro e w17 ⟨u2, rfl, hu2, hb17⟩
  replace A0 := A0.trans (hb17.mono A0.size)
  replace hwA := hwA.trans (hb17.mono hwA.size)
  replace hg0 := hg0.keep (OTab.kept _ _).held hb17 (by omega)
  replace hu0 := hu0.keep (OTab.kept _ _).held hb17 (by omega)
  have z17 := hb17.size
  clear hb17
  replace hu2 := hu2.inn (OInts.kept _).held
  go_wp2_with fail
  refine (impl_SplitIn_c (New.tab hu0.new) (New.ints hu2.new)).mono ?_
  rintro e w18 ⟨f0, rfl, hf0, hb18⟩
  replace A0 := A0.trans (hb18.mono A0.size)
  replace hwA := hwA.trans (hb18.mono hwA.size)
  replace hg0 := hg0.keep (OTab.kept _ _).held hb18 (by omega)
  replace hu0 := hu0.keep (OTab.kept _ _).held hb18 (by omega)
  replace hu2 := hu2.keep (OInts.kept _).held hb18 (by omega)
  have z18 := hb18.size
  clear hb18
  replace hf0 := hf0.inn (OTab.kept _ _).held
  clear hu0
  clear hu2
  go_wp2_with fail
  refine (eqIntSS_same (New.tab hf0.new) (Tab.frame _ _ _ _ R0 hwA)).mono ?_
  rintro e w19 ⟨rfl, hdr⟩
  have hb19 := hdr.below w18.heap.size
  clear hdr
  replace A0 := A0.trans (hb19.mono A0.size)
  replace hwA := hwA.trans (hb19.mono hwA.size)
  replace hg0 := hg0.keep (OTab.kept _ _).held hb19 (by omega)
  replace hf0 := hf0.keep (OTab.kept _ _).held hb19 (by omega)
  have z19 := hb19.size
  clear hb19
  have M := Lib.hid (heldIntSS_same (k0 := 1) (New.tab hg0.new) (by omega) (by rw [Hg0.out]; omega))
  rw [Hg0.out] at M
  go_wp2_with fail
  refine M.out.mono ?_
  rintro e w' ⟨rfl, rfl⟩
  clear M
  go_wp2
  go_ret
  exact ⟨rfl, A0⟩
end Go.Proofs.Ytiecliglmfampaa
