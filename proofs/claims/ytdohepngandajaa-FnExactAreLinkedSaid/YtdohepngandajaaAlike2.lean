/-
  AreAlike, the program's and the reference's; the law that they agree.
-/
import Derived.Test.YtdohepngandajaaRows
import Derived.Test.YtdohepngandajaaBase
import Derived.Test.YtdohepngandajaaHarn
import Derived.Test.YtdohepngandajaaMat
import Derived.Test.YtdohepngandajaaAlike
namespace Go.Proofs.Ytdohepngandajaa
open Go.RowKit Go.Deep Go.Sd

set_option maxHeartbeats 400000 in
theorem impl_AreAlike_c {w : World} {va vb : Value} {a b : List (List Int)} (h1 : Tab w va a) (h2 : Tab w vb b) :
    Calls Try.prog 103 #[va, vb] w fun e w' => e = .returned (.bool (alikeM a b)) ∧ Below w.heap.size w w' := by
  obtain ⟨aa, ac, rfl, _, _, _⟩ := h1.shape
  obtain ⟨ba, bc, rfl, _, _, _⟩ := h2.shape
  cases ha : isMat a with
  | false =>
    have H := Lib.hid (show alikeM a b = false from by unfold alikeM; rw [ha]; rfl)
    have Hc := Lib.hid (impl_IsMatrix_c h1)
    rw [ha] at Hc
    clear ha h1 h2
    go_enter Try.func103, Try.ntmps103
    go_wp2_with (go_at_call 93; refine Hc.out.mono ?_; rintro e w' ⟨rfl, rfl⟩)
    go_ret
    exact ⟨by rw [H.out]; rfl, Below.refl _ _⟩
  | true =>
    cases hb : isMat b with
    | false =>
      have H := Lib.hid (show alikeM a b = false from by unfold alikeM; rw [hb]; simp)
      have Hc := Lib.hid (impl_IsMatrix_c h1)
      have Hd := Lib.hid (impl_IsMatrix_c h2)
      rw [ha] at Hc
      rw [hb] at Hd
      clear ha hb h1 h2
      go_enter Try.func103, Try.ntmps103
      go_wp2_with fail
      refine Hc.out.mono ?_
      rintro e w' ⟨rfl, rfl⟩
      go_wp2_with fail
      refine Hd.out.mono ?_
      rintro e w' ⟨rfl, rfl⟩
      go_wp2
      go_ret
      exact ⟨by rw [H.out]; rfl, Below.refl _ _⟩
    | true =>
      have Hc := Lib.hid (impl_IsMatrix_c h1)
      have Hd := Lib.hid (impl_IsMatrix_c h2)
      have sa := isMat_sq ha
      have sb := isMat_sq hb
      rw [ha] at Hc
      rw [hb] at Hd
      by_cases hl : a.length = b.length
      · by_cases h6 : a.length ≤ 6
        · have H := Lib.hid (show alikeM a b = fitM a b a.length a.length [] from by unfold alikeM; rw [ha, hb]; simp [hl]; intro h; omega)
          have Hf := Lib.hid (fits_c a b a.length sa.1 (hl ▸ sb.1) (by omega) (by omega) a.length [] w _ _ (.slice none 0 0) (by simp) (by simp) h1 h2 ⟨[], ⟨by simp, none, 0, rfl, by simp, by simp, by simp, Or.inl rfl⟩, by simp [nats], by simp⟩)
          have t1 : ((a.length : Int) == (b.length : Int)) = true := by simp [hl]
          clear ha hb h1 h2 hl sa sb
          go_enter Try.func103, Try.ntmps103
          go_wp2_with fail
          refine Hc.out.mono ?_
          rintro e w' ⟨rfl, rfl⟩
          go_wp2_with fail
          refine Hd.out.mono ?_
          rintro e w' ⟨rfl, rfl⟩
          go_wp2_with fail
          refine Hf.out.mono ?_
          rintro e w' ⟨rfl, hb1⟩
          go_wp2
          go_ret
          exact ⟨by rw [H.out]; rfl, hb1⟩
        · have H := Lib.hid (show alikeM a b = false from by unfold alikeM; simp [h6])
          have t1 : ((a.length : Int) == (b.length : Int)) = true := by simp [hl]
          clear ha hb h1 h2 hl sa sb
          go_enter Try.func103, Try.ntmps103
          go_wp2_with fail
          refine Hc.out.mono ?_
          rintro e w' ⟨rfl, rfl⟩
          go_wp2_with fail
          refine Hd.out.mono ?_
          rintro e w' ⟨rfl, rfl⟩
          go_wp2
          go_ret
          exact ⟨by rw [H.out]; rfl, Below.refl _ _⟩
      · have H := Lib.hid (show alikeM a b = false from by unfold alikeM; simp [hl])
        have t1 : ((a.length : Int) == (b.length : Int)) = false := by simp; omega
        clear ha hb h1 h2 sa sb
        go_enter Try.func103, Try.ntmps103
        go_wp2_with fail
        refine Hc.out.mono ?_
        rintro e w' ⟨rfl, rfl⟩
        go_wp2_with fail
        refine Hd.out.mono ?_
        rintro e w' ⟨rfl, rfl⟩
        go_wp2
        go_ret
        exact ⟨by rw [H.out]; rfl, Below.refl _ _⟩

set_option maxHeartbeats 400000 in
theorem spec_AreAlike_c {w : World} {va vb : Value} {a b : List (List Int)} (h1 : Tab w va a) (h2 : Tab w vb b) :
    Calls Try.prog 102 #[va, vb] w fun e w' => e = .returned (.bool (alikeM a b)) ∧ Below w.heap.size w w' := by
  obtain ⟨aa, ac, rfl, _, _, _⟩ := h1.shape
  obtain ⟨ba, bc, rfl, _, _, _⟩ := h2.shape
  cases ha : isMat a with
  | false =>
    have H := Lib.hid (show alikeM a b = false from by unfold alikeM; rw [ha]; rfl)
    have Hc := Lib.hid (spec_IsMatrix_c h1)
    rw [ha] at Hc
    clear ha h1 h2
    go_enter Try.func102, Try.ntmps102
    go_wp2_with (go_at_call 89; refine Hc.out.mono ?_; rintro e w' ⟨rfl, rfl⟩)
    go_ret
    exact ⟨by rw [H.out]; rfl, Below.refl _ _⟩
  | true =>
    cases hb : isMat b with
    | false =>
      have H := Lib.hid (show alikeM a b = false from by unfold alikeM; rw [hb]; simp)
      have Hc := Lib.hid (spec_IsMatrix_c h1)
      have Hd := Lib.hid (spec_IsMatrix_c h2)
      rw [ha] at Hc
      rw [hb] at Hd
      clear ha hb h1 h2
      go_enter Try.func102, Try.ntmps102
      go_wp2_with fail
      refine Hc.out.mono ?_
      rintro e w' ⟨rfl, rfl⟩
      go_wp2_with fail
      refine Hd.out.mono ?_
      rintro e w' ⟨rfl, rfl⟩
      go_wp2
      go_ret
      exact ⟨by rw [H.out]; rfl, Below.refl _ _⟩
    | true =>
      have Hc := Lib.hid (spec_IsMatrix_c h1)
      have Hd := Lib.hid (spec_IsMatrix_c h2)
      have sa := isMat_sq ha
      have sb := isMat_sq hb
      rw [ha] at Hc
      rw [hb] at Hd
      by_cases hl : a.length = b.length
      · by_cases h6 : a.length ≤ 6
        · have H := Lib.hid (show alikeM a b = fitM a b a.length a.length [] from by unfold alikeM; rw [ha, hb]; simp [hl]; intro h; omega)
          have hal : Below w.heap.size w (w.alloc (.cells #[] 3)) := (Below.refl _ _).alloc (Nat.le_refl _) _
          have Hf := Lib.hid (l18Match_c a b a.length sa.1 (hl ▸ sb.1) (by omega) (by omega) a.length [] (w.alloc (.cells #[] 3)) _ _ (.slice (some ⟨w.heap.size, 0, none⟩) 0 0) (by simp) (by simp) (Tab.frame _ _ _ _ h1 hal) (Tab.frame _ _ _ _ h2 hal) (New.empty (lo := 0) w (Nat.zero_le _)).ints)
          have t1 : ((a.length : Int) == (b.length : Int)) = true := by simp [hl]
          clear ha hb h1 h2 hl sa sb hal
          go_enter Try.func102, Try.ntmps102
          go_wp2_with fail
          refine Hc.out.mono ?_
          rintro e w' ⟨rfl, rfl⟩
          go_wp2_with fail
          refine Hd.out.mono ?_
          rintro e w' ⟨rfl, rfl⟩
          go_wp2_with fail
          refine Hf.out.mono ?_
          rintro e w' ⟨rfl, hb1⟩
          go_wp2
          go_ret
          exact ⟨by rw [H.out]; rfl, ((Below.refl _ _).alloc (Nat.le_refl _) _).trans (hb1.mono (by simp))⟩
        · have H := Lib.hid (show alikeM a b = false from by unfold alikeM; simp [h6])
          have t1 : ((a.length : Int) == (b.length : Int)) = true := by simp [hl]
          clear ha hb h1 h2 hl sa sb
          go_enter Try.func102, Try.ntmps102
          go_wp2_with fail
          refine Hc.out.mono ?_
          rintro e w' ⟨rfl, rfl⟩
          go_wp2_with fail
          refine Hd.out.mono ?_
          rintro e w' ⟨rfl, rfl⟩
          go_wp2
          go_ret
          exact ⟨by rw [H.out]; rfl, Below.refl _ _⟩
      · have H := Lib.hid (show alikeM a b = false from by unfold alikeM; simp [hl])
        have t1 : ((a.length : Int) == (b.length : Int)) = false := by simp; omega
        clear ha hb h1 h2 sa sb
        go_enter Try.func102, Try.ntmps102
        go_wp2_with fail
        refine Hc.out.mono ?_
        rintro e w' ⟨rfl, rfl⟩
        go_wp2_with fail
        refine Hd.out.mono ?_
        rintro e w' ⟨rfl, rfl⟩
        go_wp2
        go_ret
        exact ⟨by rw [H.out]; rfl, Below.refl _ _⟩

end Go.Proofs.Ytdohepngandajaa
