/-
  AreOneSided, both sides.
-/
import Derived.Test.YtiecliglmfampaaRows
import Derived.Test.YtiecliglmfampaaBase
import Derived.Test.YtiecliglmfampaaMat
import Derived.Test.YtiecliglmfampaaAlike2
import Derived.Test.YtiecliglmfampaaJoinAlls
namespace Go.Proofs.Ytiecliglmfampaa
open Go.RowKit Go.Deep Go.Sd

def oneM (a b : List (List Int)) : Bool := alikeM (joinAllV a) (joinAllV b)
theorem oneM_a {a b : List (List Int)} (h : isMat a = false) : oneM a b = false := by
  have e : joinAllV a = [] := by unfold joinAllV; rw [if_neg (by rw [h]; simp)]
  unfold oneM alikeM
  rw [e]
  rfl
theorem oneM_b {a b : List (List Int)} (h : isMat b = false) : oneM a b = false := by
  have e : joinAllV b = [] := by unfold joinAllV; rw [if_neg (by rw [h]; simp)]
  unfold oneM alikeM
  rw [e, show isMat [] = false from rfl]
  simp

set_option maxHeartbeats 400000 in
theorem impl_AreOneSided_c {w : World} {va vb : Value} {a b : List (List Int)} (h1 : Tab w va a) (h2 : Tab w vb b) :
    Calls Try.prog 34 #[va, vb] w fun e w' => e = .returned (.bool (oneM a b)) ∧ Below w.heap.size w w' := by
  have Hc := Lib.hid (impl_IsMatrix_c h1)
  have Hd := Lib.hid (impl_IsMatrix_c h2)
  have Ha := Lib.hid (impl_JoinAll_c h1)
  have Hb := Lib.hid (fun w1 (hb : Below w.heap.size w w1) => impl_JoinAll_c (Tab.frame _ _ _ _ h2 hb))
  cases ha : isMat a with
  | false =>
    have H := Lib.hid (oneM_a (b := b) ha)
    rw [ha] at Hc
    clear ha h1 h2 Ha Hb Hd
    go_enter Try.func34, Try.ntmps34
    go_wp2_with (go_at_call 57; refine Hc.out.mono ?_; rintro e w' ⟨rfl, rfl⟩)
    go_ret
    exact ⟨by rw [H.out]; rfl, Below.refl _ _⟩
  | true =>
    rw [ha] at Hc
    cases hb : isMat b with
    | false =>
      have H := Lib.hid (oneM_b (a := a) hb)
      rw [hb] at Hd
      clear ha hb h1 h2 Ha Hb
      go_enter Try.func34, Try.ntmps34
      go_wp2_with fail
      refine Hc.out.mono ?_
      rintro e w' ⟨rfl, rfl⟩
      go_wp2_with (go_at_call 57; refine Hd.out.mono ?_; rintro e w' ⟨rfl, rfl⟩)
      go_ret
      exact ⟨by rw [H.out]; rfl, Below.refl _ _⟩
    | true =>
      rw [hb] at Hd
      have H := Lib.hid (show oneM a b = alikeM (joinAllV a) (joinAllV b) from rfl)
      have Hl := Lib.hid (fun w1 v1 v2 (h1 : Tab w1 v1 (joinAllV a)) (h2 : Tab w1 v2 (joinAllV b)) => impl_AreAlike_c h1 h2)
      clear ha hb h1 h2
      generalize oneM a b = T at H ⊢
      generalize joinAllV a = ja at *
      generalize joinAllV b = jb at *
      go_enter Try.func34, Try.ntmps34
      go_wp2_with fail
      refine Hc.out.mono ?_
      rintro e w' ⟨rfl, rfl⟩
      go_wp2_with fail
      refine Hd.out.mono ?_
      rintro e w' ⟨rfl, rfl⟩
      go_wp2_with fail
      refine Ha.out.mono ?_
      rintro e w1 ⟨v1, rfl, hn1, hb1⟩
      go_wp2_with fail
      refine (Hb.out w1 hb1).mono ?_
      rintro e w2 ⟨v2, rfl, hn2, hb2⟩
      have hz := hb1.size
      have Hb2 := Lib.hid (hb1.trans (hb2.mono hz))
      have h3 := Hl.out w2 v1 v2 (Tab.frame _ _ _ _ hn1.tab hb2) hn2.tab
      have Hl2 := Lib.hid h3
      clear hn1 hb1 hn2 hb2 h3 Hl
      go_wp2_with fail
      refine Hl2.out.mono ?_
      rintro e w3 ⟨rfl, hb3⟩
      have Hb3 := Lib.hid (Hb2.out.trans (hb3.mono Hb2.out.size))
      clear hb3
      go_wp2
      go_ret
      exact ⟨by rw [H.out]; rfl, Hb3.out⟩
set_option maxHeartbeats 400000 in
theorem spec_AreOneSided_c {w : World} {va vb : Value} {a b : List (List Int)} (h1 : Tab w va a) (h2 : Tab w vb b) :
    Calls Try.prog 33 #[va, vb] w fun e w' => e = .returned (.bool (oneM a b)) ∧ Below w.heap.size w w' := by
  have Ha := Lib.hid (spec_JoinAll_c h1)
  have Hb := Lib.hid (fun w1 (hb : Below w.heap.size w w1) => spec_JoinAll_c (Tab.frame _ _ _ _ h2 hb))
  have H := Lib.hid (show oneM a b = alikeM (joinAllV a) (joinAllV b) from rfl)
  have Hl := Lib.hid (fun w1 v1 v2 (h1 : Tab w1 v1 (joinAllV a)) (h2 : Tab w1 v2 (joinAllV b)) => spec_AreAlike_c h1 h2)
  clear h1 h2
  generalize oneM a b = T at H ⊢
  generalize joinAllV a = ja at *
  generalize joinAllV b = jb at *
  go_enter Try.func33, Try.ntmps33
  go_wp2_with fail
  refine Ha.out.mono ?_
  rintro e w1 ⟨v1, rfl, hn1, hb1⟩
  go_wp2_with fail
  refine (Hb.out w1 hb1).mono ?_
  rintro e w2 ⟨v2, rfl, hn2, hb2⟩
  have hz := hb1.size
  have Hb2 := Lib.hid (hb1.trans (hb2.mono hz))
  have h3 := Hl.out w2 v1 v2 (Tab.frame _ _ _ _ hn1.tab hb2) hn2.tab
  have Hl2 := Lib.hid h3
  clear hn1 hb1 hn2 hb2 h3 Hl
  go_wp2_with fail
  refine Hl2.out.mono ?_
  rintro e w3 ⟨rfl, hb3⟩
  have Hb3 := Lib.hid (Hb2.out.trans (hb3.mono Hb2.out.size))
  clear hb3
  go_wp2
  go_ret
  exact ⟨by rw [H.out]; rfl, Hb3.out⟩
end Go.Proofs.Ytiecliglmfampaa
