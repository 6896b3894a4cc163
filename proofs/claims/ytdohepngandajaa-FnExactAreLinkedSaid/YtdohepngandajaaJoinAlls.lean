/-
  JoinAll, both sides.
-/
import Derived.Test.YtdohepngandajaaRows
import Derived.Test.YtdohepngandajaaBase
import Derived.Test.YtdohepngandajaaTabs
import Derived.Test.YtdohepngandajaaMat
import Derived.Test.YtdohepngandajaaZero
import Derived.Test.YtdohepngandajaaJoin
import Derived.Test.YtdohepngandajaaJoinSpec
import Derived.Test.YtdohepngandajaaJoinAll
namespace Go.Proofs.Ytdohepngandajaa
open Go.RowKit Go.Deep Go.Sd

def joinIter : Nat → List (List Int) → List (List Int)
  | 0, m => m
  | g + 1, m => match firstJ m with
    | some x => joinIter g x
    | none => m
def joinAllV (m : List (List Int)) : List (List Int) := if isMat m = true then joinIter m.length m else []

theorem joinIter_some {g : Nat} {m x : List (List Int)} (h : firstJ m = some x) : joinIter (g + 1) m = joinIter g x := by
  conv => lhs; unfold joinIter
  rw [h]
theorem joinIter_none {g : Nat} {m : List (List Int)} (h : firstJ m = none) : joinIter g m = m := by
  cases g with
  | zero => rfl
  | succ g => unfold joinIter; rw [h]

theorem joinV_sq {m : List (List Int)} {i j : Int} (h : joinOk m i j = true) : Sq (m.length - 1) (joinV m i j) ∧ m.length ≠ 0 ∧ m.length ≤ 9 := by
  unfold joinV
  rw [if_pos h]
  refine ⟨⟨tabOf_len _ _ _, fun _ hx => mem_tabOf hx⟩, ?_⟩
  unfold joinOk at h
  simp only [Bool.and_eq_true] at h
  have := (isMat_sq h.1.1.1).2
  omega
theorem rowF_sq {m : List (List Int)} {i : Nat} {x : List (List Int)} : ∀ {g j : Nat}, rowF m i g j = some x → Sq (m.length - 1) x ∧ m.length ≠ 0 ∧ m.length ≤ 9
  | 0, j, h => by cases h
  | g + 1, j, h => by
    unfold rowF at h
    by_cases hj : joinOk m i j = true
    · rw [if_pos hj] at h
      cases h
      exact joinV_sq hj
    · rw [if_neg hj] at h
      exact rowF_sq h
theorem firstF_sq {m : List (List Int)} {x : List (List Int)} : ∀ {g i : Nat}, firstF m g i = some x → Sq (m.length - 1) x ∧ m.length ≠ 0 ∧ m.length ≤ 9
  | 0, i, h => by cases h
  | g + 1, i, h => by
    cases hr : rowF m i (m.length - (i + 1)) (i + 1) with
    | some y =>
      rw [firstF_some hr] at h
      cases h
      exact rowF_sq hr
    | none =>
      rw [firstF_none hr] at h
      exact firstF_sq h
theorem firstJ_sq {m x : List (List Int)} (h : firstJ m = some x) : Sq (m.length - 1) x ∧ m.length ≠ 0 ∧ m.length ≤ 9 := firstF_sq h
theorem joinIter_sq : ∀ (g : Nat) {m : List (List Int)}, Sq m.length m → ∃ n, n ≤ m.length ∧ Sq n (joinIter g m)
  | 0, m, h => ⟨_, Nat.le_refl _, h⟩
  | g + 1, m, h => by
    cases hf : firstJ m with
    | none => rw [joinIter_none hf]; exact ⟨_, Nat.le_refl _, h⟩
    | some x =>
      rw [joinIter_some hf]
      have hx := (firstJ_sq hf).1
      obtain ⟨n, hn, hs⟩ := joinIter_sq g (m := x) (by rw [hx.1]; exact hx)
      exact ⟨n, by rw [hx.1] at hn; omega, hs⟩
theorem joinAllV_bd (m : List (List Int)) : (joinAllV m).length ≤ 9 ∧ ∀ x, x ∈ joinAllV m → x.length ≤ 9 := by
  unfold joinAllV
  by_cases h : isMat m = true
  · rw [if_pos h]
    have hs := isMat_sq h
    obtain ⟨n, hn, hq⟩ := joinIter_sq m.length hs.1
    exact ⟨by rw [hq.1]; omega, fun x hx => by rw [hq.2 x hx]; omega⟩
  · rw [if_neg h]
    exact ⟨by simp, fun x hx => by cases hx⟩

set_option maxHeartbeats 1000000 in
theorem impl_JoinAll_c {w : World} {va : Value} {m : List (List Int)} (h1 : Tab w va m) :
    Calls Try.prog 56 #[va] w (Makes (OTab 3 50) w (joinAllV m)) := by
  have Hc := Lib.hid (impl_IsMatrix_c h1)
  cases hm : isMat m with
  | false =>
    have HV := Lib.hid (show joinAllV m = [] from by unfold joinAllV; rw [if_neg (by rw [hm]; simp)])
    rw [hm] at Hc
    obtain ⟨aa, ac, rfl, _, _, _⟩ := h1.shape
    clear h1 hm
    go_enter Try.func56, Try.ntmps56
    go_wp2_with fail
    refine Hc.out.mono ?_
    rintro e w' ⟨rfl, rfl⟩
    go_wp2
    go_ret
    exact ⟨_, rfl, by rw [HV.out]; exact New.nil _ _, Below.refl _ _⟩
  | true =>
    have HV := Lib.hid (show joinAllV m = joinIter m.length m from by unfold joinAllV; rw [if_pos hm])
    generalize joinAllV m = T at HV ⊢
    rw [hm] at Hc
    have sm := isMat_sq hm
    have Hcp := Lib.hid (copied_c h1 (by omega) (fun r hr => by rw [sm.1.2 r hr]; omega))
    obtain ⟨aa, ac, rfl, _, _, _⟩ := h1.shape
    obtain ⟨n, hn⟩ : ∃ n, n = m.length := ⟨_, rfl⟩
    have Hlen := Lib.hid hn
    rw [← hn] at HV
    clear h1 hm sm
    go_enter Try.func56, Try.ntmps56
    go_wp2_with fail
    refine Hc.out.mono ?_
    rintro e w' ⟨rfl, rfl⟩
    go_wp2_with fail
    refine Hcp.out.mono ?_
    rintro e w1 ⟨v1, rfl, hn1, hb1⟩
    have Hn1 := Lib.hid hn1
    have Hb1 := Lib.hid hb1
    clear hn1 hb1 Hcp Hc hn
    go_wp2
    go_loopg [3] n (fun g v wr => ∃ (x : List (List Int)), Hid (x.length = g) ∧ Hid (T = joinIter g x) ∧ New (OTab 3 50) w.heap.size wr v x ∧ Below w.heap.size w wr)
    case atStart => exact ⟨m, Lib.hid Hlen.out.symm, HV, Hn1.out, Hb1.out⟩
    case round =>
      obtain ⟨x, Hx, HT, hnew, hbel⟩ := hrel
      clear Hn1 Hb1 HV Hlen
      have Hb := Lib.hid hbel
      have Hn := Lib.hid hnew
      have hz := hbel.size
      have Hf := Lib.hid (joinFirst_c hnew.tab)
      obtain ⟨xa, xn, xc, rfl⟩ := hnew.slice
      clear hnew hbel
      cases hj : firstJ x with
      | none =>
        have HT2 := Lib.hid (show T = x from by rw [HT.out]; exact joinIter_none hj)
        rw [hj] at Hf
        clear hj HT Hx
        go_wp2_with fail
        refine Hf.out.mono ?_
        rintro e w2 ⟨v2, rfl, hn2, hb2⟩
        have Hb2 := Lib.hid (Hb.out.trans (hb2.mono hz))
        have Hn2 := Lib.hid (New.keep (OTab.kept _ _) Hn.out hb2 (Nat.le_refl _))
        clear hn2 hb2
        go_wp2
        go_ret
        exact ⟨_, rfl, by rw [HT2.out]; exact Hn2.out, Hb2.out⟩
      | some y =>
        obtain ⟨hs, h0, _⟩ := firstJ_sq hj
        obtain ⟨g, hg⟩ : ∃ g, gk = g + 1 := ⟨gk - 1, by have := Hx.out; omega⟩
        have HT2 := Lib.hid (show T = joinIter g y from by rw [HT.out, hg]; exact joinIter_some hj)
        have Hy := Lib.hid (show y.length = g from by have := Hx.out; have := hs.1; omega)
        rw [hj] at Hf
        clear hj HT Hx hs h0
        go_wp2_with fail
        refine Hf.out.mono ?_
        rintro e w2 ⟨v2, rfl, hn2, hb2⟩
        have Hb2 := Lib.hid (Hb.out.trans (hb2.mono hz))
        have Hn2 := Lib.hid (New.mono hn2 hz)
        obtain ⟨ya, yn, yc, rfl⟩ := hn2.slice
        clear hn2 hb2
        go_wp2
        go_roundg g
        case measure => omega
        case rel => exact ⟨y, Hy, HT2, Hn2.out, Hb2.out⟩
set_option maxHeartbeats 1000000 in
theorem spec_JoinAll_c {w : World} {va : Value} {m : List (List Int)} (h1 : Tab w va m) :
    Calls Try.prog 62 #[va] w (Makes (OTab 3 50) w (joinAllV m)) := by
  have Hc := Lib.hid (spec_IsMatrix_c h1)
  cases hm : isMat m with
  | false =>
    have HV := Lib.hid (show joinAllV m = [] from by unfold joinAllV; rw [if_neg (by rw [hm]; simp)])
    rw [hm] at Hc
    obtain ⟨aa, ac, rfl, _, _, _⟩ := h1.shape
    clear h1 hm
    go_enter Try.func62, Try.ntmps62
    go_wp2_with fail
    refine Hc.out.mono ?_
    rintro e w' ⟨rfl, rfl⟩
    go_wp2
    go_ret
    exact ⟨_, rfl, by rw [HV.out]; exact New.empty _ (Nat.le_refl _), (Below.refl _ _).alloc (Nat.le_refl _) _⟩
  | true =>
    have HV := Lib.hid (show joinAllV m = joinIter m.length m from by unfold joinAllV; rw [if_pos hm])
    generalize joinAllV m = T at HV ⊢
    rw [hm] at Hc
    have sm := isMat_sq hm
    have Hcp := Lib.hid (l4Copy_c h1 (by omega) (fun r hr => by rw [sm.1.2 r hr]; omega))
    obtain ⟨aa, ac, rfl, _, _, _⟩ := h1.shape
    obtain ⟨n, hn⟩ : ∃ n, n = m.length := ⟨_, rfl⟩
    have Hlen := Lib.hid hn
    rw [← hn] at HV
    clear h1 hm sm
    go_enter Try.func62, Try.ntmps62
    go_wp2_with fail
    refine Hc.out.mono ?_
    rintro e w' ⟨rfl, rfl⟩
    go_wp2_with fail
    refine Hcp.out.mono ?_
    rintro e w1 ⟨v1, rfl, hn1, hb1⟩
    have Hn1 := Lib.hid hn1
    have Hb1 := Lib.hid hb1
    clear hn1 hb1 Hcp Hc hn
    go_wp2
    go_loopg [3] n (fun g v wr => ∃ (x : List (List Int)), Hid (x.length = g) ∧ Hid (T = joinIter g x) ∧ New (OTab 3 50) w.heap.size wr v x ∧ Below w.heap.size w wr)
    case atStart => exact ⟨m, Lib.hid Hlen.out.symm, HV, Hn1.out, Hb1.out⟩
    case round =>
      obtain ⟨x, Hx, HT, hnew, hbel⟩ := hrel
      clear Hn1 Hb1 HV Hlen
      have Hb := Lib.hid hbel
      have Hn := Lib.hid hnew
      have hz := hbel.size
      have Hf := Lib.hid (l18First_c hnew.tab)
      obtain ⟨xa, xn, xc, rfl⟩ := hnew.slice
      clear hnew hbel
      cases hj : firstJ x with
      | none =>
        have HT2 := Lib.hid (show T = x from by rw [HT.out]; exact joinIter_none hj)
        rw [hj] at Hf
        clear hj HT Hx
        go_wp2_with fail
        refine Hf.out.mono ?_
        rintro e w2 ⟨v2, rfl, hn2, hb2⟩
        have Hb2 := Lib.hid (Hb.out.trans (hb2.mono hz))
        have Hn2 := Lib.hid (New.keep (OTab.kept _ _) Hn.out hb2 (Nat.le_refl _))
        clear hn2 hb2
        go_wp2
        go_ret
        exact ⟨_, rfl, by rw [HT2.out]; exact Hn2.out, Hb2.out⟩
      | some y =>
        obtain ⟨hs, h0, _⟩ := firstJ_sq hj
        obtain ⟨g, hg⟩ : ∃ g, gk = g + 1 := ⟨gk - 1, by have := Hx.out; omega⟩
        have HT2 := Lib.hid (show T = joinIter g y from by rw [HT.out, hg]; exact joinIter_some hj)
        have Hy := Lib.hid (show y.length = g from by have := Hx.out; have := hs.1; omega)
        rw [hj] at Hf
        clear hj HT Hx hs h0
        go_wp2_with fail
        refine Hf.out.mono ?_
        rintro e w2 ⟨v2, rfl, hn2, hb2⟩
        have Hb2 := Lib.hid (Hb.out.trans (hb2.mono hz))
        have Hn2 := Lib.hid (New.mono hn2 hz)
        obtain ⟨ya, yn, yc, rfl⟩ := hn2.slice
        clear hn2 hb2
        go_wp2
        go_roundg g
        case measure => omega
        case rel => exact ⟨y, Hy, HT2, Hn2.out, Hb2.out⟩
end Go.Proofs.Ytdohepngandajaa
