/-
  LeastPaths and CountOrbits, both sides: the walks.
-/
import Derived.Test.YtiecliglmfampaaRows
import Derived.Test.YtiecliglmfampaaBase
import Derived.Test.YtiecliglmfampaaOpen
import Derived.Test.YtiecliglmfampaaMat
import Derived.Test.YtiecliglmfampaaMoeb
import Derived.Test.YtiecliglmfampaaPower
import Derived.Test.YtiecliglmfampaaLeast
namespace Go.Proofs.Ytiecliglmfampaa
open Go.RowKit Go.Deep Go.Sd

set_option maxHeartbeats 1000000 in

theorem impl_LeastPaths_c {w : World} {va : Value} {m : List (List Int)} {n : Int} (h1 : Tab w va m) :
    Calls Try.prog 52 #[va, .int .i64 n] w fun e w' => e = .returned (.int .i64 (leastM m n)) ∧ Below w.heap.size w w' := by
  by_cases h12 : 12 < n
  · have H := Lib.hid (show leastM m n = -1 from by unfold leastM; rw [if_pos (Or.inl h12)])
    obtain ⟨aa, ac, rfl, _, _, _⟩ := h1.shape
    clear h1
    go_enter Try.func52, Try.ntmps52
    go_wp2
    go_ret
    exact ⟨by rw [H.out]; rfl, Below.refl _ _⟩
  have Hc := Lib.hid (impl_ClosedPaths_c (n := n) h1)
  by_cases hc : closedM m n < 0
  · have H := Lib.hid (show leastM m n = -1 from by unfold leastM; rw [if_pos (Or.inr hc)])
    obtain ⟨aa, ac, rfl, _, _, _⟩ := h1.shape
    clear h1
    generalize closedM m n = c at *
    go_enter Try.func52, Try.ntmps52
    go_wp2_with (go_at_call 85; refine Hc.out.mono ?_; rintro e w1 ⟨rfl, hb1⟩)
    go_ret
    exact ⟨by rw [H.out]; rfl, hb1⟩
  have hn1 := closedM_pos hc
  obtain ⟨N, rfl⟩ : ∃ N : Nat, n = (N : Int) := ⟨n.toNat, by omega⟩
  have HT := Lib.hid (show leastM m N = lpSum m N N from by unfold leastM; rw [if_neg (by omega)]; rfl)
  have HS := Lib.hid (fun k => lpSum_bd m N k)
  have HB := Lib.hid (fun d => closedM_bd m d)
  have Hd := Lib.hid (fun w1 (d : Int) (hb : Below w.heap.size w w1) => impl_ClosedPaths_c (n := d) (Tab.frame _ _ _ _ h1 hb))
  have Hs := Lib.hid (fun k : Nat => show lpSum m N (k + 1) = lpSum m N k + (if (N : Int) % ((k : Int) + 1) = 0 then moeb ((N : Int) / ((k : Int) + 1)) * closedM m ((k : Int) + 1) else 0) from rfl)
  have HL := Lib.hid (show lpSum m N 0 = 0 from rfl)
  generalize leastM m N = T at HT ⊢
  obtain ⟨aa, ac, rfl, _, _, _⟩ := h1.shape
  clear h1
  obtain ⟨c, hcc⟩ : ∃ c, c = closedM m N := ⟨_, rfl⟩
  rw [← hcc] at Hc hc
  clear hcc
  generalize lpSum m N = sm at *
  generalize closedM m = cm at *
  go_enter Try.func52, Try.ntmps52
  go_wp2_with (go_at_call 85; refine Hc.out.mono ?_; rintro e w1 ⟨rfl, hb1⟩)
  have Hb1 := Lib.hid hb1
  clear hb1 hc
  go_loopg [5, 6] N (fun g s d wr => ∃ (k : Nat), d = .int .i64 ((k : Int) + 1) ∧ s = .int .i64 (sm k) ∧ k + g = N ∧ Below w.heap.size w wr)
  case atStart => exact ⟨0, rfl, by rw [HL.out], by omega, Hb1.out⟩
  case round =>
    obtain ⟨k, rfl, rfl, hk, hbel⟩ := hrel
    clear Hb1
    have Hb := Lib.hid hbel
    have hz := hbel.size
    clear hbel
    have hs1 := HS.out k
    by_cases hlt : k < N
    · by_cases hmod : (N : Int) % ((k : Int) + 1) = 0
      · have Hs1 := Lib.hid (show sm (k + 1) = sm k + moeb ((N : Int) / ((k : Int) + 1)) * cm ((k : Int) + 1) from by rw [Hs.out, if_pos hmod])
        have t1 : ((N : Int) % ((k : Int) + 1) == 0) = true := by simp [hmod]
        have Hm := Lib.hid (fun w1 => impl_MoebiusOf_c ((N : Int) / ((k : Int) + 1)) w1)
        have hb3 := mul_bd2 (moeb_bd ((N : Int) / ((k : Int) + 1))) (HB.out ((k : Int) + 1))
        have Hd1 := Lib.hid (Hd.out wr ((k : Int) + 1) Hb.out)
        have t4 : 0 ≤ (N : Int) / ((k : Int) + 1) := Int.ediv_nonneg (by omega) (by omega)
        have t5 : (N : Int) / ((k : Int) + 1) ≤ 12 := Int.le_trans (Int.ediv_le_self _ (by omega)) (by omega)
        generalize moeb ((N : Int) / ((k : Int) + 1)) = X at *
        generalize cm ((k : Int) + 1) = Y at *
        obtain ⟨hb31, hb32⟩ := hb3
        obtain ⟨hs11, hs12⟩ := hs1
        generalize sm k = S at *
        clear hmod
        go_wp2_with (first
          | (go_at_call 86; refine (Hm.out _).mono ?_; rintro e w' ⟨rfl, rfl⟩)
          | (go_at_call 85; refine Hd1.out.mono ?_; rintro e w2 ⟨rfl, hb2⟩; have Hb2 := Lib.hid (Hb.out.trans (hb2.mono hz)); clear hb2)
          | fail)
        go_roundg (N - (k + 1))
        case measure => omega
        case rel => exact ⟨k + 1, by go_num, by rw [Hs1.out], by omega, Hb2.out⟩
      · have Hs1 := Lib.hid (show sm (k + 1) = sm k from by rw [Hs.out, if_neg hmod]; omega)
        have t1 : ((N : Int) % ((k : Int) + 1) == 0) = false := by simp [hmod]
        clear hmod hs1
        go_wp2
        go_roundg (N - (k + 1))
        case measure => omega
        case rel => exact ⟨k + 1, by go_num, by rw [Hs1.out], by omega, Hb.out⟩
    · have e : k = N := by omega
      subst e
      go_wp2
      go_ret
      exact ⟨by rw [HT.out]; rfl, Hb.out⟩
set_option maxHeartbeats 400000 in
theorem impl_CountOrbits_c {w : World} {va : Value} {m : List (List Int)} {n : Int} (h1 : Tab w va m) (hi : I64 n) :
    Calls Try.prog 45 #[va, .int .i64 n] w fun e w' => e = .returned (.int .i64 (orbitM m n)) ∧ Below w.heap.size w w' := by
  have Hc := Lib.hid (impl_LeastPaths_c (n := n) h1)
  have hb := leastM_bd m n
  obtain ⟨aa, ac, rfl, _, _, _⟩ := h1.shape
  clear h1
  by_cases hl : leastM m n < 0
  · have H := Lib.hid (show orbitM m n = -1 from by unfold orbitM; rw [if_pos hl])
    generalize leastM m n = L at *
    go_enter Try.func45, Try.ntmps45
    go_wp2_with fail
    refine Hc.out.mono ?_
    rintro e w1 ⟨rfl, hb1⟩
    go_wp2
    go_ret
    exact ⟨by rw [H.out]; rfl, hb1⟩
  · have H := Lib.hid (show orbitM m n = leastM m n / n from by unfold orbitM; rw [if_neg hl])
    have hn := leastM_pos hl
    have hi2 := hi.2
    have hl2 : 0 ≤ leastM m n := by omega
    have hd1 : 0 ≤ leastM m n / n := Int.ediv_nonneg hl2 (by omega)
    have hd2 : leastM m n / n ≤ leastM m n := Int.ediv_le_self _ hl2
    generalize leastM m n = L at *
    clear hl hi
    go_enter Try.func45, Try.ntmps45
    go_wp2_with fail
    refine Hc.out.mono ?_
    rintro e w1 ⟨rfl, hb1⟩
    go_wp2
    go_ret
    exact ⟨by rw [H.out]; rfl, hb1⟩
set_option maxHeartbeats 1000000 in

theorem spec_LeastPaths_c {w : World} {va : Value} {m : List (List Int)} {n : Int} (h1 : Tab w va m) :
    Calls Try.prog 51 #[va, .int .i64 n] w fun e w' => e = .returned (.int .i64 (leastM m n)) ∧ Below w.heap.size w w' := by
  by_cases h12 : 12 < n
  · have H := Lib.hid (show leastM m n = -1 from by unfold leastM; rw [if_pos (Or.inl h12)])
    obtain ⟨aa, ac, rfl, _, _, _⟩ := h1.shape
    clear h1
    go_enter Try.func51, Try.ntmps51
    go_wp2
    go_ret
    exact ⟨by rw [H.out]; rfl, Below.refl _ _⟩
  have Hc := Lib.hid (spec_ClosedPaths_c (n := n) h1)
  by_cases hc : closedM m n < 0
  · have H := Lib.hid (show leastM m n = -1 from by unfold leastM; rw [if_pos (Or.inr hc)])
    obtain ⟨aa, ac, rfl, _, _, _⟩ := h1.shape
    clear h1
    generalize closedM m n = c at *
    go_enter Try.func51, Try.ntmps51
    go_wp2_with (go_at_call 83; refine Hc.out.mono ?_; rintro e w1 ⟨rfl, hb1⟩)
    go_ret
    exact ⟨by rw [H.out]; rfl, hb1⟩
  have hn1 := closedM_pos hc
  obtain ⟨N, rfl⟩ : ∃ N : Nat, n = (N : Int) := ⟨n.toNat, by omega⟩
  have HT := Lib.hid (show leastM m N = lpSum m N N from by unfold leastM; rw [if_neg (by omega)]; rfl)
  have HS := Lib.hid (fun k => lpSum_bd m N k)
  have HB := Lib.hid (fun d => closedM_bd m d)
  have Hd := Lib.hid (fun w1 (d : Int) (hb : Below w.heap.size w w1) => spec_ClosedPaths_c (n := d) (Tab.frame _ _ _ _ h1 hb))
  have Hs := Lib.hid (fun k : Nat => show lpSum m N (k + 1) = lpSum m N k + (if (N : Int) % ((k : Int) + 1) = 0 then moeb ((N : Int) / ((k : Int) + 1)) * closedM m ((k : Int) + 1) else 0) from rfl)
  have HL := Lib.hid (show lpSum m N 0 = 0 from rfl)
  generalize leastM m N = T at HT ⊢
  obtain ⟨aa, ac, rfl, _, _, _⟩ := h1.shape
  clear h1
  obtain ⟨c, hcc⟩ : ∃ c, c = closedM m N := ⟨_, rfl⟩
  rw [← hcc] at Hc hc
  clear hcc
  generalize lpSum m N = sm at *
  generalize closedM m = cm at *
  go_enter Try.func51, Try.ntmps51
  go_wp2_with (go_at_call 83; refine Hc.out.mono ?_; rintro e w1 ⟨rfl, hb1⟩)
  have Hb1 := Lib.hid hb1
  clear hb1 hc
  go_loopg [5, 6] N (fun g s d wr => ∃ (k : Nat), d = .int .i64 ((k : Int) + 1) ∧ s = .int .i64 (sm k) ∧ k + g = N ∧ Below w.heap.size w wr)
  case atStart => exact ⟨0, rfl, by rw [HL.out], by omega, Hb1.out⟩
  case round =>
    obtain ⟨k, rfl, rfl, hk, hbel⟩ := hrel
    clear Hb1
    have Hb := Lib.hid hbel
    have hz := hbel.size
    clear hbel
    have hs1 := HS.out k
    by_cases hlt : k < N
    · by_cases hmod : (N : Int) % ((k : Int) + 1) = 0
      · have Hs1 := Lib.hid (show sm (k + 1) = sm k + moeb ((N : Int) / ((k : Int) + 1)) * cm ((k : Int) + 1) from by rw [Hs.out, if_pos hmod])
        have t1 : ((N : Int) % ((k : Int) + 1) == 0) = true := by simp [hmod]
        have Hm := Lib.hid (fun w1 => spec_MoebiusOf_c ((N : Int) / ((k : Int) + 1)) w1)
        have hb3 := mul_bd2 (moeb_bd ((N : Int) / ((k : Int) + 1))) (HB.out ((k : Int) + 1))
        have Hd1 := Lib.hid (Hd.out wr ((k : Int) + 1) Hb.out)
        have t4 : 0 ≤ (N : Int) / ((k : Int) + 1) := Int.ediv_nonneg (by omega) (by omega)
        have t5 : (N : Int) / ((k : Int) + 1) ≤ 12 := Int.le_trans (Int.ediv_le_self _ (by omega)) (by omega)
        generalize moeb ((N : Int) / ((k : Int) + 1)) = X at *
        generalize cm ((k : Int) + 1) = Y at *
        obtain ⟨hb31, hb32⟩ := hb3
        obtain ⟨hs11, hs12⟩ := hs1
        generalize sm k = S at *
        clear hmod
        go_wp2_with (first
          | (go_at_call 84; refine (Hm.out _).mono ?_; rintro e w' ⟨rfl, rfl⟩)
          | (go_at_call 83; refine Hd1.out.mono ?_; rintro e w2 ⟨rfl, hb2⟩; have Hb2 := Lib.hid (Hb.out.trans (hb2.mono hz)); clear hb2)
          | fail)
        go_roundg (N - (k + 1))
        case measure => omega
        case rel => exact ⟨k + 1, by go_num, by rw [Hs1.out], by omega, Hb2.out⟩
      · have Hs1 := Lib.hid (show sm (k + 1) = sm k from by rw [Hs.out, if_neg hmod]; omega)
        have t1 : ((N : Int) % ((k : Int) + 1) == 0) = false := by simp [hmod]
        clear hmod hs1
        go_wp2
        go_roundg (N - (k + 1))
        case measure => omega
        case rel => exact ⟨k + 1, by go_num, by rw [Hs1.out], by omega, Hb.out⟩
    · have e : k = N := by omega
      subst e
      go_wp2
      go_ret
      exact ⟨by rw [HT.out]; rfl, Hb.out⟩
set_option maxHeartbeats 400000 in
theorem spec_CountOrbits_c {w : World} {va : Value} {m : List (List Int)} {n : Int} (h1 : Tab w va m) (hi : I64 n) :
    Calls Try.prog 44 #[va, .int .i64 n] w fun e w' => e = .returned (.int .i64 (orbitM m n)) ∧ Below w.heap.size w w' := by
  have Hc := Lib.hid (spec_LeastPaths_c (n := n) h1)
  have hb := leastM_bd m n
  obtain ⟨aa, ac, rfl, _, _, _⟩ := h1.shape
  clear h1
  by_cases hl : leastM m n < 0
  · have H := Lib.hid (show orbitM m n = -1 from by unfold orbitM; rw [if_pos hl])
    generalize leastM m n = L at *
    go_enter Try.func44, Try.ntmps44
    go_wp2_with fail
    refine Hc.out.mono ?_
    rintro e w1 ⟨rfl, hb1⟩
    go_wp2
    go_ret
    exact ⟨by rw [H.out]; rfl, hb1⟩
  · have H := Lib.hid (show orbitM m n = leastM m n / n from by unfold orbitM; rw [if_neg hl])
    have hn := leastM_pos hl
    have hi2 := hi.2
    have hl2 : 0 ≤ leastM m n := by omega
    have hd1 : 0 ≤ leastM m n / n := Int.ediv_nonneg hl2 (by omega)
    have hd2 : leastM m n / n ≤ leastM m n := Int.ediv_le_self _ hl2
    generalize leastM m n = L at *
    clear hl hi
    go_enter Try.func44, Try.ntmps44
    go_wp2_with fail
    refine Hc.out.mono ?_
    rintro e w1 ⟨rfl, hb1⟩
    go_wp2
    go_ret
    exact ⟨by rw [H.out]; rfl, hb1⟩
end Go.Proofs.Ytiecliglmfampaa
