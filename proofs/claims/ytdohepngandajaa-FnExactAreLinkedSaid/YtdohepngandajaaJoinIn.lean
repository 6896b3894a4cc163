/-
  JoinIn, both sides.
-/
import Derived.Test.YtdohepngandajaaRows
import Derived.Test.YtdohepngandajaaBase
import Derived.Test.YtdohepngandajaaTabs
import Derived.Test.YtdohepngandajaaMat
import Derived.Test.YtdohepngandajaaTurn
import Derived.Test.YtdohepngandajaaTurnC
import Derived.Test.YtdohepngandajaaJoinAlls
namespace Go.Proofs.Ytdohepngandajaa
open Go.RowKit Go.Deep Go.Sd

def joinInOk (m : List (List Int)) (i j : Int) : Bool := joinOk (turnV m) i j
def joinInV (m : List (List Int)) (i j : Int) : List (List Int) := if joinOk (turnV m) i j = true then turnT (joinV (turnV m) i j) (joinV (turnV m) i j).length else []
theorem joinOk_sq {m : List (List Int)} {i j : Int} (h : joinOk m i j = true) : ∃ n, Sq n (joinV m i j) ∧ 0 < n ∧ n ≤ 9 := by
  have hs := joinV_sq h
  unfold joinOk at h
  simp only [Bool.and_eq_true] at h
  have h3 := (isMat_sq h.2).2.1
  rw [show (joinT m i.toNat j.toNat m.length).length = m.length - 1 from tabOf_len _ _ _] at h3
  exact ⟨_, hs.1, by omega, by omega⟩
theorem joinInV_bd (m : List (List Int)) (i j : Int) : (joinInV m i j).length ≤ 9 ∧ ∀ x, x ∈ joinInV m i j → x.length ≤ 9 := by
  unfold joinInV
  by_cases h : joinOk (turnV m) i j = true
  · rw [if_pos h]
    obtain ⟨n, hs, h0, h9⟩ := joinOk_sq h
    rw [hs.1]
    exact turnT_bd h9
  · rw [if_neg h]
    exact ⟨by simp, fun x hx => by cases hx⟩

set_option maxHeartbeats 400000 in
theorem impl_JoinIn_c {w : World} {va : Value} {m : List (List Int)} {i j : Int} (h1 : Tab w va m) :
    Calls Try.prog 100 #[va, .int .i64 i, .int .i64 j] w (Makes2 (OTab 3 50) w (joinInV m i j) (joinInOk m i j)) := by
  have Ht := Lib.hid (impl_TurnMatrix_c h1)
  obtain ⟨aa, ac, rfl, _, _, _⟩ := h1.shape


  have HO := Lib.hid (show joinInOk m i j = joinOk (turnV m) i j from rfl)
  have HV := Lib.hid (show joinInV m i j = if joinOk (turnV m) i j = true then turnT (joinV (turnV m) i j) (joinV (turnV m) i j).length else [] from rfl)
  have Hl := Lib.hid (fun w1 v1 (h : Tab w1 v1 (turnV m)) => impl_JoinOut_c (i := i) (j := j) h)
  have Hs := Lib.hid (fun h : joinOk (turnV m) i j = true => joinOk_sq h)
  have Hr := Lib.hid (fun (n : Nat) w1 v1 (h : Tab w1 v1 (joinV (turnV m) i j)) (hs : Sq n (joinV (turnV m) i j)) (h0 : 0 < n) (h9 : n ≤ 9) => turned_c h hs h0 h9)
  clear h1
  generalize joinInOk m i j = ok at HO ⊢
  generalize joinInV m i j = rv at HV ⊢
  generalize joinOk (turnV m) i j = b at *
  generalize joinV (turnV m) i j = t at *
  cases b with
  | false =>
    have HV2 := Lib.hid (show rv = [] from HV.out)
    go_enter Try.func100, Try.ntmps100
    go_wp2_with fail
    refine Ht.out.mono ?_
    rintro e w1 ⟨v1, rfl, hn1, hb1⟩
    go_wp2_with fail
    refine (Hl.out w1 v1 hn1.tab).mono ?_
    rintro e w2 ⟨v2, rfl, hn2, hb2⟩
    have Hb2 := Lib.hid (hb1.trans (hb2.mono hb1.size))
    clear hn1 hb1 hn2 hb2
    go_wp2
    go_ret2
    exact ⟨_, by rw [HO.out]; rfl, by rw [HV2.out]; exact New.nil _ _, Hb2.out⟩
  | true =>
    obtain ⟨n, hs, hn0, hn9⟩ := Hs.out rfl
    have HV2 := Lib.hid (show rv = turnT t n from by rw [HV.out, if_pos rfl, hs.1])
    have Hr2 := Lib.hid (fun w1 v1 (h : Tab w1 v1 t) => Hr.out n w1 v1 h hs hn0 hn9)
    clear hs hn0 hn9 Hr Hs HV
    go_enter Try.func100, Try.ntmps100
    go_wp2_with fail
    refine Ht.out.mono ?_
    rintro e w1 ⟨v1, rfl, hn1, hb1⟩
    go_wp2_with fail
    refine (Hl.out w1 v1 hn1.tab).mono ?_
    rintro e w2 ⟨v2, rfl, hn2, hb2⟩
    have Hb2 := Lib.hid (hb1.trans (hb2.mono hb1.size))
    have Hc := Lib.hid (Hr2.out w2 v2 hn2.tab)
    clear hn1 hb1 hn2 hb2 Hr2 Hl
    go_wp2_with fail
    refine Hc.out.mono ?_
    rintro e w3 ⟨v3, rfl, hn3, hb3⟩
    have Hn3 := Lib.hid (hn3.mono Hb2.out.size)
    have Hb3 := Lib.hid (Hb2.out.trans (hb3.mono Hb2.out.size))
    clear hn3 hb3
    go_wp2
    go_ret2
    exact ⟨_, by rw [HO.out]; rfl, by rw [HV2.out]; exact Hn3.out, Hb3.out⟩
set_option maxHeartbeats 400000 in
theorem spec_JoinIn_c {w : World} {va : Value} {m : List (List Int)} {i j : Int} (h1 : Tab w va m) :
    Calls Try.prog 154 #[va, .int .i64 i, .int .i64 j] w (Makes2 (OTab 3 50) w (joinInV m i j) (joinInOk m i j)) := by
  have Ht := Lib.hid (spec_TurnMatrix_c h1)
  obtain ⟨aa, ac, rfl, _, _, _⟩ := h1.shape


  have HO := Lib.hid (show joinInOk m i j = joinOk (turnV m) i j from rfl)
  have HV := Lib.hid (show joinInV m i j = if joinOk (turnV m) i j = true then turnT (joinV (turnV m) i j) (joinV (turnV m) i j).length else [] from rfl)
  have Hl := Lib.hid (fun w1 v1 (h : Tab w1 v1 (turnV m)) => spec_JoinOut_c (i := i) (j := j) h)
  have Hs := Lib.hid (fun h : joinOk (turnV m) i j = true => joinOk_sq h)
  have Hr := Lib.hid (fun (n : Nat) w1 v1 (h : Tab w1 v1 (joinV (turnV m) i j)) (hs : Sq n (joinV (turnV m) i j)) (h0 : 0 < n) (h9 : n ≤ 9) => l4Turn_c h hs h0 h9)
  clear h1
  generalize joinInOk m i j = ok at HO ⊢
  generalize joinInV m i j = rv at HV ⊢
  generalize joinOk (turnV m) i j = b at *
  generalize joinV (turnV m) i j = t at *
  cases b with
  | false =>
    have HV2 := Lib.hid (show rv = [] from HV.out)
    go_enter Try.func154, Try.ntmps154
    go_wp2_with fail
    refine Ht.out.mono ?_
    rintro e w1 ⟨v1, rfl, hn1, hb1⟩
    go_wp2_with fail
    refine (Hl.out w1 v1 hn1.tab).mono ?_
    rintro e w2 ⟨v2, rfl, hn2, hb2⟩
    have Hb2 := Lib.hid (hb1.trans (hb2.mono hb1.size))
    clear hn1 hb1 hn2 hb2
    go_wp2
    go_ret2
    exact ⟨_, by rw [HO.out]; rfl, by rw [HV2.out]; exact New.empty _ Hb2.out.size, Hb2.out.alloc Hb2.out.size _⟩
  | true =>
    obtain ⟨n, hs, hn0, hn9⟩ := Hs.out rfl
    have HV2 := Lib.hid (show rv = turnT t n from by rw [HV.out, if_pos rfl, hs.1])
    have Hr2 := Lib.hid (fun w1 v1 (h : Tab w1 v1 t) => Hr.out n w1 v1 h hs hn0 hn9)
    clear hs hn0 hn9 Hr Hs HV
    go_enter Try.func154, Try.ntmps154
    go_wp2_with fail
    refine Ht.out.mono ?_
    rintro e w1 ⟨v1, rfl, hn1, hb1⟩
    go_wp2_with fail
    refine (Hl.out w1 v1 hn1.tab).mono ?_
    rintro e w2 ⟨v2, rfl, hn2, hb2⟩
    have Hb2 := Lib.hid (hb1.trans (hb2.mono hb1.size))
    have Hc := Lib.hid (Hr2.out w2 v2 hn2.tab)
    clear hn1 hb1 hn2 hb2 Hr2 Hl
    go_wp2_with fail
    refine Hc.out.mono ?_
    rintro e w3 ⟨v3, rfl, hn3, hb3⟩
    have Hn3 := Lib.hid (hn3.mono Hb2.out.size)
    have Hb3 := Lib.hid (Hb2.out.trans (hb3.mono Hb2.out.size))
    clear hn3 hb3
    go_wp2
    go_ret2
    exact ⟨_, by rw [HO.out]; rfl, by rw [HV2.out]; exact Hn3.out, Hb3.out⟩
end Go.Proofs.Ytdohepngandajaa
