/-
  SplitIn, both sides.
-/
import Derived.Test.YtdohepngandajaaRows
import Derived.Test.YtdohepngandajaaBase
import Derived.Test.YtdohepngandajaaTabs
import Derived.Test.YtdohepngandajaaMat
import Derived.Test.YtdohepngandajaaTurn
import Derived.Test.YtdohepngandajaaTurnC
import Derived.Test.YtdohepngandajaaSplitOut
import Derived.Test.YtdohepngandajaaSplitSpec
namespace Go.Proofs.Ytdohepngandajaa
open Go.RowKit Go.Deep Go.Sd

def splitInOk (m : List (List Int)) (i : Int) (P : List Int) : Bool := splitOk (turnV m) i P
def splitInV (m : List (List Int)) (i : Int) (P : List Int) : List (List Int) := if splitOk (turnV m) i P = true then turnT (splitV (turnV m) i P) (splitV (turnV m) i P).length else []
theorem splitInV_bd (m : List (List Int)) (i : Int) (P : List Int) : (splitInV m i P).length ≤ 9 ∧ ∀ x, x ∈ splitInV m i P → x.length ≤ 9 := by
  unfold splitInV
  by_cases h : splitOk (turnV m) i P = true
  · rw [if_pos h]
    obtain ⟨n, hs, h0, h9⟩ := splitOk_sq h
    rw [hs.1]
    exact turnT_bd h9
  · rw [if_neg h]
    exact ⟨by simp, fun x hx => by cases hx⟩

set_option maxHeartbeats 400000 in
theorem impl_SplitIn_c {w : World} {va vp : Value} {m : List (List Int)} {i : Int} {P : List Int} (h1 : Tab w va m) (h2 : Ints w vp P) :
    Calls Try.prog 98 #[va, .int .i64 i, vp] w (Makes2 (OTab 3 50) w (splitInV m i P) (splitInOk m i P)) := by
  have Ht := Lib.hid (impl_TurnMatrix_c h1)
  obtain ⟨aa, ac, rfl, _, _, _⟩ := h1.shape
  have H2 := Lib.hid h2
  obtain ⟨pa, pc, rfl, _, _, _⟩ := h2.shape
  have HO := Lib.hid (show splitInOk m i P = splitOk (turnV m) i P from rfl)
  have HV := Lib.hid (show splitInV m i P = if splitOk (turnV m) i P = true then turnT (splitV (turnV m) i P) (splitV (turnV m) i P).length else [] from rfl)
  have Hl := Lib.hid (fun w1 v1 v2 (h : Tab w1 v1 (turnV m)) (h2 : Ints w1 v2 P) => impl_SplitOut_c (i := i) h h2)
  have Hs := Lib.hid (fun h : splitOk (turnV m) i P = true => splitOk_sq h)
  have Hr := Lib.hid (fun (n : Nat) w1 v1 (h : Tab w1 v1 (splitV (turnV m) i P)) (hs : Sq n (splitV (turnV m) i P)) (h0 : 0 < n) (h9 : n ≤ 9) => turned_c h hs h0 h9)
  clear h1 h2
  generalize splitInOk m i P = ok at HO ⊢
  generalize splitInV m i P = rv at HV ⊢
  generalize splitOk (turnV m) i P = b at *
  generalize splitV (turnV m) i P = t at *
  cases b with
  | false =>
    have HV2 := Lib.hid (show rv = [] from HV.out)
    go_enter Try.func98, Try.ntmps98
    go_wp2_with fail
    refine Ht.out.mono ?_
    rintro e w1 ⟨v1, rfl, hn1, hb1⟩
    go_wp2_with fail
    refine (Hl.out w1 v1 _ hn1.tab (Ints.frame _ _ _ _ H2.out hb1)).mono ?_
    rintro e w2 ⟨v2, rfl, hn2, hb2⟩
    have Hb2 := Lib.hid (hb1.trans (hb2.mono hb1.size))
    clear hn1 hb1 hn2 hb2
    go_wp2
    go_ret2
    exact ⟨_, by rw [HO.out]; rfl, by rw [HV2.out]; exact New.nil _ _, Hb2.out⟩
  | true =>
    obtain ⟨n, hs, hn0, hn9⟩ := Hs.out rfl
    have HV2 := Lib.hid (show rv = turnT t n from by rw [HV.out, if_pos rfl, hs.1])
    have Hr2 := Lib.hid (fun w1 v1 (h : Tab w1 v1 t) => Hr.out n w1 v1 h hs hn0 hn9)
    clear hs hn0 hn9 Hr Hs HV
    go_enter Try.func98, Try.ntmps98
    go_wp2_with fail
    refine Ht.out.mono ?_
    rintro e w1 ⟨v1, rfl, hn1, hb1⟩
    go_wp2_with fail
    refine (Hl.out w1 v1 _ hn1.tab (Ints.frame _ _ _ _ H2.out hb1)).mono ?_
    rintro e w2 ⟨v2, rfl, hn2, hb2⟩
    have Hb2 := Lib.hid (hb1.trans (hb2.mono hb1.size))
    have Hc := Lib.hid (Hr2.out w2 v2 hn2.tab)
    clear hn1 hb1 hn2 hb2 Hr2 Hl
    go_wp2_with fail
    refine Hc.out.mono ?_
    rintro e w3 ⟨v3, rfl, hn3, hb3⟩
    have Hn3 := Lib.hid (hn3.mono Hb2.out.size)
    have Hb3 := Lib.hid (Hb2.out.trans (hb3.mono Hb2.out.size))
    clear hn3 hb3
    go_wp2
    go_ret2
    exact ⟨_, by rw [HO.out]; rfl, by rw [HV2.out]; exact Hn3.out, Hb3.out⟩
end Go.Proofs.Ytdohepngandajaa
