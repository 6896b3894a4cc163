/-
  The first two vertices that can be joined; IsJoined.
-/
import Derived.Test.YtdohepngandajaaRows
import Derived.Test.YtdohepngandajaaBase
import Derived.Test.YtdohepngandajaaJoin
import Derived.Test.YtdohepngandajaaJoinSpec
namespace Go.Proofs.Ytdohepngandajaa
open Go.RowKit Go.Deep Go.Sd

/-- The first j of the next g ones that can be joined to i. -/
def rowF (m : List (List Int)) (i : Nat) : Nat → Nat → Option (List (List Int))
  | 0, _ => none
  | g + 1, j => if joinOk m i j = true then some (joinV m i j) else rowF m i g (j + 1)
def firstF (m : List (List Int)) : Nat → Nat → Option (List (List Int))
  | 0, _ => none
  | g + 1, i => match rowF m i (m.length - (i + 1)) (i + 1) with
    | some x => some x
    | none => firstF m g (i + 1)
def firstJ (m : List (List Int)) : Option (List (List Int)) := firstF m m.length 0
theorem firstF_some {m : List (List Int)} {g i : Nat} {x : List (List Int)} (h : rowF m i (m.length - (i + 1)) (i + 1) = some x) : firstF m (g + 1) i = some x := by
  unfold firstF; rw [h]
theorem firstF_none {m : List (List Int)} {g i : Nat} (h : rowF m i (m.length - (i + 1)) (i + 1) = none) : firstF m (g + 1) i = firstF m g (i + 1) := by
  conv => lhs; unfold firstF
  rw [h]

set_option maxHeartbeats 1000000 in
theorem joinFirst_c {w : World} {va : Value} {m : List (List Int)} (h1 : Tab w va m) :
    Calls Try.prog 122 #[va] w (Makes2 (OTab 3 50) w ((firstJ m).getD []) (firstJ m).isSome) := by
  have hlen := h1.len
  have hsa := h1.shape
  obtain ⟨aa, ac, rfl, _, _, _⟩ := hsa
  have HO := Lib.hid (show (firstJ m).isSome = (firstF m m.length 0).isSome from rfl)
  have HV := Lib.hid (show (firstJ m).getD [] = (firstF m m.length 0).getD [] from rfl)
  generalize (firstJ m).isSome = ok at HO ⊢
  generalize (firstJ m).getD [] = rv at HV ⊢
  have Hj := Lib.hid (fun w1 (i j : Nat) (hb : Below w.heap.size w w1) => impl_JoinOut_c (i := (i : Int)) (j := (j : Int)) (Tab.frame _ _ _ _ h1 hb))
  clear h1
  obtain ⟨T, hT⟩ : ∃ T, T = firstF m m.length 0 := ⟨_, rfl⟩
  rw [← hT] at HO HV
  have HT := Lib.hid hT
  clear hT
  go_enter Try.func122, Try.ntmps122
  go_wp2
  go_loopg [10] (m.length) (fun g ii wr => ∃ (i : Nat), ii = .int .i64 i ∧ i + g = m.length ∧ Hid (T = firstF m g i) ∧ Below w.heap.size w wr)
  case atStart => exact ⟨0, rfl, by omega, HT, Below.refl _ _⟩
  case round =>
    obtain ⟨i, rfl, hi, H, hbel⟩ := hrel
    obtain ⟨g, hg⟩ : ∃ g, g = gk := ⟨_, rfl⟩
    rw [← hg] at H hi
    by_cases hlt : i < m.length
    · obtain ⟨g', rfl⟩ : ∃ t, g = t + 1 := ⟨g - 1, by omega⟩
      have Hb := Lib.hid hbel
      clear hbel HT
      go_wp2
      go_loopg [5] (m.length - (i + 1)) (fun g2 jj wr => ∃ (j : Nat), jj = .int .i64 j ∧ j + g2 = m.length ∧ Hid (rowF m i (m.length - (i + 1)) (i + 1) = rowF m i g2 j) ∧ Below w.heap.size w wr)
      case atStart => exact ⟨i + 1, by go_num, by omega, Lib.hid rfl, Hb.out⟩
      case round =>
        obtain ⟨j, rfl, hj, H2, hbel⟩ := hrel
        clear Hb
        obtain ⟨q, hq⟩ : ∃ q, q = gk := ⟨_, rfl⟩
        rw [← hq] at H2 hj
        by_cases hlt2 : j < m.length
        · obtain ⟨q', rfl⟩ : ∃ t, q = t + 1 := ⟨q - 1, by omega⟩
          have H3 := Lib.hid (show rowF m i (m.length - (i + 1)) (i + 1) = if joinOk m i j = true then some (joinV m i j) else rowF m i q' (j + 1) from H2.out)
          have Hc := Lib.hid (Hj.out wr i j hbel)
          have Hb := Lib.hid hbel
          have hz := hbel.size
          clear H2 hbel
          cases hjo : joinOk m i j with
          | true =>
            have H4 := Lib.hid (show T = some (joinV m i j) from by rw [H.out]; exact firstF_some (by rw [H3.out, hjo]; rfl))
            rw [hjo] at Hc
            clear hjo H3
            go_wp2_with fail
            refine Hc.out.mono ?_
            rintro e w1 ⟨v1, rfl, hn1, hb1⟩
            have Hn1 := Lib.hid (hn1.mono hz)
            have Hb1 := Lib.hid (Hb.out.trans (hb1.mono hz))
            clear hn1 hb1
            go_wp2
            go_ret2
            exact ⟨_, by rw [HO.out, H4.out]; rfl, by rw [HV.out, H4.out]; exact Hn1.out, Hb1.out⟩
          | false =>
            have H4 := Lib.hid (show rowF m i (m.length - (i + 1)) (i + 1) = rowF m i q' (j + 1) from by rw [H3.out, hjo]; rfl)
            rw [hjo] at Hc
            clear hjo H3
            go_wp2_with fail
            refine Hc.out.mono ?_
            rintro e w1 ⟨v1, rfl, hn1, hb1⟩
            have Hb1 := Lib.hid (Hb.out.trans (hb1.mono hz))
            clear hn1 hb1
            go_wp2
            go_roundg q'
            case measure => omega
            case rel => exact ⟨j + 1, by go_num, by omega, H4, Hb1.out⟩
        · have e : q = 0 := by omega
          subst e
          have H3 := Lib.hid (show T = firstF m g' (i + 1) from by rw [H.out]; exact firstF_none H2.out)
          have Hb := Lib.hid hbel
          have e2 : j = m.length := by omega
          clear H2 hbel hq hj
          go_wp2
          go_roundg g'
          case measure => omega
          case rel => exact ⟨i + 1, by go_num, by omega, H3, Hb.out⟩
    · have e : g = 0 := by omega
      subst e
      have H2 := Lib.hid (show T = none from H.out)
      clear H hg
      go_wp2
      go_ret2
      exact ⟨_, by rw [HO.out, H2.out]; rfl, by rw [HV.out, H2.out]; exact New.nil _ _, hbel⟩

set_option maxHeartbeats 1000000 in
theorem l18First_c {w : World} {va : Value} {m : List (List Int)} (h1 : Tab w va m) :
    Calls Try.prog 132 #[va] w (Makes2 (OTab 3 50) w ((firstJ m).getD []) (firstJ m).isSome) := by
  have hlen := h1.len
  have hsa := h1.shape
  obtain ⟨aa, ac, rfl, _, _, _⟩ := hsa
  have HO := Lib.hid (show (firstJ m).isSome = (firstF m m.length 0).isSome from rfl)
  have HV := Lib.hid (show (firstJ m).getD [] = (firstF m m.length 0).getD [] from rfl)
  generalize (firstJ m).isSome = ok at HO ⊢
  generalize (firstJ m).getD [] = rv at HV ⊢
  have Hj := Lib.hid (fun w1 (i j : Nat) (hb : Below w.heap.size w w1) => spec_JoinOut_c (i := (i : Int)) (j := (j : Int)) (Tab.frame _ _ _ _ h1 hb))
  clear h1
  obtain ⟨T, hT⟩ : ∃ T, T = firstF m m.length 0 := ⟨_, rfl⟩
  rw [← hT] at HO HV
  have HT := Lib.hid hT
  clear hT
  go_enter Try.func132, Try.ntmps132
  go_wp2
  go_loopg [4] (m.length) (fun g ii wr => ∃ (i : Nat), ii = .int .i64 i ∧ i + g = m.length ∧ Hid (T = firstF m g i) ∧ Below w.heap.size w wr)
  case atStart => exact ⟨0, rfl, by omega, HT, Below.refl _ _⟩
  case round =>
    obtain ⟨i, rfl, hi, H, hbel⟩ := hrel
    obtain ⟨g, hg⟩ : ∃ g, g = gk := ⟨_, rfl⟩
    rw [← hg] at H hi
    by_cases hlt : i < m.length
    · obtain ⟨g', rfl⟩ : ∃ t, g = t + 1 := ⟨g - 1, by omega⟩
      have Hb := Lib.hid hbel
      clear hbel HT
      go_wp2
      go_loopg [5] (m.length - (i + 1)) (fun g2 jj wr => ∃ (j : Nat), jj = .int .i64 j ∧ j + g2 = m.length ∧ Hid (rowF m i (m.length - (i + 1)) (i + 1) = rowF m i g2 j) ∧ Below w.heap.size w wr)
      case atStart => exact ⟨i + 1, by go_num, by omega, Lib.hid rfl, Hb.out⟩
      case round =>
        obtain ⟨j, rfl, hj, H2, hbel⟩ := hrel
        clear Hb
        obtain ⟨q, hq⟩ : ∃ q, q = gk := ⟨_, rfl⟩
        rw [← hq] at H2 hj
        by_cases hlt2 : j < m.length
        · obtain ⟨q', rfl⟩ : ∃ t, q = t + 1 := ⟨q - 1, by omega⟩
          have H3 := Lib.hid (show rowF m i (m.length - (i + 1)) (i + 1) = if joinOk m i j = true then some (joinV m i j) else rowF m i q' (j + 1) from H2.out)
          have Hc := Lib.hid (Hj.out wr i j hbel)
          have Hb := Lib.hid hbel
          have hz := hbel.size
          clear H2 hbel
          cases hjo : joinOk m i j with
          | true =>
            have H4 := Lib.hid (show T = some (joinV m i j) from by rw [H.out]; exact firstF_some (by rw [H3.out, hjo]; rfl))
            rw [hjo] at Hc
            clear hjo H3
            go_wp2_with fail
            refine Hc.out.mono ?_
            rintro e w1 ⟨v1, rfl, hn1, hb1⟩
            have Hn1 := Lib.hid (hn1.mono hz)
            have Hb1 := Lib.hid (Hb.out.trans (hb1.mono hz))
            clear hn1 hb1
            go_wp2
            go_ret2
            exact ⟨_, by rw [HO.out, H4.out]; rfl, by rw [HV.out, H4.out]; exact Hn1.out, Hb1.out⟩
          | false =>
            have H4 := Lib.hid (show rowF m i (m.length - (i + 1)) (i + 1) = rowF m i q' (j + 1) from by rw [H3.out, hjo]; rfl)
            rw [hjo] at Hc
            clear hjo H3
            go_wp2_with fail
            refine Hc.out.mono ?_
            rintro e w1 ⟨v1, rfl, hn1, hb1⟩
            have Hb1 := Lib.hid (Hb.out.trans (hb1.mono hz))
            clear hn1 hb1
            go_wp2
            go_roundg q'
            case measure => omega
            case rel => exact ⟨j + 1, by go_num, by omega, H4, Hb1.out⟩
        · have e : q = 0 := by omega
          subst e
          have H3 := Lib.hid (show T = firstF m g' (i + 1) from by rw [H.out]; exact firstF_none H2.out)
          have Hb := Lib.hid hbel
          have e2 : j = m.length := by omega
          clear H2 hbel hq hj
          go_wp2
          go_roundg g'
          case measure => omega
          case rel => exact ⟨i + 1, by go_num, by omega, H3, Hb.out⟩
    · have e : g = 0 := by omega
      subst e
      have H2 := Lib.hid (show T = none from H.out)
      clear H hg
      go_wp2
      go_ret2
      exact ⟨_, by rw [HO.out, H2.out]; rfl, by rw [HV.out, H2.out]; exact New.empty wr hbel.size, hbel.alloc hbel.size _⟩

def joinedM (m : List (List Int)) : Bool := isMat m && !(firstJ m).isSome


end Go.Proofs.Ytdohepngandajaa
