/-
  Texts of this claim joined: laws for its walks, contracts of the functions that the law reaches.
-/
import Derived.Test.YtdohepngandajaaRows
import Derived.Test.YtdohepngandajaaFnPureM1
import Derived.Test.YtdohepngandajaaFnPureM4
import Derived.Test.YtdohepngandajaaFnPureM5
import Derived.Test.YtdohepngandajaaFnPureM13
import Derived.StillTailTactics
import Derived.Test.YtdohepngandajaaFnPureM6
import Derived.Test.YtdohepngandajaaFnPureM7
import Derived.Test.YtdohepngandajaaFnPureM2
import Derived.Test.YtdohepngandajaaFnPureM10
import Derived.Deep.DeepCutAuto
section
/-
  Rows and columns exchanged, both sides.
-/
namespace Go.Proofs.Ytdohepngandajaa
open Go.RowKit Go.Deep Go.Sd

set_option maxHeartbeats 1000000 in
theorem turned_c {w : World} {va : Value} {m : List (List Int)} {n : Nat} (h1 : Tab w va m) (hm : Sq n m) (hn0 : 0 < n) (hn : n ≤ 9) :
    Calls Try.prog 94 #[va] w (Makes (OTab 3 50) w (turnT m n)) := by
  obtain ⟨ab, ao, ac, rfl, hab, hae⟩ := h1.entAt hm.1 hm.2 hn0
  obtain ⟨zb, zo, zc, hz1, hzb, _, _⟩ := hae.at hn0 hn0
  rw [Nat.add_zero] at hz1
  have hn1 : (0 : Int) < (n : Int) := by omega
  clear h1 hm
  go_enter Try.func94, Try.ntmps94
  go_wp2
  clear hz1 hn1
  go_loopg [3, 12] n (fun g v jj wr => ∃ (j : Nat), jj = .int .i64 j ∧ j + g = n ∧ New (OTab 3 50) w.heap.size wr v ((turnT m n).take j) ∧ Below w.heap.size w wr)
  case atStart => exact ⟨0, rfl, by omega, New.empty w (Nat.le_refl _), (Below.refl _ _).alloc (Nat.le_refl _) _⟩
  case round =>
    obtain ⟨j, rfl, hj, hnew, hbel⟩ := hrel
    by_cases hlt : j < n
    · obtain ⟨wo, rfl⟩ : ∃ wo : World, wo = wr := ⟨_, rfl⟩
      have hle := hbel.size
      have Hn := Lib.hid hnew
      have Hb := Lib.hid hbel
      have Hlk := Lib.hid (show ((turnT m n).take j).length ≤ n from by rw [List.length_take]; omega)
      clear hnew hbel
      go_wp2
      go_loopg [5, 18] n (fun g lv ii wr => ∃ (i : Nat), ii = .int .i64 i ∧ i + g = n ∧ New (OInts 3) wo.heap.size wr lv ((rowOf' n (fun i => ent m i j)).take i) ∧ Below wo.heap.size wo wr)
      case atStart => exact ⟨0, rfl, by omega, New.empty wo (Nat.le_refl _), (Below.refl _ _).alloc (Nat.le_refl _) _⟩
      case round =>
        obtain ⟨i, rfl, hi, hnew, hbel⟩ := hrel
        obtain ⟨wi, rfl⟩ : ∃ wi : World, wi = wr := ⟨_, rfl⟩
        have hle2 := hbel.size
        have hrule2 : ∀ b o, b < w.heap.size → wi.cell? ⟨b, o, none⟩ = w.cell? ⟨b, o, none⟩ := fun b o hb => (hbel.rule b o (by omega)).trans (Hb.out.rule b o hb)
        have Hn2 := Lib.hid hnew
        have Hb2 := Lib.hid hbel
        have Hll := Lib.hid (show ((rowOf' n (fun i => ent m i j)).take i).length ≤ n from by rw [List.length_take]; omega)
        clear hnew hbel
        by_cases hlt2 : i < n
        · obtain ⟨rb, ro, rc, hA1, hrb, _, hA2⟩ := hae.at hlt2 hn0
          have hA3 := hA2 j hlt
          have Hs := Lib.hid (show _ = _ from take_snoc' (show (rowOf' n (fun i => ent m i j))[i]? = some (ent m i j) from rowOf_at hlt2))
          have hi1 : (i : Int) < (n : Int) := by omega
          have hi2 : (j : Int) < (n : Int) := by omega
          generalize ent m i j = X at *
          clear hA2 hae
          go_wp2_with (at_builtin; refine wpl_push (w0 := wi) (lo := wo.heap.size) (y := X) OIntR.kept rfl (.tmp 21) (.tmp 29) 50 rfl 3 (.int .i64 0) 8 Try.underlying50 infoI rfl Hn2.out hle2 ((Below.refl _ _).alloc (Nat.le_refl _) _) ⟨[], ⟨rfl, rfl⟩, by simp [Fresh]⟩ (bb := wi.heap.size) (c := 1) (by simp) rfl rfl (by have := Hll.out; omega) (by have := Hll.out; omega) ?_; intro v1 w1 hn1 _ _ hb1)
          go_roundg (n - (i + 1))
          case measure => omega
          case rel => exact ⟨i + 1, by go_num, by omega, by rw [← Hs.out]; exact hn1, Hb2.out.trans hb1⟩
        · have e : i = n := by omega
          subst e
          have hr := Hn2.out
          rw [rowOf_full] at hr
          obtain ⟨xa, xn, xc, rfl⟩ := hr.slice
          have Hr := Lib.hid hr
          have Hs := Lib.hid (show _ = _ from take_snoc' (show (turnT m i)[j]? = some (rowOf' i (fun k => ent m k j)) from tabOf_at hlt))
          clear hr hae
          go_wp2_with (at_builtin; refine wpl_push (w0 := wo) (lo := w.heap.size) (OInts.kept _) rfl (.tmp 32) (.tmp 34) 41 rfl 50 (.slice none 0 0) 24 Try.underlying41 infoR rfl Hn.out hle (Hb2.out.alloc hle2 _) (New.keep (OInts.kept _) Hr.out ((Below.refl wi.heap.size _).alloc (Nat.le_refl _) _) (Nat.le_refl _)) (bb := wi.heap.size) (c := 1) (by simp) rfl rfl (by have := Hlk.out; omega) (by have := Hlk.out; omega) ?_; intro v1 w1 hn1 _ _ hb1)
          go_roundg (i - (j + 1))
          case measure => omega
          case rel => exact ⟨j + 1, by go_num, by omega, by rw [← Hs.out]; exact hn1, Hb.out.trans hb1⟩
    · have e : j = n := by omega
      subst e
      have Hr := Lib.hid (show New (OTab 3 50) w.heap.size wr _ (turnT m j) from by have h := hnew; rw [show turnT m j = tabOf j j (fun i k => ent m k i) from rfl, tabOf_full] at h; exact h)
      clear hnew hae
      go_wp2
      go_ret
      exact ⟨_, rfl, Hr.out, hbel⟩

set_option maxHeartbeats 1000000 in
set_option maxRecDepth 100000 in
theorem l4Turn_c {w : World} {va : Value} {m : List (List Int)} {n : Nat} (h1 : Tab w va m) (hm : Sq n m) (hn0 : 0 < n) (hn : n ≤ 9) :
    Calls Try.prog 130 #[va] w (Makes (OTab 3 50) w (turnT m n)) := by
  obtain ⟨ab, ao, ac, rfl, hab, hae⟩ := h1.entAt hm.1 hm.2 hn0
  have Hz := Lib.hid (l4Zero_c (w := w) (p := n) (r := n) (by omega) (by omega))
  clear h1 hm
  go_enter Try.func130, Try.ntmps130
  go_wp2_with fail
  refine Hz.out.mono ?_
  rintro e w1 ⟨v1, rfl, hn1, hb1⟩
  rw [← turnF_start m n] at hn1
  obtain ⟨gb, gc, _, _, rfl, _, hgb, hgb2, _⟩ := hn1.tab_at (turnF_row hn0) (turnF_at hn0)
  rw [show (turnF m n 0 0).length = n from tabOf_len _ _ _] at hn1 ⊢
  have Hn1 := Lib.hid hn1
  have Hb1 := Lib.hid hb1
  clear hn1 hb1 Hz
  go_wp2
  go_loopg [4] n (fun g ii wr => ∃ (i : Nat), ii = .int .i64 i ∧ i + g = n ∧ New (OTab 3 50) w.heap.size wr (.slice (some ⟨gb, 0, none⟩) n gc) (turnF m n i 0) ∧ Below w.heap.size w wr)
  case atStart => exact ⟨0, rfl, by omega, Hn1.out, Hb1.out⟩
  case round =>
    obtain ⟨i, rfl, hi, hnew, hbel⟩ := hrel
    have Hn := Lib.hid hnew
    have Hb := Lib.hid hbel
    clear hnew hbel
    by_cases hlt : i < n
    · go_wp2
      go_loopg [5] n (fun g jj wr => ∃ (j : Nat), jj = .int .i64 j ∧ j + g = n ∧ New (OTab 3 50) w.heap.size wr (.slice (some ⟨gb, 0, none⟩) n gc) (turnF m n i j) ∧ Below w.heap.size w wr)
      case atStart => exact ⟨0, rfl, by omega, Hn.out, Hb.out⟩
      case round =>
        clear Hn Hb
        obtain ⟨j, rfl, hj, hnew, hbel⟩ := hrel
        by_cases hlt2 : j < n
        · obtain ⟨rb, ro, rc, hA1, hrb, _, hA2⟩ := hae.at hlt hn0
          have hA3 := hA2 j hlt2
          obtain ⟨b', c', sb, sc, hv, _, _, _, hcl1, _, hsb, _, hcl2, hfr, hst⟩ := hnew.tab_at (turnF_row hlt2) (turnF_at hlt)
          obtain rfl : b' = gb := by simp at hv; exact hv.1.symm
          rw [rowOf_len] at hcl1
          have Hst := Lib.hid (by have := hst (ent m i j); rw [turnF_set] at this; exact this)
          have Hb3 := Lib.hid (hbel.setCell (p := ⟨sb, i, none⟩) hsb (.int .i64 (ent m i j)))
          have hrule := hbel.rule
          have hi1 : (i : Int) < (n : Int) := by omega
          have hi2 : (j : Int) < (n : Int) := by omega
          generalize ent m i j = X at *
          clear hv hst hnew hA2 hbel
          go_wp2
          go_still_tail 13, (by kernel_rfl)
          go_wp2
          go_roundg (n - (j + 1))
          case measure => omega
          case rel => exact ⟨j + 1, by go_num, by omega, New.heap (OTab.kept _ _) Hst.out rfl, Hb3.out.drew⟩
        · have e : j = n := by omega
          subst e
          rw [turnF_next] at hnew
          go_wp2
          go_roundg (j - (i + 1))
          case measure => omega
          case rel => exact ⟨i + 1, by go_num, by omega, hnew, hbel⟩
    · have e : i = n := by omega
      subst e
      have Hn2 := Hn.out
      rw [turnF_end] at Hn2
      have Hn3 := Lib.hid Hn2
      clear Hn2
      go_wp2
      go_ret
      exact ⟨_, rfl, Hn3.out, Hb.out⟩

set_option maxHeartbeats 400000 in
theorem impl_TurnMatrix_c {w : World} {va : Value} {m : List (List Int)} (h1 : Tab w va m) :
    Calls Try.prog 55 #[va] w (Makes (OTab 3 50) w (turnV m)) := by
  have Hc := Lib.hid (impl_IsMatrix_c h1)
  cases hm : isMat m with
  | false =>
    have HV := Lib.hid (show turnV m = [] from by unfold turnV; rw [if_neg (by rw [hm]; simp)])
    rw [hm] at Hc
    obtain ⟨aa, ac, rfl, _, _, _⟩ := h1.shape
    clear h1 hm
    go_enter Try.func55, Try.ntmps55
    go_wp2_with fail
    refine Hc.out.mono ?_
    rintro e w' ⟨rfl, rfl⟩
    go_wp2
    go_ret
    exact ⟨_, rfl, by rw [HV.out]; exact New.nil _ _, Below.refl _ _⟩
  | true =>
    have HV := Lib.hid (show turnV m = turnT m m.length from by unfold turnV; rw [if_pos hm])
    rw [hm] at Hc
    have sm := isMat_sq hm
    have Ht := Lib.hid (turned_c h1 sm.1 (by omega) sm.2.2)
    obtain ⟨aa, ac, rfl, _, _, _⟩ := h1.shape
    clear h1 hm sm
    go_enter Try.func55, Try.ntmps55
    go_wp2_with fail
    refine Hc.out.mono ?_
    rintro e w' ⟨rfl, rfl⟩
    go_wp2_with fail
    refine Ht.out.mono ?_
    rintro e w1 ⟨v1, rfl, hn1, hb1⟩
    have Hn1 := Lib.hid hn1
    have Hb1 := Lib.hid hb1
    clear hn1 hb1
    go_wp2
    go_ret
    exact ⟨_, rfl, by rw [HV.out]; exact Hn1.out, Hb1.out⟩
set_option maxHeartbeats 400000 in
theorem spec_TurnMatrix_c {w : World} {va : Value} {m : List (List Int)} (h1 : Tab w va m) :
    Calls Try.prog 61 #[va] w (Makes (OTab 3 50) w (turnV m)) := by
  have Hc := Lib.hid (spec_IsMatrix_c h1)
  cases hm : isMat m with
  | false =>
    have HV := Lib.hid (show turnV m = [] from by unfold turnV; rw [if_neg (by rw [hm]; simp)])
    rw [hm] at Hc
    obtain ⟨aa, ac, rfl, _, _, _⟩ := h1.shape
    clear h1 hm
    go_enter Try.func61, Try.ntmps61
    go_wp2_with fail
    refine Hc.out.mono ?_
    rintro e w' ⟨rfl, rfl⟩
    go_wp2
    go_ret
    exact ⟨_, rfl, by rw [HV.out]; exact New.empty _ (Nat.le_refl _), (Below.refl _ _).alloc (Nat.le_refl _) _⟩
  | true =>
    have HV := Lib.hid (show turnV m = turnT m m.length from by unfold turnV; rw [if_pos hm])
    rw [hm] at Hc
    have sm := isMat_sq hm
    have Ht := Lib.hid (l4Turn_c h1 sm.1 (by omega) sm.2.2)
    obtain ⟨aa, ac, rfl, _, _, _⟩ := h1.shape
    clear h1 hm sm
    go_enter Try.func61, Try.ntmps61
    go_wp2_with fail
    refine Hc.out.mono ?_
    rintro e w' ⟨rfl, rfl⟩
    go_wp2_with fail
    refine Ht.out.mono ?_
    rintro e w1 ⟨v1, rfl, hn1, hb1⟩
    have Hn1 := Lib.hid hn1
    have Hb1 := Lib.hid hb1
    clear hn1 hb1
    go_wp2
    go_ret
    exact ⟨_, rfl, by rw [HV.out]; exact Hn1.out, Hb1.out⟩
end Go.Proofs.Ytdohepngandajaa
end

section
/-
  The first two vertices that can be joined; IsJoined.
-/
namespace Go.Proofs.Ytdohepngandajaa
open Go.RowKit Go.Deep Go.Sd

/-- The first j of the next g ones that can be joined to i. -/
def rowF (m : List (List Int)) (i : Nat) : Nat → Nat → Option (List (List Int))
  | 0, _ => none
  | g + 1, j => if joinOk m i j = true then some (joinV m i j) else rowF m i g (j + 1)
def firstF (m : List (List Int)) : Nat → Nat → Option (List (List Int))
  | 0, _ => none
  | g + 1, i => match rowF m i (m.length - (i + 1)) (i + 1) with
    | some x => some x
    | none => firstF m g (i + 1)
def firstJ (m : List (List Int)) : Option (List (List Int)) := firstF m m.length 0
theorem firstF_some {m : List (List Int)} {g i : Nat} {x : List (List Int)} (h : rowF m i (m.length - (i + 1)) (i + 1) = some x) : firstF m (g + 1) i = some x := by
  unfold firstF; rw [h]
theorem firstF_none {m : List (List Int)} {g i : Nat} (h : rowF m i (m.length - (i + 1)) (i + 1) = none) : firstF m (g + 1) i = firstF m g (i + 1) := by
  conv => lhs; unfold firstF
  rw [h]

set_option maxHeartbeats 1000000 in
theorem joinFirst_c {w : World} {va : Value} {m : List (List Int)} (h1 : Tab w va m) :
    Calls Try.prog 122 #[va] w (Makes2 (OTab 3 50) w ((firstJ m).getD []) (firstJ m).isSome) := by
  have hlen := h1.len
  have hsa := h1.shape
  obtain ⟨aa, ac, rfl, _, _, _⟩ := hsa
  have HO := Lib.hid (show (firstJ m).isSome = (firstF m m.length 0).isSome from rfl)
  have HV := Lib.hid (show (firstJ m).getD [] = (firstF m m.length 0).getD [] from rfl)
  generalize (firstJ m).isSome = ok at HO ⊢
  generalize (firstJ m).getD [] = rv at HV ⊢
  have Hj := Lib.hid (fun w1 (i j : Nat) (hb : Below w.heap.size w w1) => impl_JoinOut_c (i := (i : Int)) (j := (j : Int)) (Tab.frame _ _ _ _ h1 hb))
  clear h1
  obtain ⟨T, hT⟩ : ∃ T, T = firstF m m.length 0 := ⟨_, rfl⟩
  rw [← hT] at HO HV
  have HT := Lib.hid hT
  clear hT
  go_enter Try.func122, Try.ntmps122
  go_wp2
  go_loopg [10] (m.length) (fun g ii wr => ∃ (i : Nat), ii = .int .i64 i ∧ i + g = m.length ∧ Hid (T = firstF m g i) ∧ Below w.heap.size w wr)
  case atStart => exact ⟨0, rfl, by omega, HT, Below.refl _ _⟩
  case round =>
    obtain ⟨i, rfl, hi, H, hbel⟩ := hrel
    obtain ⟨g, hg⟩ : ∃ g, g = gk := ⟨_, rfl⟩
    rw [← hg] at H hi
    by_cases hlt : i < m.length
    · obtain ⟨g', rfl⟩ : ∃ t, g = t + 1 := ⟨g - 1, by omega⟩
      have Hb := Lib.hid hbel
      clear hbel HT
      go_wp2
      go_loopg [5] (m.length - (i + 1)) (fun g2 jj wr => ∃ (j : Nat), jj = .int .i64 j ∧ j + g2 = m.length ∧ Hid (rowF m i (m.length - (i + 1)) (i + 1) = rowF m i g2 j) ∧ Below w.heap.size w wr)
      case atStart => exact ⟨i + 1, by go_num, by omega, Lib.hid rfl, Hb.out⟩
      case round =>
        obtain ⟨j, rfl, hj, H2, hbel⟩ := hrel
        clear Hb
        obtain ⟨q, hq⟩ : ∃ q, q = gk := ⟨_, rfl⟩
        rw [← hq] at H2 hj
        by_cases hlt2 : j < m.length
        · obtain ⟨q', rfl⟩ : ∃ t, q = t + 1 := ⟨q - 1, by omega⟩
          have H3 := Lib.hid (show rowF m i (m.length - (i + 1)) (i + 1) = if joinOk m i j = true then some (joinV m i j) else rowF m i q' (j + 1) from H2.out)
          have Hc := Lib.hid (Hj.out wr i j hbel)
          have Hb := Lib.hid hbel
          have hz := hbel.size
          clear H2 hbel
          cases hjo : joinOk m i j with
          | true =>
            have H4 := Lib.hid (show T = some (joinV m i j) from by rw [H.out]; exact firstF_some (by rw [H3.out, hjo]; rfl))
            rw [hjo] at Hc
            clear hjo H3
            go_wp2_with fail
            refine Hc.out.mono ?_
            rintro e w1 ⟨v1, rfl, hn1, hb1⟩
            have Hn1 := Lib.hid (hn1.mono hz)
            have Hb1 := Lib.hid (Hb.out.trans (hb1.mono hz))
            clear hn1 hb1
            go_wp2
            go_ret2
            exact ⟨_, by rw [HO.out, H4.out]; rfl, by rw [HV.out, H4.out]; exact Hn1.out, Hb1.out⟩
          | false =>
            have H4 := Lib.hid (show rowF m i (m.length - (i + 1)) (i + 1) = rowF m i q' (j + 1) from by rw [H3.out, hjo]; rfl)
            rw [hjo] at Hc
            clear hjo H3
            go_wp2_with fail
            refine Hc.out.mono ?_
            rintro e w1 ⟨v1, rfl, hn1, hb1⟩
            have Hb1 := Lib.hid (Hb.out.trans (hb1.mono hz))
            clear hn1 hb1
            go_wp2
            go_roundg q'
            case measure => omega
            case rel => exact ⟨j + 1, by go_num, by omega, H4, Hb1.out⟩
        · have e : q = 0 := by omega
          subst e
          have H3 := Lib.hid (show T = firstF m g' (i + 1) from by rw [H.out]; exact firstF_none H2.out)
          have Hb := Lib.hid hbel
          have e2 : j = m.length := by omega
          clear H2 hbel hq hj
          go_wp2
          go_roundg g'
          case measure => omega
          case rel => exact ⟨i + 1, by go_num, by omega, H3, Hb.out⟩
    · have e : g = 0 := by omega
      subst e
      have H2 := Lib.hid (show T = none from H.out)
      clear H hg
      go_wp2
      go_ret2
      exact ⟨_, by rw [HO.out, H2.out]; rfl, by rw [HV.out, H2.out]; exact New.nil _ _, hbel⟩

set_option maxHeartbeats 1000000 in
theorem l18First_c {w : World} {va : Value} {m : List (List Int)} (h1 : Tab w va m) :
    Calls Try.prog 132 #[va] w (Makes2 (OTab 3 50) w ((firstJ m).getD []) (firstJ m).isSome) := by
  have hlen := h1.len
  have hsa := h1.shape
  obtain ⟨aa, ac, rfl, _, _, _⟩ := hsa
  have HO := Lib.hid (show (firstJ m).isSome = (firstF m m.length 0).isSome from rfl)
  have HV := Lib.hid (show (firstJ m).getD [] = (firstF m m.length 0).getD [] from rfl)
  generalize (firstJ m).isSome = ok at HO ⊢
  generalize (firstJ m).getD [] = rv at HV ⊢
  have Hj := Lib.hid (fun w1 (i j : Nat) (hb : Below w.heap.size w w1) => spec_JoinOut_c (i := (i : Int)) (j := (j : Int)) (Tab.frame _ _ _ _ h1 hb))
  clear h1
  obtain ⟨T, hT⟩ : ∃ T, T = firstF m m.length 0 := ⟨_, rfl⟩
  rw [← hT] at HO HV
  have HT := Lib.hid hT
  clear hT
  go_enter Try.func132, Try.ntmps132
  go_wp2
  go_loopg [4] (m.length) (fun g ii wr => ∃ (i : Nat), ii = .int .i64 i ∧ i + g = m.length ∧ Hid (T = firstF m g i) ∧ Below w.heap.size w wr)
  case atStart => exact ⟨0, rfl, by omega, HT, Below.refl _ _⟩
  case round =>
    obtain ⟨i, rfl, hi, H, hbel⟩ := hrel
    obtain ⟨g, hg⟩ : ∃ g, g = gk := ⟨_, rfl⟩
    rw [← hg] at H hi
    by_cases hlt : i < m.length
    · obtain ⟨g', rfl⟩ : ∃ t, g = t + 1 := ⟨g - 1, by omega⟩
      have Hb := Lib.hid hbel
      clear hbel HT
      go_wp2
      go_loopg [5] (m.length - (i + 1)) (fun g2 jj wr => ∃ (j : Nat), jj = .int .i64 j ∧ j + g2 = m.length ∧ Hid (rowF m i (m.length - (i + 1)) (i + 1) = rowF m i g2 j) ∧ Below w.heap.size w wr)
      case atStart => exact ⟨i + 1, by go_num, by omega, Lib.hid rfl, Hb.out⟩
      case round =>
        obtain ⟨j, rfl, hj, H2, hbel⟩ := hrel
        clear Hb
        obtain ⟨q, hq⟩ : ∃ q, q = gk := ⟨_, rfl⟩
        rw [← hq] at H2 hj
        by_cases hlt2 : j < m.length
        · obtain ⟨q', rfl⟩ : ∃ t, q = t + 1 := ⟨q - 1, by omega⟩
          have H3 := Lib.hid (show rowF m i (m.length - (i + 1)) (i + 1) = if joinOk m i j = true then some (joinV m i j) else rowF m i q' (j + 1) from H2.out)
          have Hc := Lib.hid (Hj.out wr i j hbel)
          have Hb := Lib.hid hbel
          have hz := hbel.size
          clear H2 hbel
          cases hjo : joinOk m i j with
          | true =>
            have H4 := Lib.hid (show T = some (joinV m i j) from by rw [H.out]; exact firstF_some (by rw [H3.out, hjo]; rfl))
            rw [hjo] at Hc
            clear hjo H3
            go_wp2_with fail
            refine Hc.out.mono ?_
            rintro e w1 ⟨v1, rfl, hn1, hb1⟩
            have Hn1 := Lib.hid (hn1.mono hz)
            have Hb1 := Lib.hid (Hb.out.trans (hb1.mono hz))
            clear hn1 hb1
            go_wp2
            go_ret2
            exact ⟨_, by rw [HO.out, H4.out]; rfl, by rw [HV.out, H4.out]; exact Hn1.out, Hb1.out⟩
          | false =>
            have H4 := Lib.hid (show rowF m i (m.length - (i + 1)) (i + 1) = rowF m i q' (j + 1) from by rw [H3.out, hjo]; rfl)
            rw [hjo] at Hc
            clear hjo H3
            go_wp2_with fail
            refine Hc.out.mono ?_
            rintro e w1 ⟨v1, rfl, hn1, hb1⟩
            have Hb1 := Lib.hid (Hb.out.trans (hb1.mono hz))
            clear hn1 hb1
            go_wp2
            go_roundg q'
            case measure => omega
            case rel => exact ⟨j + 1, by go_num, by omega, H4, Hb1.out⟩
        · have e : q = 0 := by omega
          subst e
          have H3 := Lib.hid (show T = firstF m g' (i + 1) from by rw [H.out]; exact firstF_none H2.out)
          have Hb := Lib.hid hbel
          have e2 : j = m.length := by omega
          clear H2 hbel hq hj
          go_wp2
          go_roundg g'
          case measure => omega
          case rel => exact ⟨i + 1, by go_num, by omega, H3, Hb.out⟩
    · have e : g = 0 := by omega
      subst e
      have H2 := Lib.hid (show T = none from H.out)
      clear H hg
      go_wp2
      go_ret2
      exact ⟨_, by rw [HO.out, H2.out]; rfl, by rw [HV.out, H2.out]; exact New.empty wr hbel.size, hbel.alloc hbel.size _⟩

def joinedM (m : List (List Int)) : Bool := isMat m && !(firstJ m).isSome


end Go.Proofs.Ytdohepngandajaa
end

section
/-
  JoinAll, both sides.
-/
namespace Go.Proofs.Ytdohepngandajaa
open Go.RowKit Go.Deep Go.Sd

def joinIter : Nat → List (List Int) → List (List Int)
  | 0, m => m
  | g + 1, m => match firstJ m with
    | some x => joinIter g x
    | none => m
def joinAllV (m : List (List Int)) : List (List Int) := if isMat m = true then joinIter m.length m else []

theorem joinIter_some {g : Nat} {m x : List (List Int)} (h : firstJ m = some x) : joinIter (g + 1) m = joinIter g x := by
  conv => lhs; unfold joinIter
  rw [h]
theorem joinIter_none {g : Nat} {m : List (List Int)} (h : firstJ m = none) : joinIter g m = m := by
  cases g with
  | zero => rfl
  | succ g => unfold joinIter; rw [h]

theorem joinV_sq {m : List (List Int)} {i j : Int} (h : joinOk m i j = true) : Sq (m.length - 1) (joinV m i j) ∧ m.length ≠ 0 ∧ m.length ≤ 9 := by
  unfold joinV
  rw [if_pos h]
  refine ⟨⟨tabOf_len _ _ _, fun _ hx => mem_tabOf hx⟩, ?_⟩
  unfold joinOk at h
  simp only [Bool.and_eq_true] at h
  have := (isMat_sq h.1.1.1).2
  omega
theorem rowF_sq {m : List (List Int)} {i : Nat} {x : List (List Int)} : ∀ {g j : Nat}, rowF m i g j = some x → Sq (m.length - 1) x ∧ m.length ≠ 0 ∧ m.length ≤ 9
  | 0, j, h => by cases h
  | g + 1, j, h => by
    unfold rowF at h
    by_cases hj : joinOk m i j = true
    · rw [if_pos hj] at h
      cases h
      exact joinV_sq hj
    · rw [if_neg hj] at h
      exact rowF_sq h
theorem firstF_sq {m : List (List Int)} {x : List (List Int)} : ∀ {g i : Nat}, firstF m g i = some x → Sq (m.length - 1) x ∧ m.length ≠ 0 ∧ m.length ≤ 9
  | 0, i, h => by cases h
  | g + 1, i, h => by
    cases hr : rowF m i (m.length - (i + 1)) (i + 1) with
    | some y =>
      rw [firstF_some hr] at h
      cases h
      exact rowF_sq hr
    | none =>
      rw [firstF_none hr] at h
      exact firstF_sq h
theorem firstJ_sq {m x : List (List Int)} (h : firstJ m = some x) : Sq (m.length - 1) x ∧ m.length ≠ 0 ∧ m.length ≤ 9 := firstF_sq h
theorem joinIter_sq : ∀ (g : Nat) {m : List (List Int)}, Sq m.length m → ∃ n, n ≤ m.length ∧ Sq n (joinIter g m)
  | 0, m, h => ⟨_, Nat.le_refl _, h⟩
  | g + 1, m, h => by
    cases hf : firstJ m with
    | none => rw [joinIter_none hf]; exact ⟨_, Nat.le_refl _, h⟩
    | some x =>
      rw [joinIter_some hf]
      have hx := (firstJ_sq hf).1
      obtain ⟨n, hn, hs⟩ := joinIter_sq g (m := x) (by rw [hx.1]; exact hx)
      exact ⟨n, by rw [hx.1] at hn; omega, hs⟩
theorem joinAllV_bd (m : List (List Int)) : (joinAllV m).length ≤ 9 ∧ ∀ x, x ∈ joinAllV m → x.length ≤ 9 := by
  unfold joinAllV
  by_cases h : isMat m = true
  · rw [if_pos h]
    have hs := isMat_sq h
    obtain ⟨n, hn, hq⟩ := joinIter_sq m.length hs.1
    exact ⟨by rw [hq.1]; omega, fun x hx => by rw [hq.2 x hx]; omega⟩
  · rw [if_neg h]
    exact ⟨by simp, fun x hx => by cases hx⟩

set_option maxHeartbeats 1000000 in
theorem impl_JoinAll_c {w : World} {va : Value} {m : List (List Int)} (h1 : Tab w va m) :
    Calls Try.prog 56 #[va] w (Makes (OTab 3 50) w (joinAllV m)) := by
  have Hc := Lib.hid (impl_IsMatrix_c h1)
  cases hm : isMat m with
  | false =>
    have HV := Lib.hid (show joinAllV m = [] from by unfold joinAllV; rw [if_neg (by rw [hm]; simp)])
    rw [hm] at Hc
    obtain ⟨aa, ac, rfl, _, _, _⟩ := h1.shape
    clear h1 hm
    go_enter Try.func56, Try.ntmps56
    go_wp2_with fail
    refine Hc.out.mono ?_
    rintro e w' ⟨rfl, rfl⟩
    go_wp2
    go_ret
    exact ⟨_, rfl, by rw [HV.out]; exact New.nil _ _, Below.refl _ _⟩
  | true =>
    have HV := Lib.hid (show joinAllV m = joinIter m.length m from by unfold joinAllV; rw [if_pos hm])
    generalize joinAllV m = T at HV ⊢
    rw [hm] at Hc
    have sm := isMat_sq hm
    have Hcp := Lib.hid (copied_c h1 (by omega) (fun r hr => by rw [sm.1.2 r hr]; omega))
    obtain ⟨aa, ac, rfl, _, _, _⟩ := h1.shape
    obtain ⟨n, hn⟩ : ∃ n, n = m.length := ⟨_, rfl⟩
    have Hlen := Lib.hid hn
    rw [← hn] at HV
    clear h1 hm sm
    go_enter Try.func56, Try.ntmps56
    go_wp2_with fail
    refine Hc.out.mono ?_
    rintro e w' ⟨rfl, rfl⟩
    go_wp2_with fail
    refine Hcp.out.mono ?_
    rintro e w1 ⟨v1, rfl, hn1, hb1⟩
    have Hn1 := Lib.hid hn1
    have Hb1 := Lib.hid hb1
    clear hn1 hb1 Hcp Hc hn
    go_wp2
    go_loopg [3] n (fun g v wr => ∃ (x : List (List Int)), Hid (x.length = g) ∧ Hid (T = joinIter g x) ∧ New (OTab 3 50) w.heap.size wr v x ∧ Below w.heap.size w wr)
    case atStart => exact ⟨m, Lib.hid Hlen.out.symm, HV, Hn1.out, Hb1.out⟩
    case round =>
      obtain ⟨x, Hx, HT, hnew, hbel⟩ := hrel
      clear Hn1 Hb1 HV Hlen
      have Hb := Lib.hid hbel
      have Hn := Lib.hid hnew
      have hz := hbel.size
      have Hf := Lib.hid (joinFirst_c hnew.tab)
      obtain ⟨xa, xn, xc, rfl⟩ := hnew.slice
      clear hnew hbel
      cases hj : firstJ x with
      | none =>
        have HT2 := Lib.hid (show T = x from by rw [HT.out]; exact joinIter_none hj)
        rw [hj] at Hf
        clear hj HT Hx
        go_wp2_with fail
        refine Hf.out.mono ?_
        rintro e w2 ⟨v2, rfl, hn2, hb2⟩
        have Hb2 := Lib.hid (Hb.out.trans (hb2.mono hz))
        have Hn2 := Lib.hid (New.keep (OTab.kept _ _) Hn.out hb2 (Nat.le_refl _))
        clear hn2 hb2
        go_wp2
        go_ret
        exact ⟨_, rfl, by rw [HT2.out]; exact Hn2.out, Hb2.out⟩
      | some y =>
        obtain ⟨hs, h0, _⟩ := firstJ_sq hj
        obtain ⟨g, hg⟩ : ∃ g, gk = g + 1 := ⟨gk - 1, by have := Hx.out; omega⟩
        have HT2 := Lib.hid (show T = joinIter g y from by rw [HT.out, hg]; exact joinIter_some hj)
        have Hy := Lib.hid (show y.length = g from by have := Hx.out; have := hs.1; omega)
        rw [hj] at Hf
        clear hj HT Hx hs h0
        go_wp2_with fail
        refine Hf.out.mono ?_
        rintro e w2 ⟨v2, rfl, hn2, hb2⟩
        have Hb2 := Lib.hid (Hb.out.trans (hb2.mono hz))
        have Hn2 := Lib.hid (New.mono hn2 hz)
        obtain ⟨ya, yn, yc, rfl⟩ := hn2.slice
        clear hn2 hb2
        go_wp2
        go_roundg g
        case measure => omega
        case rel => exact ⟨y, Hy, HT2, Hn2.out, Hb2.out⟩
set_option maxHeartbeats 1000000 in
theorem spec_JoinAll_c {w : World} {va : Value} {m : List (List Int)} (h1 : Tab w va m) :
    Calls Try.prog 62 #[va] w (Makes (OTab 3 50) w (joinAllV m)) := by
  have Hc := Lib.hid (spec_IsMatrix_c h1)
  cases hm : isMat m with
  | false =>
    have HV := Lib.hid (show joinAllV m = [] from by unfold joinAllV; rw [if_neg (by rw [hm]; simp)])
    rw [hm] at Hc
    obtain ⟨aa, ac, rfl, _, _, _⟩ := h1.shape
    clear h1 hm
    go_enter Try.func62, Try.ntmps62
    go_wp2_with fail
    refine Hc.out.mono ?_
    rintro e w' ⟨rfl, rfl⟩
    go_wp2
    go_ret
    exact ⟨_, rfl, by rw [HV.out]; exact New.empty _ (Nat.le_refl _), (Below.refl _ _).alloc (Nat.le_refl _) _⟩
  | true =>
    have HV := Lib.hid (show joinAllV m = joinIter m.length m from by unfold joinAllV; rw [if_pos hm])
    generalize joinAllV m = T at HV ⊢
    rw [hm] at Hc
    have sm := isMat_sq hm
    have Hcp := Lib.hid (l4Copy_c h1 (by omega) (fun r hr => by rw [sm.1.2 r hr]; omega))
    obtain ⟨aa, ac, rfl, _, _, _⟩ := h1.shape
    obtain ⟨n, hn⟩ : ∃ n, n = m.length := ⟨_, rfl⟩
    have Hlen := Lib.hid hn
    rw [← hn] at HV
    clear h1 hm sm
    go_enter Try.func62, Try.ntmps62
    go_wp2_with fail
    refine Hc.out.mono ?_
    rintro e w' ⟨rfl, rfl⟩
    go_wp2_with fail
    refine Hcp.out.mono ?_
    rintro e w1 ⟨v1, rfl, hn1, hb1⟩
    have Hn1 := Lib.hid hn1
    have Hb1 := Lib.hid hb1
    clear hn1 hb1 Hcp Hc hn
    go_wp2
    go_loopg [3] n (fun g v wr => ∃ (x : List (List Int)), Hid (x.length = g) ∧ Hid (T = joinIter g x) ∧ New (OTab 3 50) w.heap.size wr v x ∧ Below w.heap.size w wr)
    case atStart => exact ⟨m, Lib.hid Hlen.out.symm, HV, Hn1.out, Hb1.out⟩
    case round =>
      obtain ⟨x, Hx, HT, hnew, hbel⟩ := hrel
      clear Hn1 Hb1 HV Hlen
      have Hb := Lib.hid hbel
      have Hn := Lib.hid hnew
      have hz := hbel.size
      have Hf := Lib.hid (l18First_c hnew.tab)
      obtain ⟨xa, xn, xc, rfl⟩ := hnew.slice
      clear hnew hbel
      cases hj : firstJ x with
      | none =>
        have HT2 := Lib.hid (show T = x from by rw [HT.out]; exact joinIter_none hj)
        rw [hj] at Hf
        clear hj HT Hx
        go_wp2_with fail
        refine Hf.out.mono ?_
        rintro e w2 ⟨v2, rfl, hn2, hb2⟩
        have Hb2 := Lib.hid (Hb.out.trans (hb2.mono hz))
        have Hn2 := Lib.hid (New.keep (OTab.kept _ _) Hn.out hb2 (Nat.le_refl _))
        clear hn2 hb2
        go_wp2
        go_ret
        exact ⟨_, rfl, by rw [HT2.out]; exact Hn2.out, Hb2.out⟩
      | some y =>
        obtain ⟨hs, h0, _⟩ := firstJ_sq hj
        obtain ⟨g, hg⟩ : ∃ g, gk = g + 1 := ⟨gk - 1, by have := Hx.out; omega⟩
        have HT2 := Lib.hid (show T = joinIter g y from by rw [HT.out, hg]; exact joinIter_some hj)
        have Hy := Lib.hid (show y.length = g from by have := Hx.out; have := hs.1; omega)
        rw [hj] at Hf
        clear hj HT Hx hs h0
        go_wp2_with fail
        refine Hf.out.mono ?_
        rintro e w2 ⟨v2, rfl, hn2, hb2⟩
        have Hb2 := Lib.hid (Hb.out.trans (hb2.mono hz))
        have Hn2 := Lib.hid (New.mono hn2 hz)
        obtain ⟨ya, yn, yc, rfl⟩ := hn2.slice
        clear hn2 hb2
        go_wp2
        go_roundg g
        case measure => omega
        case rel => exact ⟨y, Hy, HT2, Hn2.out, Hb2.out⟩
end Go.Proofs.Ytdohepngandajaa
end

section
/-
  A slice of bytes that came in, opened.
-/
namespace Go.Sd
open Go.ChangeShapes Go.WideShapes Go.ChangeAt Go.RowKit Go.Deep
section
variable {H : Type} {enc : TypeId × Value → H} {P : Program} {W : World} {base : Nat}
theorem open_Bytes {t q : TypeId} (ht : P.underlying t = some (.slice q)) (hq : P.underlying q = some (.int .u8)) (cq : P.cellsOf q = 1) {v : Value} {d : DataW H} {p : List MemPlace}
    (hv : Value.okWide P W .any base t v) (h : DataW.Trod enc P W 0 (fun _ => true) true t v d p) : ∃ xs, BytR W v xs ∧ True := by
  obtain ⟨a, len, cap, rfl⟩ := okWide_slice ht hv
  obtain ⟨fuel, hf⟩ := h
  have h := hf
  simp only [Value.cells] at h
  rcases open_ints ht hq cq h with ⟨hcs, _⟩ | ⟨a', l, c, zs, hcs, _, hl, hm, hz, _, hcell, hwz⟩
  · simp at hcs
    obtain ⟨rfl, rfl, rfl⟩ := hcs
    exact ⟨[], ⟨[], Sl.mk' rfl (by simp) (by simp) (by simp) (by simp), rfl, by simp⟩, trivial⟩
  · simp at hcs
    obtain ⟨rfl, rfl, rfl⟩ := hcs
    simp only [if_true] at hz
    have hm' : cap ≤ 9223372036854775807 := hm
    refine ⟨zs.take len, ⟨(zs.take len).map (Value.int .u8), Sl.mk' (by simp; omega) hl hm' ?_ (by simp), by simp, ?_⟩, trivial⟩
    · intro a'' ha i u hu
      cases ha
      rw [List.getElem?_map, Option.map_eq_some_iff] at hu
      obtain ⟨z, hz1, rfl⟩ := hu
      have hi : i < (zs.take len).length := (List.getElem?_eq_some_iff.1 hz1).1
      rw [List.length_take] at hi
      rw [List.getElem?_take, if_pos (by omega)] at hz1
      have := hcell i (by omega)
      rw [List.getD, hz1] at this
      simpa using this
    · intro i u z hu hz1
      rw [List.getElem?_map, hz1] at hu
      simp at hu
      exact hu.symm
end
end Go.Sd
end

section
/-
  The law FnPure, walked over the contracts of both sides.
-/
namespace Go.Proofs.Ytdohepngandajaa
open Go.RowKit Go.Deep Go.Sd
set_option linter.unusedSimpArgs false
set_option maxHeartbeats 1000000 in
theorem big_c {w : World} {a : Option Addr} {n c : Nat} (hn : n ≤ 9223372036854775807) :
    Calls Try.prog 53 #[.slice a n c] w fun e w' => e = .returned (.bool (decide (1048576 < n))) ∧ w = w' := by
  have hd : decide ((1048576 : Int) < (n : Int)) = decide (1048576 < n) := decide_eq_decide.2 (by omega)
  generalize decide (1048576 < n) = D at hd ⊢
  go_enter Try.func53, Try.ntmps53
  go_wp2
  go_ret
  exact ⟨by rw [← hd]; rfl, rfl⟩
set_option linter.unusedVariables false in
set_option maxHeartbeats 8000000 in
set_option maxRecDepth 100000 in
theorem law_FnPure {w : World} {v0 : Value} {a0 : List Int} (t0 : BytR w v0 a0) (b0 : True) :
    Calls Try.prog 12 #[v0] w fun e w' => e = .returned (.bool true) ∧ Below w.heap.size w w' := by
  have hlen := t0.len
  have HD := Lib.hid (DrawTurnMatrix_c t0)
  obtain ⟨va, vc, rfl, -⟩ := t0.cellsB
  obtain ⟨n0, hn0⟩ : ∃ n, n = a0.length := ⟨_, rfl⟩
  rw [← hn0] at HD hlen ⊢
  have HBig := Lib.hid (big_c (w := w) (a := va) (c := vc) hlen)
  clear t0 b0 hn0
  by_cases hbig : 1048576 < n0
  · rw [decide_eq_true hbig] at HBig
    clear HD
    go_enter Try.func12, Try.ntmps12
    go_wp2_with fail
    (with_reducible refine HBig.out.mono ?_)
    rintro e w9 ⟨rfl, hw9⟩
    rw [← hw9]
    clear hw9 w9
    go_wp2
    go_ret
    exact ⟨rfl, Below.refl _ _⟩
  rw [decide_eq_false hbig] at HBig
  clear hbig
  go_enter Try.func12, Try.ntmps12
  go_wp2_with fail
  (with_reducible refine HBig.out.mono ?_)
  rintro e w9 ⟨rfl, hw9⟩
  rw [← hw9]
  clear hw9 w9
  go_wp2_with fail
  (with_reducible refine HD.out.mono ?_)
  rintro e w1 ⟨vm, rfl, m, hm, hnm, hb1⟩
  obtain ⟨ma, mc, rfl, -⟩ := (New.tab hnm).shape
  have HB1 := Lib.hid hb1
  have HT1 := Lib.hid (New.tab hnm)
  have Hm := Lib.hid hm
  have hz1 := hb1.size
  obtain ⟨N, hN⟩ : ∃ N, N = m.length := ⟨_, rfl⟩
  have HN := Lib.hid hN
  have hN5 : N ≤ 5 := by rw [hN]; exact hm.2.1
  rw [← hN] at HT1 ⊢
  clear hm hnm hb1 hN HD HBig hlen
  have HBf0 := Lib.hid (show New (OTab 3 50) w1.heap.size (w1.alloc (.cells #[] 50)) (.slice (some ⟨w1.heap.size, 0, none⟩) 0 0) (m.take 0) from New.empty w1 (Nat.le_refl _))
  have HBb0 := Lib.hid ((Below.refl w1.heap.size w1).alloc (Nat.le_refl _) (.cells #[] 50))
  go_wp2
  go_loopg [4, 5] N (fun g v iv wr => ∃ (k : Nat), iv = .int .i64 k ∧ k + g = N ∧ Hid (New (OTab 3 50) w1.heap.size wr v (m.take k)) ∧ Hid (Below w1.heap.size w1 wr))
  case atStart => exact ⟨0, rfl, by omega, HBf0, HBb0⟩
  case round =>
    clear HBf0 HBb0
    obtain ⟨k, rfl, hk, HF, HBk⟩ := hrel
    obtain ⟨wB, rfl⟩ : ∃ x, x = wr := ⟨_, rfl⟩
    have hle := HBk.out.size
    obtain ⟨fa, fn, fc, rfl⟩ := HF.out.slice
    by_cases hkN : k < N
    · have hki : (k : Int) < (N : Int) := by omega
      obtain ⟨g, rfl⟩ : ∃ x, gk = x + 1 := ⟨gk - 1, by omega⟩
      obtain ⟨r, hr, -⟩ := at_lt (xs := m) (k := k) (by have := HN.out; omega)
      obtain ⟨b, o, c, ra, rc, hv, hbw, g0, hri⟩ := HT1.out.rowOf hr
      simp only [Value.slice.injEq] at hv
      obtain ⟨rfl, -, rfl⟩ := hv
      have hrl := (Hm.out.2.2 r (List.mem_of_getElem? hr)).1
      have g1 := (HBk.out.cell (p := ⟨b, o + k, none⟩) hbw).trans g0
      have HTk := Lib.hid (take_snoc' hr)
      have HRi := Lib.hid (show Ints (wB.alloc (.cells #[] 3)) (.slice ra r.length rc) r from Ints.frame _ _ _ _ hri (HBk.out.alloc hle _))
      have hmt := Lib.hid (show (m.take k).length ≤ 5 from by rw [List.length_take]; have := HN.out; omega)
      obtain ⟨rn, hrn⟩ : ∃ n, n = r.length := ⟨_, rfl⟩
      have Hrn := Lib.hid hrn
      rw [← hrn] at g1 hrl HRi
      have hbB : b < wB.heap.size := by omega
      have g1' : ∀ O, (wB.alloc O).cell? ⟨b, o + k, none⟩ = some (.slice ra rn rc) := fun O => by rw [← g1]; exact World.cell?_alloc_lt _ _ _ hbB
      clear hr hri g0 hrn
      go_wp2_with (first
        | (at_builtin; refine wpl_append_vals (f := Value.int .i64) (fun _ => rfl) rfl (.tmp 35) (.tmp 39) 50 rfl 3 (.int .i64 0) 8 Try.underlying50 infoI rfl (New.empty (R := OValR (Value.int .i64)) (lo := wB.heap.size) wB (Nat.le_refl _)) (by simp) HRi.out rfl rfl (by have := Hrn.out; simp; omega) (by have := Hrn.out; simp; omega) ?_; intro v2 w2 hn2 _ _ hb2; obtain ⟨xa, xn, xc, rfl⟩ := hn2.slice; have Hn2 := Lib.hid hn2; have Hb2 := Lib.hid (((Below.refl wB.heap.size wB).alloc (Nat.le_refl _) _).trans hb2); clear hn2 hb2)
        | (at_builtin; refine wpl_push (w0 := wB) (lo := w1.heap.size) (y := [] ++ r) (OInts.kept _) rfl (.tmp 34) (.tmp 41) 41 rfl 50 (.slice none 0 0) 24 Try.underlying41 infoR rfl HF.out hle (Hb2.out.alloc Hb2.out.size _) (New.keep (OInts.kept _) Hn2.out ((Below.refl w2.heap.size _).alloc (Nat.le_refl _) _) (Nat.le_refl _)) (bb := w2.heap.size) (c := 1) (by simp) rfl rfl (by have := hmt.out; omega) (by have := hmt.out; omega) ?_; intro v3 w3 hn3 _ _ hb3; have Hn3 := Lib.hid hn3; have Hb3 := Lib.hid hb3; clear hn3 hb3))
      go_roundg g
      case measure => omega
      case rel => exact ⟨k + 1, by go_num, by omega, Lib.hid (by rw [← HTk.out]; exact Hn3.out), Lib.hid (HBk.out.trans Hb3.out)⟩
    · have hki : ¬ ((k : Int) < (N : Int)) := by omega
      have HTb := Lib.hid (show Tab wB (.slice fa fn fc) m from by have h := New.tab HF.out; rw [List.take_of_length_le (by have := HN.out; omega)] at h; exact h)
      have HTm := Lib.hid (Tab.frame _ _ _ _ HT1.out HBk.out)
      have HBw := Lib.hid (HB1.out.trans (HBk.out.mono hz1))
      have hzw : w.heap.size ≤ wB.heap.size := HBw.out.size
      clear HF HBk HT1 HB1 hkN hk hz1 hle
      have HPi := Lib.hid (fun (w' : World) (hb : Below wB.heap.size wB w') => impl_PowerMatrix_c (n := 1) (Tab.frame _ _ _ _ HTm.out hb))
      have HPs := Lib.hid (fun (w' : World) (hb : Below wB.heap.size wB w') => spec_PowerMatrix_c (n := 1) (Tab.frame _ _ _ _ HTm.out hb))
      have HTi := Lib.hid (fun (w' : World) (hb : Below wB.heap.size wB w') => impl_TurnMatrix_c (Tab.frame _ _ _ _ HTm.out hb))
      have HTs := Lib.hid (fun (w' : World) (hb : Below wB.heap.size wB w') => spec_TurnMatrix_c (Tab.frame _ _ _ _ HTm.out hb))
      have HJi := Lib.hid (fun (w' : World) (hb : Below wB.heap.size wB w') => impl_JoinAll_c (Tab.frame _ _ _ _ HTm.out hb))
      have HJs := Lib.hid (fun (w' : World) (hb : Below wB.heap.size wB w') => spec_JoinAll_c (Tab.frame _ _ _ _ HTm.out hb))
      have HAi := Lib.hid (fun (w' : World) (hb : Below wB.heap.size wB w') => impl_ArcsOf_c (Tab.frame _ _ _ _ HTm.out hb))
      have HAs := Lib.hid (fun (w' : World) (hb : Below wB.heap.size wB w') => spec_ArcsOf_c (Tab.frame _ _ _ _ HTm.out hb))
      generalize turnV m = TV at HTi HTs
      generalize joinAllV m = JV at HJi HJs
      generalize arcsV m = AV at HAi HAs
      generalize pwV m 1 = PV at HPi HPs
      generalize pwOk m 1 = ok at HPi HPs
      have HBc := Lib.hid (Below.refl wB.heap.size wB)
      go_wp2_with fail
      clear hki
      (with_reducible refine (HTi.out _ HBc.out).mono ?_)
      rintro e wm0 ⟨vt, rfl, hn, hb⟩
      have HS := Lib.hid (Sep.one (OTab.kept 3 50).held hn)
      have hMt := (New.tab hn).len
      obtain ⟨ta, tc, rfl, -⟩ := (New.tab hn).shape
      replace HBc := Lib.hid (HBc.out.trans (hb.mono HBc.out.size))
      clear hn hb
      go_wp2_with fail
      (with_reducible refine (HJi.out _ HBc.out).mono ?_)
      rintro e wm1 ⟨vj, rfl, hn, hb⟩
      replace HS := Lib.hid (HS.out.new (OTab.kept 3 50).held hb HBc.out.size hn)
      have hMj := (New.tab hn).len
      obtain ⟨ja, jc, rfl, -⟩ := (New.tab hn).shape
      replace HBc := Lib.hid (HBc.out.trans (hb.mono HBc.out.size))
      clear hn hb
      go_wp2_with fail
      (with_reducible refine (HAi.out _ HBc.out).mono ?_)
      rintro e wm2 ⟨va, rfl, hn, hb⟩
      replace HS := Lib.hid (HS.out.new (OTab.kept 3 50).held hb HBc.out.size hn)
      have hMa := (New.tab hn).len
      obtain ⟨aa, ac, rfl, -⟩ := (New.tab hn).shape
      replace HBc := Lib.hid (HBc.out.trans (hb.mono HBc.out.size))
      clear hn hb
      go_wp2_with fail
      (with_reducible refine (HPi.out _ HBc.out).mono ?_)
      rintro e wm3 ⟨vp, rfl, hn, hb⟩
      replace HS := Lib.hid (HS.out.new (OTab.kept 3 50).held hb HBc.out.size hn)
      have hMp := (New.tab hn).len
      obtain ⟨pa, pc, rfl, -⟩ := (New.tab hn).shape
      replace HBc := Lib.hid (HBc.out.trans (hb.mono HBc.out.size))
      clear hn hb
      obtain ⟨Nt, hNt⟩ : ∃ n, n = TV.length := ⟨_, rfl⟩
      rw [← hNt] at HS hMt ⊢
      have HLt := Lib.hid hNt.symm
      clear hNt
      obtain ⟨Nj, hNj⟩ : ∃ n, n = JV.length := ⟨_, rfl⟩
      rw [← hNj] at HS hMj ⊢
      have HLj := Lib.hid hNj.symm
      clear hNj
      obtain ⟨Na, hNa⟩ : ∃ n, n = AV.length := ⟨_, rfl⟩
      rw [← hNa] at HS hMa ⊢
      have HLa := Lib.hid hNa.symm
      clear hNa
      obtain ⟨Np, hNp⟩ : ∃ n, n = PV.length := ⟨_, rfl⟩
      rw [← hNp] at HS hMp ⊢
      have HLp := Lib.hid hNp.symm
      clear hNp
      have HS4 := Lib.hid (show ∃ P A J T : List (List Int), Sep wB.heap.size wm3 [ResM (.slice pa Np pc) P, ResM (.slice aa Na ac) A, ResM (.slice ja Nj jc) J, ResM (.slice ta Nt tc) T] ∧ P.length = Np ∧ A.length = Na ∧ J.length = Nj ∧ T.length = Nt from ⟨PV, AV, JV, TV, HS.out, HLp.out, HLa.out, HLj.out, HLt.out⟩)
      clear HS HLt HLj HLa HLp
      go_wp2
      go_loopg [11] Nt (fun g iv wr => ∃ (k : Nat), iv = .int .i64 k ∧ k + g = Nt ∧ Hid (∃ P A J T : List (List Int), Sep wB.heap.size wr [ResM (.slice pa Np pc) P, ResM (.slice aa Na ac) A, ResM (.slice ja Nj jc) J, ResM (.slice ta Nt tc) T] ∧ P.length = Np ∧ A.length = Na ∧ J.length = Nj ∧ T.length = Nt) ∧ Hid (Below wB.heap.size wB wr))
      case atStart => exact ⟨0, rfl, by omega, HS4, HBc⟩
      case round =>
        clear HS4 HBc
        obtain ⟨k, rfl, hk, HS4, HBc⟩ := hrel
        obtain ⟨wk, rfl⟩ : ∃ x, x = wr := ⟨_, rfl⟩
        by_cases hkN : k < Nt
        · have hki : (k : Int) < (Nt : Int) := by omega
          obtain ⟨g, rfl⟩ : ∃ x, gk = x + 1 := ⟨gk - 1, by omega⟩
          obtain ⟨R, hR⟩ : ∃ R, Hid (∃ P A J T : List (List Int), Sep wB.heap.size wk [ResM (.slice pa Np pc) P, ResM (.slice aa Na ac) A, ResM (.slice ja Nj jc) J, ResM (.slice ta Nt tc) T] ∧ P.length = Np ∧ A.length = Na ∧ J.length = Nj ∧ T.length = Nt ∧ (T.getD k []).length = R) := by
            obtain ⟨P, A, J, T, hs, h1, h2, h3, h4⟩ := HS4.out
            exact ⟨_, Lib.hid ⟨P, A, J, T, hs, h1, h2, h3, h4, rfl⟩⟩
          clear HS4
          go_wp2
          go_loopg [12] R (fun g2 jv wr2 => ∃ (j : Nat), jv = .int .i64 j ∧ j + g2 = R ∧ Hid (∃ P A J T : List (List Int), Sep wB.heap.size wr2 [ResM (.slice pa Np pc) P, ResM (.slice aa Na ac) A, ResM (.slice ja Nj jc) J, ResM (.slice ta Nt tc) T] ∧ P.length = Np ∧ A.length = Na ∧ J.length = Nj ∧ T.length = Nt ∧ (T.getD k []).length = R) ∧ Hid (Below wB.heap.size wB wr2))
          case atStart => exact ⟨0, rfl, by omega, hR, HBc⟩
          case round =>
            clear hR HBc
            obtain ⟨j, rfl, hj, HR, HBc⟩ := hrel
            obtain ⟨wi, rfl⟩ : ∃ x, x = wr := ⟨_, rfl⟩
            obtain ⟨P, A, J, T, hs, hP, hA, hJ, hT, hXR⟩ := HR.out
            obtain ⟨r, hr, -⟩ := at_lt (xs := T) (k := k) (by omega)
            have hrg : T.getD k [] = r := by simp [List.getD, hr]
            rw [hrg] at hXR
            obtain ⟨tb, to', tc', ra, rc, hv, -, g0, hri⟩ := (New.tab (hs.front [_, _, _]).headNew).rowOf hr
            simp only [Value.slice.injEq] at hv
            obtain ⟨rfl, -, rfl⟩ := hv
            rw [hXR] at g0
            have hMR : R ≤ 9223372036854775807 := by have := hri.len; omega
            clear hri
            by_cases hjR : j < R
            · have hji : (j : Int) < (R : Int) := by omega
              obtain ⟨g2, rfl⟩ : ∃ x, gk = x + 1 := ⟨gk - 1, by omega⟩
              obtain ⟨x, hx, -⟩ := at_lt (xs := r) (k := j) (by omega)
              obtain ⟨b1, c1, rb, rc1, hv, -, -, g1, hlr, -, g2', f2, hst⟩ := (hs.front [_, _, _]).tabSet hr hx
              simp only [Value.slice.injEq, Option.some.injEq, Addr.mk.injEq] at hv
              obtain ⟨⟨rfl, rfl, -⟩, -, -⟩ := hv
              rw [hXR] at g1
              rw [Nat.zero_add] at g0
              rw [g1] at g0
              have e8 := Option.some.inj g0
              simp only [Value.slice.injEq] at e8
              obtain ⟨rfl, -, rfl⟩ := e8
              have HR2 := Lib.hid (show ∃ P A J T : List (List Int), Sep wB.heap.size (wi.setCell ⟨rb, j, none⟩ (.int .i64 99)) [ResM (.slice pa Np pc) P, ResM (.slice aa Na ac) A, ResM (.slice ja Nj jc) J, ResM (.slice (some ⟨tb, 0, none⟩) Nt tc) T] ∧ P.length = Np ∧ A.length = Na ∧ J.length = Nj ∧ T.length = Nt ∧ (T.getD k []).length = R from ⟨P, A, J, (T.set k (r.set j 99)), (hst 99).back [_, _, _], by simpa using hP, by simpa using hA, by simpa using hJ, by simpa using hT, by simp [List.getD, show k < T.length by omega]; exact hXR⟩)
              have HB2 := Lib.hid (HBc.out.setCell (p := ⟨rb, j, none⟩) hlr (.int .i64 99))
              clear hs hP hA hJ hT hXR hr hrg hx hst HR g0 hlr HBc P A J T r
              go_wp2
              go_roundg g2
              case measure => omega
              case rel => exact ⟨j + 1, by go_num, by omega, HR2, HB2⟩
            · have hji : ¬ ((j : Int) < (R : Int)) := by omega
              have HS4 := Lib.hid (show ∃ P A J T : List (List Int), Sep wB.heap.size wi [ResM (.slice pa Np pc) P, ResM (.slice aa Na ac) A, ResM (.slice ja Nj jc) J, ResM (.slice (some ⟨tb, to', none⟩) Nt tc) T] ∧ P.length = Np ∧ A.length = Na ∧ J.length = Nj ∧ T.length = Nt from ⟨P, A, J, T, hs, hP, hA, hJ, hT⟩)
              clear hs hP hA hJ hT hXR hr hrg HR P A J T r
              go_wp2
              go_roundg g
              case measure => omega
              case rel => exact ⟨k + 1, by go_num, by omega, HS4, HBc⟩
        · have hki : ¬ ((k : Int) < (Nt : Int)) := by omega
          clear hk hkN
          go_wp2
          go_loopg [13] Nj (fun g iv wr => ∃ (k : Nat), iv = .int .i64 k ∧ k + g = Nj ∧ Hid (∃ P A J T : List (List Int), Sep wB.heap.size wr [ResM (.slice pa Np pc) P, ResM (.slice aa Na ac) A, ResM (.slice ja Nj jc) J, ResM (.slice ta Nt tc) T] ∧ P.length = Np ∧ A.length = Na ∧ J.length = Nj ∧ T.length = Nt) ∧ Hid (Below wB.heap.size wB wr))
          case atStart => exact ⟨0, rfl, by omega, HS4, HBc⟩
          case round =>
            clear HS4 HBc
            obtain ⟨k, rfl, hk, HS4, HBc⟩ := hrel
            obtain ⟨wk, rfl⟩ : ∃ x, x = wr := ⟨_, rfl⟩
            by_cases hkN : k < Nj
            · have hki : (k : Int) < (Nj : Int) := by omega
              obtain ⟨g, rfl⟩ : ∃ x, gk = x + 1 := ⟨gk - 1, by omega⟩
              obtain ⟨R, hR⟩ : ∃ R, Hid (∃ P A J T : List (List Int), Sep wB.heap.size wk [ResM (.slice pa Np pc) P, ResM (.slice aa Na ac) A, ResM (.slice ja Nj jc) J, ResM (.slice ta Nt tc) T] ∧ P.length = Np ∧ A.length = Na ∧ J.length = Nj ∧ T.length = Nt ∧ (J.getD k []).length = R) := by
                obtain ⟨P, A, J, T, hs, h1, h2, h3, h4⟩ := HS4.out
                exact ⟨_, Lib.hid ⟨P, A, J, T, hs, h1, h2, h3, h4, rfl⟩⟩
              clear HS4
              go_wp2
              go_loopg [14] R (fun g2 jv wr2 => ∃ (j : Nat), jv = .int .i64 j ∧ j + g2 = R ∧ Hid (∃ P A J T : List (List Int), Sep wB.heap.size wr2 [ResM (.slice pa Np pc) P, ResM (.slice aa Na ac) A, ResM (.slice ja Nj jc) J, ResM (.slice ta Nt tc) T] ∧ P.length = Np ∧ A.length = Na ∧ J.length = Nj ∧ T.length = Nt ∧ (J.getD k []).length = R) ∧ Hid (Below wB.heap.size wB wr2))
              case atStart => exact ⟨0, rfl, by omega, hR, HBc⟩
              case round =>
                clear hR HBc
                obtain ⟨j, rfl, hj, HR, HBc⟩ := hrel
                obtain ⟨wi, rfl⟩ : ∃ x, x = wr := ⟨_, rfl⟩
                obtain ⟨P, A, J, T, hs, hP, hA, hJ, hT, hXR⟩ := HR.out
                obtain ⟨r, hr, -⟩ := at_lt (xs := J) (k := k) (by omega)
                have hrg : J.getD k [] = r := by simp [List.getD, hr]
                rw [hrg] at hXR
                obtain ⟨tb, to', tc', ra, rc, hv, -, g0, hri⟩ := (New.tab (hs.front [_, _]).headNew).rowOf hr
                simp only [Value.slice.injEq] at hv
                obtain ⟨rfl, -, rfl⟩ := hv
                rw [hXR] at g0
                have hMR : R ≤ 9223372036854775807 := by have := hri.len; omega
                clear hri
                by_cases hjR : j < R
                · have hji : (j : Int) < (R : Int) := by omega
                  obtain ⟨g2, rfl⟩ : ∃ x, gk = x + 1 := ⟨gk - 1, by omega⟩
                  obtain ⟨x, hx, -⟩ := at_lt (xs := r) (k := j) (by omega)
                  obtain ⟨b1, c1, rb, rc1, hv, -, -, g1, hlr, -, g2', f2, hst⟩ := (hs.front [_, _]).tabSet hr hx
                  simp only [Value.slice.injEq, Option.some.injEq, Addr.mk.injEq] at hv
                  obtain ⟨⟨rfl, rfl, -⟩, -, -⟩ := hv
                  rw [hXR] at g1
                  rw [Nat.zero_add] at g0
                  rw [g1] at g0
                  have e8 := Option.some.inj g0
                  simp only [Value.slice.injEq] at e8
                  obtain ⟨rfl, -, rfl⟩ := e8
                  have HR2 := Lib.hid (show ∃ P A J T : List (List Int), Sep wB.heap.size (wi.setCell ⟨rb, j, none⟩ (.int .i64 99)) [ResM (.slice pa Np pc) P, ResM (.slice aa Na ac) A, ResM (.slice (some ⟨tb, 0, none⟩) Nj jc) J, ResM (.slice ta Nt tc) T] ∧ P.length = Np ∧ A.length = Na ∧ J.length = Nj ∧ T.length = Nt ∧ (J.getD k []).length = R from ⟨P, A, (J.set k (r.set j 99)), T, (hst 99).back [_, _], by simpa using hP, by simpa using hA, by simpa using hJ, by simpa using hT, by simp [List.getD, show k < J.length by omega]; exact hXR⟩)
                  have HB2 := Lib.hid (HBc.out.setCell (p := ⟨rb, j, none⟩) hlr (.int .i64 99))
                  clear hs hP hA hJ hT hXR hr hrg hx hst HR g0 hlr HBc P A J T r
                  go_wp2
                  go_roundg g2
                  case measure => omega
                  case rel => exact ⟨j + 1, by go_num, by omega, HR2, HB2⟩
                · have hji : ¬ ((j : Int) < (R : Int)) := by omega
                  have HS4 := Lib.hid (show ∃ P A J T : List (List Int), Sep wB.heap.size wi [ResM (.slice pa Np pc) P, ResM (.slice aa Na ac) A, ResM (.slice (some ⟨tb, to', none⟩) Nj jc) J, ResM (.slice ta Nt tc) T] ∧ P.length = Np ∧ A.length = Na ∧ J.length = Nj ∧ T.length = Nt from ⟨P, A, J, T, hs, hP, hA, hJ, hT⟩)
                  clear hs hP hA hJ hT hXR hr hrg HR P A J T r
                  go_wp2
                  go_roundg g
                  case measure => omega
                  case rel => exact ⟨k + 1, by go_num, by omega, HS4, HBc⟩
            · have hki : ¬ ((k : Int) < (Nj : Int)) := by omega
              clear hk hkN
              go_wp2
              go_loopg [15] Na (fun g iv wr => ∃ (k : Nat), iv = .int .i64 k ∧ k + g = Na ∧ Hid (∃ P A J T : List (List Int), Sep wB.heap.size wr [ResM (.slice pa Np pc) P, ResM (.slice aa Na ac) A, ResM (.slice ja Nj jc) J, ResM (.slice ta Nt tc) T] ∧ P.length = Np ∧ A.length = Na ∧ J.length = Nj ∧ T.length = Nt) ∧ Hid (Below wB.heap.size wB wr))
              case atStart => exact ⟨0, rfl, by omega, HS4, HBc⟩
              case round =>
                clear HS4 HBc
                obtain ⟨k, rfl, hk, HS4, HBc⟩ := hrel
                obtain ⟨wk, rfl⟩ : ∃ x, x = wr := ⟨_, rfl⟩
                by_cases hkN : k < Na
                · have hki : (k : Int) < (Na : Int) := by omega
                  obtain ⟨g, rfl⟩ : ∃ x, gk = x + 1 := ⟨gk - 1, by omega⟩
                  obtain ⟨R, hR⟩ : ∃ R, Hid (∃ P A J T : List (List Int), Sep wB.heap.size wk [ResM (.slice pa Np pc) P, ResM (.slice aa Na ac) A, ResM (.slice ja Nj jc) J, ResM (.slice ta Nt tc) T] ∧ P.length = Np ∧ A.length = Na ∧ J.length = Nj ∧ T.length = Nt ∧ (A.getD k []).length = R) := by
                    obtain ⟨P, A, J, T, hs, h1, h2, h3, h4⟩ := HS4.out
                    exact ⟨_, Lib.hid ⟨P, A, J, T, hs, h1, h2, h3, h4, rfl⟩⟩
                  clear HS4
                  go_wp2
                  go_loopg [16] R (fun g2 jv wr2 => ∃ (j : Nat), jv = .int .i64 j ∧ j + g2 = R ∧ Hid (∃ P A J T : List (List Int), Sep wB.heap.size wr2 [ResM (.slice pa Np pc) P, ResM (.slice aa Na ac) A, ResM (.slice ja Nj jc) J, ResM (.slice ta Nt tc) T] ∧ P.length = Np ∧ A.length = Na ∧ J.length = Nj ∧ T.length = Nt ∧ (A.getD k []).length = R) ∧ Hid (Below wB.heap.size wB wr2))
                  case atStart => exact ⟨0, rfl, by omega, hR, HBc⟩
                  case round =>
                    clear hR HBc
                    obtain ⟨j, rfl, hj, HR, HBc⟩ := hrel
                    obtain ⟨wi, rfl⟩ : ∃ x, x = wr := ⟨_, rfl⟩
                    obtain ⟨P, A, J, T, hs, hP, hA, hJ, hT, hXR⟩ := HR.out
                    obtain ⟨r, hr, -⟩ := at_lt (xs := A) (k := k) (by omega)
                    have hrg : A.getD k [] = r := by simp [List.getD, hr]
                    rw [hrg] at hXR
                    obtain ⟨tb, to', tc', ra, rc, hv, -, g0, hri⟩ := (New.tab (hs.front [_]).headNew).rowOf hr
                    simp only [Value.slice.injEq] at hv
                    obtain ⟨rfl, -, rfl⟩ := hv
                    rw [hXR] at g0
                    have hMR : R ≤ 9223372036854775807 := by have := hri.len; omega
                    clear hri
                    by_cases hjR : j < R
                    · have hji : (j : Int) < (R : Int) := by omega
                      obtain ⟨g2, rfl⟩ : ∃ x, gk = x + 1 := ⟨gk - 1, by omega⟩
                      obtain ⟨x, hx, -⟩ := at_lt (xs := r) (k := j) (by omega)
                      obtain ⟨b1, c1, rb, rc1, hv, -, -, g1, hlr, -, g2', f2, hst⟩ := (hs.front [_]).tabSet hr hx
                      simp only [Value.slice.injEq, Option.some.injEq, Addr.mk.injEq] at hv
                      obtain ⟨⟨rfl, rfl, -⟩, -, -⟩ := hv
                      rw [hXR] at g1
                      rw [Nat.zero_add] at g0
                      rw [g1] at g0
                      have e8 := Option.some.inj g0
                      simp only [Value.slice.injEq] at e8
                      obtain ⟨rfl, -, rfl⟩ := e8
                      have HR2 := Lib.hid (show ∃ P A J T : List (List Int), Sep wB.heap.size (wi.setCell ⟨rb, j, none⟩ (.int .i64 99)) [ResM (.slice pa Np pc) P, ResM (.slice (some ⟨tb, 0, none⟩) Na ac) A, ResM (.slice ja Nj jc) J, ResM (.slice ta Nt tc) T] ∧ P.length = Np ∧ A.length = Na ∧ J.length = Nj ∧ T.length = Nt ∧ (A.getD k []).length = R from ⟨P, (A.set k (r.set j 99)), J, T, (hst 99).back [_], by simpa using hP, by simpa using hA, by simpa using hJ, by simpa using hT, by simp [List.getD, show k < A.length by omega]; exact hXR⟩)
                      have HB2 := Lib.hid (HBc.out.setCell (p := ⟨rb, j, none⟩) hlr (.int .i64 99))
                      clear hs hP hA hJ hT hXR hr hrg hx hst HR g0 hlr HBc P A J T r
                      go_wp2
                      go_roundg g2
                      case measure => omega
                      case rel => exact ⟨j + 1, by go_num, by omega, HR2, HB2⟩
                    · have hji : ¬ ((j : Int) < (R : Int)) := by omega
                      have HS4 := Lib.hid (show ∃ P A J T : List (List Int), Sep wB.heap.size wi [ResM (.slice pa Np pc) P, ResM (.slice (some ⟨tb, to', none⟩) Na ac) A, ResM (.slice ja Nj jc) J, ResM (.slice ta Nt tc) T] ∧ P.length = Np ∧ A.length = Na ∧ J.length = Nj ∧ T.length = Nt from ⟨P, A, J, T, hs, hP, hA, hJ, hT⟩)
                      clear hs hP hA hJ hT hXR hr hrg HR P A J T r
                      go_wp2
                      go_roundg g
                      case measure => omega
                      case rel => exact ⟨k + 1, by go_num, by omega, HS4, HBc⟩
                · have hki : ¬ ((k : Int) < (Na : Int)) := by omega
                  clear hk hkN
                  go_wp2
                  go_loopg [17] Np (fun g iv wr => ∃ (k : Nat), iv = .int .i64 k ∧ k + g = Np ∧ Hid (∃ P A J T : List (List Int), Sep wB.heap.size wr [ResM (.slice pa Np pc) P, ResM (.slice aa Na ac) A, ResM (.slice ja Nj jc) J, ResM (.slice ta Nt tc) T] ∧ P.length = Np ∧ A.length = Na ∧ J.length = Nj ∧ T.length = Nt) ∧ Hid (Below wB.heap.size wB wr))
                  case atStart => exact ⟨0, rfl, by omega, HS4, HBc⟩
                  case round =>
                    clear HS4 HBc
                    obtain ⟨k, rfl, hk, HS4, HBc⟩ := hrel
                    obtain ⟨wk, rfl⟩ : ∃ x, x = wr := ⟨_, rfl⟩
                    by_cases hkN : k < Np
                    · have hki : (k : Int) < (Np : Int) := by omega
                      obtain ⟨g, rfl⟩ : ∃ x, gk = x + 1 := ⟨gk - 1, by omega⟩
                      obtain ⟨R, hR⟩ : ∃ R, Hid (∃ P A J T : List (List Int), Sep wB.heap.size wk [ResM (.slice pa Np pc) P, ResM (.slice aa Na ac) A, ResM (.slice ja Nj jc) J, ResM (.slice ta Nt tc) T] ∧ P.length = Np ∧ A.length = Na ∧ J.length = Nj ∧ T.length = Nt ∧ (P.getD k []).length = R) := by
                        obtain ⟨P, A, J, T, hs, h1, h2, h3, h4⟩ := HS4.out
                        exact ⟨_, Lib.hid ⟨P, A, J, T, hs, h1, h2, h3, h4, rfl⟩⟩
                      clear HS4
                      go_wp2
                      go_loopg [18] R (fun g2 jv wr2 => ∃ (j : Nat), jv = .int .i64 j ∧ j + g2 = R ∧ Hid (∃ P A J T : List (List Int), Sep wB.heap.size wr2 [ResM (.slice pa Np pc) P, ResM (.slice aa Na ac) A, ResM (.slice ja Nj jc) J, ResM (.slice ta Nt tc) T] ∧ P.length = Np ∧ A.length = Na ∧ J.length = Nj ∧ T.length = Nt ∧ (P.getD k []).length = R) ∧ Hid (Below wB.heap.size wB wr2))
                      case atStart => exact ⟨0, rfl, by omega, hR, HBc⟩
                      case round =>
                        clear hR HBc
                        obtain ⟨j, rfl, hj, HR, HBc⟩ := hrel
                        obtain ⟨wi, rfl⟩ : ∃ x, x = wr := ⟨_, rfl⟩
                        obtain ⟨P, A, J, T, hs, hP, hA, hJ, hT, hXR⟩ := HR.out
                        obtain ⟨r, hr, -⟩ := at_lt (xs := P) (k := k) (by omega)
                        have hrg : P.getD k [] = r := by simp [List.getD, hr]
                        rw [hrg] at hXR
                        obtain ⟨tb, to', tc', ra, rc, hv, -, g0, hri⟩ := (New.tab hs.headNew).rowOf hr
                        simp only [Value.slice.injEq] at hv
                        obtain ⟨rfl, -, rfl⟩ := hv
                        rw [hXR] at g0
                        have hMR : R ≤ 9223372036854775807 := by have := hri.len; omega
                        clear hri
                        by_cases hjR : j < R
                        · have hji : (j : Int) < (R : Int) := by omega
                          obtain ⟨g2, rfl⟩ : ∃ x, gk = x + 1 := ⟨gk - 1, by omega⟩
                          obtain ⟨x, hx, -⟩ := at_lt (xs := r) (k := j) (by omega)
                          obtain ⟨b1, c1, rb, rc1, hv, -, -, g1, hlr, -, g2', f2, hst⟩ := hs.tabSet hr hx
                          simp only [Value.slice.injEq, Option.some.injEq, Addr.mk.injEq] at hv
                          obtain ⟨⟨rfl, rfl, -⟩, -, -⟩ := hv
                          rw [hXR] at g1
                          rw [Nat.zero_add] at g0
                          rw [g1] at g0
                          have e8 := Option.some.inj g0
                          simp only [Value.slice.injEq] at e8
                          obtain ⟨rfl, -, rfl⟩ := e8
                          have HR2 := Lib.hid (show ∃ P A J T : List (List Int), Sep wB.heap.size (wi.setCell ⟨rb, j, none⟩ (.int .i64 99)) [ResM (.slice (some ⟨tb, 0, none⟩) Np pc) P, ResM (.slice aa Na ac) A, ResM (.slice ja Nj jc) J, ResM (.slice ta Nt tc) T] ∧ P.length = Np ∧ A.length = Na ∧ J.length = Nj ∧ T.length = Nt ∧ (P.getD k []).length = R from ⟨(P.set k (r.set j 99)), A, J, T, hst 99, by simpa using hP, by simpa using hA, by simpa using hJ, by simpa using hT, by simp [List.getD, show k < P.length by omega]; exact hXR⟩)
                          have HB2 := Lib.hid (HBc.out.setCell (p := ⟨rb, j, none⟩) hlr (.int .i64 99))
                          clear hs hP hA hJ hT hXR hr hrg hx hst HR g0 hlr HBc P A J T r
                          go_wp2
                          go_roundg g2
                          case measure => omega
                          case rel => exact ⟨j + 1, by go_num, by omega, HR2, HB2⟩
                        · have hji : ¬ ((j : Int) < (R : Int)) := by omega
                          have HS4 := Lib.hid (show ∃ P A J T : List (List Int), Sep wB.heap.size wi [ResM (.slice (some ⟨tb, to', none⟩) Np pc) P, ResM (.slice aa Na ac) A, ResM (.slice ja Nj jc) J, ResM (.slice ta Nt tc) T] ∧ P.length = Np ∧ A.length = Na ∧ J.length = Nj ∧ T.length = Nt from ⟨P, A, J, T, hs, hP, hA, hJ, hT⟩)
                          clear hs hP hA hJ hT hXR hr hrg HR P A J T r
                          go_wp2
                          go_roundg g
                          case measure => omega
                          case rel => exact ⟨k + 1, by go_num, by omega, HS4, HBc⟩
                    · have hki : ¬ ((k : Int) < (Np : Int)) := by omega
                      clear hk hkN
                      clear HS4
                      have HX0 := Lib.hid (fun (w' : World) (hb : Below wB.heap.size wB w') => sameLists_c (Tab.frame _ _ _ _ HTm.out hb) (Tab.frame _ _ _ _ HTb.out hb))
                      rw [decide_eq_true (rfl : m = m)] at HX0
                      cases ok <;> (
                        go_wp2_with fail
                        (with_reducible refine (HPi.out _ HBc.out).mono ?_)
                        rintro e wq ⟨vq, rfl, hn, hb⟩
                        have HNq := Lib.hid hn.tab
                        replace HBc := Lib.hid (HBc.out.trans (hb.mono HBc.out.size))
                        have HBl := Lib.hid hb
                        clear hn hb
                        go_wp2_with fail
                        (with_reducible refine (HPs.out _ HBc.out).mono ?_)
                        rintro e wr ⟨vr, rfl, hn, hb⟩
                        have HNr := Lib.hid hn.tab
                        replace HBc := Lib.hid (HBc.out.trans (hb.mono HBc.out.size))
                        have HBl := Lib.hid hb
                        clear hn hb
                        have HNq2 := Lib.hid (Tab.frame _ _ _ _ HNq.out HBl.out)
                        go_wp2_with fail
                        (with_reducible refine (HX0.out _ HBc.out).mono ?_)
                        rintro e w5 ⟨rfl, hd⟩
                        have HX := Lib.hid (sameLists_c (Tab.frame _ _ _ _ HNq2.out (hd.below _)) (Tab.frame _ _ _ _ HNr.out (hd.below _)))
                        rw [decide_eq_true (rfl : PV = PV)] at HX
                        replace HBc := Lib.hid (HBc.out.trans (hd.below _))
                        clear hd HX0
                        go_wp2_with fail
                        (with_reducible refine HX.out.mono ?_)
                        rintro e w6 ⟨rfl, hd⟩
                        replace HBc := Lib.hid (HBc.out.trans (hd.below _))
                        clear hd HX HNq HNq2 HNr
                        go_wp2_with fail
                        (with_reducible refine (HTi.out _ HBc.out).mono ?_)
                        rintro e wt2 ⟨vt2, rfl, hn, hb⟩
                        have HNt2 := Lib.hid hn.tab
                        replace HBc := Lib.hid (HBc.out.trans (hb.mono HBc.out.size))
                        have HBl := Lib.hid hb
                        clear hn hb
                        go_wp2_with fail
                        (with_reducible refine (HTs.out _ HBc.out).mono ?_)
                        rintro e wt3 ⟨vt3, rfl, hn, hb⟩
                        have HNt3 := Lib.hid hn.tab
                        replace HBc := Lib.hid (HBc.out.trans (hb.mono HBc.out.size))
                        have HBl := Lib.hid hb
                        clear hn hb
                        have HX := Lib.hid (sameLists_c (Tab.frame _ _ _ _ HNt2.out HBl.out) HNt3.out)
                        rw [decide_eq_true (rfl : TV = TV)] at HX
                        go_wp2_with fail
                        (with_reducible refine HX.out.mono ?_)
                        rintro e w_t2 ⟨rfl, hd⟩
                        replace HBc := Lib.hid (HBc.out.trans (hd.below _))
                        clear hd HX HNt2 HNt3
                        go_wp2_with fail
                        (with_reducible refine (HJi.out _ HBc.out).mono ?_)
                        rintro e wj2 ⟨vj2, rfl, hn, hb⟩
                        have HNj2 := Lib.hid hn.tab
                        replace HBc := Lib.hid (HBc.out.trans (hb.mono HBc.out.size))
                        have HBl := Lib.hid hb
                        clear hn hb
                        go_wp2_with fail
                        (with_reducible refine (HJs.out _ HBc.out).mono ?_)
                        rintro e wj3 ⟨vj3, rfl, hn, hb⟩
                        have HNj3 := Lib.hid hn.tab
                        replace HBc := Lib.hid (HBc.out.trans (hb.mono HBc.out.size))
                        have HBl := Lib.hid hb
                        clear hn hb
                        have HX := Lib.hid (sameLists_c (Tab.frame _ _ _ _ HNj2.out HBl.out) HNj3.out)
                        rw [decide_eq_true (rfl : JV = JV)] at HX
                        go_wp2_with fail
                        (with_reducible refine HX.out.mono ?_)
                        rintro e w_j2 ⟨rfl, hd⟩
                        replace HBc := Lib.hid (HBc.out.trans (hd.below _))
                        clear hd HX HNj2 HNj3
                        go_wp2_with fail
                        (with_reducible refine (HAi.out _ HBc.out).mono ?_)
                        rintro e wa2 ⟨va2, rfl, hn, hb⟩
                        have HNa2 := Lib.hid hn.tab
                        replace HBc := Lib.hid (HBc.out.trans (hb.mono HBc.out.size))
                        have HBl := Lib.hid hb
                        clear hn hb
                        go_wp2_with fail
                        (with_reducible refine (HAs.out _ HBc.out).mono ?_)
                        rintro e wa3 ⟨va3, rfl, hn, hb⟩
                        have HNa3 := Lib.hid hn.tab
                        replace HBc := Lib.hid (HBc.out.trans (hb.mono HBc.out.size))
                        have HBl := Lib.hid hb
                        clear hn hb
                        have HX := Lib.hid (sameLists_c (Tab.frame _ _ _ _ HNa2.out HBl.out) HNa3.out)
                        rw [decide_eq_true (rfl : AV = AV)] at HX
                        go_wp2_with fail
                        (with_reducible refine HX.out.mono ?_)
                        rintro e w_a2 ⟨rfl, hd⟩
                        replace HBc := Lib.hid (HBc.out.trans (hd.below _))
                        clear hd HX HNa2 HNa3
                        go_wp2
                        go_ret
                        exact ⟨rfl, HBw.out.trans (HBc.out.mono hzw)⟩)
end Go.Proofs.Ytdohepngandajaa
end
