/-
  Rows and columns exchanged, both sides.
-/
import Derived.Test.YtdohepngandajaaRows
import Derived.Test.YtdohepngandajaaBase
import Derived.Test.YtdohepngandajaaTabs
import Derived.Test.YtdohepngandajaaMat
import Derived.Test.YtdohepngandajaaAlike
import Derived.Test.YtdohepngandajaaZero
import Derived.Test.YtdohepngandajaaTurn
import Derived.StillTailTactics
namespace Go.Proofs.Ytdohepngandajaa
open Go.RowKit Go.Deep Go.Sd

set_option maxHeartbeats 1000000 in
theorem turned_c {w : World} {va : Value} {m : List (List Int)} {n : Nat} (h1 : Tab w va m) (hm : Sq n m) (hn0 : 0 < n) (hn : n ≤ 9) :
    Calls Try.prog 94 #[va] w (Makes (OTab 3 50) w (turnT m n)) := by
  obtain ⟨ab, ao, ac, rfl, hab, hae⟩ := h1.entAt hm.1 hm.2 hn0
  obtain ⟨zb, zo, zc, hz1, hzb, _, _⟩ := hae.at hn0 hn0
  rw [Nat.add_zero] at hz1
  have hn1 : (0 : Int) < (n : Int) := by omega
  clear h1 hm
  go_enter Try.func94, Try.ntmps94
  go_wp2
  clear hz1 hn1
  go_loopg [3, 12] n (fun g v jj wr => ∃ (j : Nat), jj = .int .i64 j ∧ j + g = n ∧ New (OTab 3 50) w.heap.size wr v ((turnT m n).take j) ∧ Below w.heap.size w wr)
  case atStart => exact ⟨0, rfl, by omega, New.empty w (Nat.le_refl _), (Below.refl _ _).alloc (Nat.le_refl _) _⟩
  case round =>
    obtain ⟨j, rfl, hj, hnew, hbel⟩ := hrel
    by_cases hlt : j < n
    · obtain ⟨wo, rfl⟩ : ∃ wo : World, wo = wr := ⟨_, rfl⟩
      have hle := hbel.size
      have Hn := Lib.hid hnew
      have Hb := Lib.hid hbel
      have Hlk := Lib.hid (show ((turnT m n).take j).length ≤ n from by rw [List.length_take]; omega)
      clear hnew hbel
      go_wp2
      go_loopg [5, 18] n (fun g lv ii wr => ∃ (i : Nat), ii = .int .i64 i ∧ i + g = n ∧ New (OInts 3) wo.heap.size wr lv ((rowOf' n (fun i => ent m i j)).take i) ∧ Below wo.heap.size wo wr)
      case atStart => exact ⟨0, rfl, by omega, New.empty wo (Nat.le_refl _), (Below.refl _ _).alloc (Nat.le_refl _) _⟩
      case round =>
        obtain ⟨i, rfl, hi, hnew, hbel⟩ := hrel
        obtain ⟨wi, rfl⟩ : ∃ wi : World, wi = wr := ⟨_, rfl⟩
        have hle2 := hbel.size
        have hrule2 : ∀ b o, b < w.heap.size → wi.cell? ⟨b, o, none⟩ = w.cell? ⟨b, o, none⟩ := fun b o hb => (hbel.rule b o (by omega)).trans (Hb.out.rule b o hb)
        have Hn2 := Lib.hid hnew
        have Hb2 := Lib.hid hbel
        have Hll := Lib.hid (show ((rowOf' n (fun i => ent m i j)).take i).length ≤ n from by rw [List.length_take]; omega)
        clear hnew hbel
        by_cases hlt2 : i < n
        · obtain ⟨rb, ro, rc, hA1, hrb, _, hA2⟩ := hae.at hlt2 hn0
          have hA3 := hA2 j hlt
          have Hs := Lib.hid (show _ = _ from take_snoc' (show (rowOf' n (fun i => ent m i j))[i]? = some (ent m i j) from rowOf_at hlt2))
          have hi1 : (i : Int) < (n : Int) := by omega
          have hi2 : (j : Int) < (n : Int) := by omega
          generalize ent m i j = X at *
          clear hA2 hae
          go_wp2_with (at_builtin; refine wpl_push (w0 := wi) (lo := wo.heap.size) (y := X) OIntR.kept rfl (.tmp 21) (.tmp 29) 50 rfl 3 (.int .i64 0) 8 Try.underlying50 infoI rfl Hn2.out hle2 ((Below.refl _ _).alloc (Nat.le_refl _) _) ⟨[], ⟨rfl, rfl⟩, by simp [Fresh]⟩ (bb := wi.heap.size) (c := 1) (by simp) rfl rfl (by have := Hll.out; omega) (by have := Hll.out; omega) ?_; intro v1 w1 hn1 _ _ hb1)
          go_roundg (n - (i + 1))
          case measure => omega
          case rel => exact ⟨i + 1, by go_num, by omega, by rw [← Hs.out]; exact hn1, Hb2.out.trans hb1⟩
        · have e : i = n := by omega
          subst e
          have hr := Hn2.out
          rw [rowOf_full] at hr
          obtain ⟨xa, xn, xc, rfl⟩ := hr.slice
          have Hr := Lib.hid hr
          have Hs := Lib.hid (show _ = _ from take_snoc' (show (turnT m i)[j]? = some (rowOf' i (fun k => ent m k j)) from tabOf_at hlt))
          clear hr hae
          go_wp2_with (at_builtin; refine wpl_push (w0 := wo) (lo := w.heap.size) (OInts.kept _) rfl (.tmp 32) (.tmp 34) 41 rfl 50 (.slice none 0 0) 24 Try.underlying41 infoR rfl Hn.out hle (Hb2.out.alloc hle2 _) (New.keep (OInts.kept _) Hr.out ((Below.refl wi.heap.size _).alloc (Nat.le_refl _) _) (Nat.le_refl _)) (bb := wi.heap.size) (c := 1) (by simp) rfl rfl (by have := Hlk.out; omega) (by have := Hlk.out; omega) ?_; intro v1 w1 hn1 _ _ hb1)
          go_roundg (i - (j + 1))
          case measure => omega
          case rel => exact ⟨j + 1, by go_num, by omega, by rw [← Hs.out]; exact hn1, Hb.out.trans hb1⟩
    · have e : j = n := by omega
      subst e
      have Hr := Lib.hid (show New (OTab 3 50) w.heap.size wr _ (turnT m j) from by have h := hnew; rw [show turnT m j = tabOf j j (fun i k => ent m k i) from rfl, tabOf_full] at h; exact h)
      clear hnew hae
      go_wp2
      go_ret
      exact ⟨_, rfl, Hr.out, hbel⟩

set_option maxHeartbeats 1000000 in
set_option maxRecDepth 100000 in
theorem l4Turn_c {w : World} {va : Value} {m : List (List Int)} {n : Nat} (h1 : Tab w va m) (hm : Sq n m) (hn0 : 0 < n) (hn : n ≤ 9) :
    Calls Try.prog 130 #[va] w (Makes (OTab 3 50) w (turnT m n)) := by
  obtain ⟨ab, ao, ac, rfl, hab, hae⟩ := h1.entAt hm.1 hm.2 hn0
  have Hz := Lib.hid (l4Zero_c (w := w) (p := n) (r := n) (by omega) (by omega))
  clear h1 hm
  go_enter Try.func130, Try.ntmps130
  go_wp2_with fail
  refine Hz.out.mono ?_
  rintro e w1 ⟨v1, rfl, hn1, hb1⟩
  rw [← turnF_start m n] at hn1
  obtain ⟨gb, gc, _, _, rfl, _, hgb, hgb2, _⟩ := hn1.tab_at (turnF_row hn0) (turnF_at hn0)
  rw [show (turnF m n 0 0).length = n from tabOf_len _ _ _] at hn1 ⊢
  have Hn1 := Lib.hid hn1
  have Hb1 := Lib.hid hb1
  clear hn1 hb1 Hz
  go_wp2
  go_loopg [4] n (fun g ii wr => ∃ (i : Nat), ii = .int .i64 i ∧ i + g = n ∧ New (OTab 3 50) w.heap.size wr (.slice (some ⟨gb, 0, none⟩) n gc) (turnF m n i 0) ∧ Below w.heap.size w wr)
  case atStart => exact ⟨0, rfl, by omega, Hn1.out, Hb1.out⟩
  case round =>
    obtain ⟨i, rfl, hi, hnew, hbel⟩ := hrel
    have Hn := Lib.hid hnew
    have Hb := Lib.hid hbel
    clear hnew hbel
    by_cases hlt : i < n
    · go_wp2
      go_loopg [5] n (fun g jj wr => ∃ (j : Nat), jj = .int .i64 j ∧ j + g = n ∧ New (OTab 3 50) w.heap.size wr (.slice (some ⟨gb, 0, none⟩) n gc) (turnF m n i j) ∧ Below w.heap.size w wr)
      case atStart => exact ⟨0, rfl, by omega, Hn.out, Hb.out⟩
      case round =>
        clear Hn Hb
        obtain ⟨j, rfl, hj, hnew, hbel⟩ := hrel
        by_cases hlt2 : j < n
        · obtain ⟨rb, ro, rc, hA1, hrb, _, hA2⟩ := hae.at hlt hn0
          have hA3 := hA2 j hlt2
          obtain ⟨b', c', sb, sc, hv, _, _, _, hcl1, _, hsb, _, hcl2, hfr, hst⟩ := hnew.tab_at (turnF_row hlt2) (turnF_at hlt)
          obtain rfl : b' = gb := by simp at hv; exact hv.1.symm
          rw [rowOf_len] at hcl1
          have Hst := Lib.hid (by have := hst (ent m i j); rw [turnF_set] at this; exact this)
          have Hb3 := Lib.hid (hbel.setCell (p := ⟨sb, i, none⟩) hsb (.int .i64 (ent m i j)))
          have hrule := hbel.rule
          have hi1 : (i : Int) < (n : Int) := by omega
          have hi2 : (j : Int) < (n : Int) := by omega
          generalize ent m i j = X at *
          clear hv hst hnew hA2 hbel
          go_wp2
          go_still_tail 13, (by kernel_rfl)
          go_wp2
          go_roundg (n - (j + 1))
          case measure => omega
          case rel => exact ⟨j + 1, by go_num, by omega, New.heap (OTab.kept _ _) Hst.out rfl, Hb3.out.drew⟩
        · have e : j = n := by omega
          subst e
          rw [turnF_next] at hnew
          go_wp2
          go_roundg (j - (i + 1))
          case measure => omega
          case rel => exact ⟨i + 1, by go_num, by omega, hnew, hbel⟩
    · have e : i = n := by omega
      subst e
      have Hn2 := Hn.out
      rw [turnF_end] at Hn2
      have Hn3 := Lib.hid Hn2
      clear Hn2
      go_wp2
      go_ret
      exact ⟨_, rfl, Hn3.out, Hb.out⟩

set_option maxHeartbeats 400000 in
theorem impl_TurnMatrix_c {w : World} {va : Value} {m : List (List Int)} (h1 : Tab w va m) :
    Calls Try.prog 55 #[va] w (Makes (OTab 3 50) w (turnV m)) := by
  have Hc := Lib.hid (impl_IsMatrix_c h1)
  cases hm : isMat m with
  | false =>
    have HV := Lib.hid (show turnV m = [] from by unfold turnV; rw [if_neg (by rw [hm]; simp)])
    rw [hm] at Hc
    obtain ⟨aa, ac, rfl, _, _, _⟩ := h1.shape
    clear h1 hm
    go_enter Try.func55, Try.ntmps55
    go_wp2_with fail
    refine Hc.out.mono ?_
    rintro e w' ⟨rfl, rfl⟩
    go_wp2
    go_ret
    exact ⟨_, rfl, by rw [HV.out]; exact New.nil _ _, Below.refl _ _⟩
  | true =>
    have HV := Lib.hid (show turnV m = turnT m m.length from by unfold turnV; rw [if_pos hm])
    rw [hm] at Hc
    have sm := isMat_sq hm
    have Ht := Lib.hid (turned_c h1 sm.1 (by omega) sm.2.2)
    obtain ⟨aa, ac, rfl, _, _, _⟩ := h1.shape
    clear h1 hm sm
    go_enter Try.func55, Try.ntmps55
    go_wp2_with fail
    refine Hc.out.mono ?_
    rintro e w' ⟨rfl, rfl⟩
    go_wp2_with fail
    refine Ht.out.mono ?_
    rintro e w1 ⟨v1, rfl, hn1, hb1⟩
    have Hn1 := Lib.hid hn1
    have Hb1 := Lib.hid hb1
    clear hn1 hb1
    go_wp2
    go_ret
    exact ⟨_, rfl, by rw [HV.out]; exact Hn1.out, Hb1.out⟩
set_option maxHeartbeats 400000 in
theorem spec_TurnMatrix_c {w : World} {va : Value} {m : List (List Int)} (h1 : Tab w va m) :
    Calls Try.prog 61 #[va] w (Makes (OTab 3 50) w (turnV m)) := by
  have Hc := Lib.hid (spec_IsMatrix_c h1)
  cases hm : isMat m with
  | false =>
    have HV := Lib.hid (show turnV m = [] from by unfold turnV; rw [if_neg (by rw [hm]; simp)])
    rw [hm] at Hc
    obtain ⟨aa, ac, rfl, _, _, _⟩ := h1.shape
    clear h1 hm
    go_enter Try.func61, Try.ntmps61
    go_wp2_with fail
    refine Hc.out.mono ?_
    rintro e w' ⟨rfl, rfl⟩
    go_wp2
    go_ret
    exact ⟨_, rfl, by rw [HV.out]; exact New.empty _ (Nat.le_refl _), (Below.refl _ _).alloc (Nat.le_refl _) _⟩
  | true =>
    have HV := Lib.hid (show turnV m = turnT m m.length from by unfold turnV; rw [if_pos hm])
    rw [hm] at Hc
    have sm := isMat_sq hm
    have Ht := Lib.hid (l4Turn_c h1 sm.1 (by omega) sm.2.2)
    obtain ⟨aa, ac, rfl, _, _, _⟩ := h1.shape
    clear h1 hm sm
    go_enter Try.func61, Try.ntmps61
    go_wp2_with fail
    refine Hc.out.mono ?_
    rintro e w' ⟨rfl, rfl⟩
    go_wp2_with fail
    refine Ht.out.mono ?_
    rintro e w1 ⟨v1, rfl, hn1, hb1⟩
    have Hn1 := Lib.hid hn1
    have Hb1 := Lib.hid hb1
    clear hn1 hb1
    go_wp2
    go_ret
    exact ⟨_, rfl, by rw [HV.out]; exact Hn1.out, Hb1.out⟩
end Go.Proofs.Ytdohepngandajaa
