/-
  SplitPair, both sides.
-/
import Derived.Test.YtiecliglmfampaaRows
import Derived.Test.YtiecliglmfampaaBase
import Derived.Test.YtiecliglmfampaaTabs
import Derived.Test.YtiecliglmfampaaMat
import Derived.Test.YtiecliglmfampaaZero
import Derived.Test.YtiecliglmfampaaApart
import Derived.Test.YtiecliglmfampaaSplit
import Derived.Test.YtiecliglmfampaaSplitOut
import Derived.Test.YtiecliglmfampaaSplitSpec
import Derived.Test.YtiecliglmfampaaPairLib
import Derived.Test.YtiecliglmfampaaPairM
import Derived.Test.YtiecliglmfampaaJoinSpec
namespace Go.Proofs.Ytiecliglmfampaa
open Go.RowKit Go.Deep Go.Sd

set_option maxHeartbeats 400000 in
theorem impl_SplitPair_c {w : World} {va vp : Value} {m : List (List Int)} {P : List Int} {i : Int} (h1 : Tab w va m) (h2 : Ints w vp P) :
    Calls Try.prog 26 #[va, .int .i64 i, vp] w (Makes3 (OTab 3 23) (OTab 3 23) w (pairRV m i P) (pairSV m i P) (splitOk m i P)) := by
  have Hc := Lib.hid (impl_SplitOut_c (i := i) h1 h2)
  cases hok : splitOk m i P with
  | false =>
    rw [pairRV_no hok, pairSV_no hok]
    rw [hok] at Hc
    obtain ⟨_, _, rfl, _, _, _⟩ := h1.shape
    obtain ⟨_, _, rfl, _, _, _⟩ := h2.shape
    clear h1 h2 hok
    go_enter Try.func26, Try.ntmps26
    go_wp2_with fail
    refine Hc.out.mono ?_
    rintro e w1 ⟨v1, rfl, hn1, hb1⟩
    have Hb1 := Lib.hid hb1
    clear hn1 hb1
    go_wp2
    go_ret3
    exact ⟨_, _, rfl, Apart.nils _ _, Hb1.out⟩
  | true =>
    obtain ⟨I, n, rfl, hn, hI, hn8, hp, eT, eR, eS⟩ := splitOk_of hok
    rw [eR, eS]
    rw [eT, hok] at Hc
    obtain ⟨aa, ac, rfl, _, _, _⟩ := h1.shape
    obtain ⟨pa, pc, rfl, _, _, _⟩ := h2.shape
    have hac : n ≤ 9223372036854775807 := by omega
    rw [hn, hp] at Hc ⊢
    clear h1 h2 hok eT eR eS hn hp
    go_enter Try.func26, Try.ntmps26
    go_wp2_with fail
    refine Hc.out.mono ?_
    rintro e w1 ⟨v1, rfl, hn1, hb1⟩
    have hz1 := hb1.size
    obtain ⟨ob, oo, oc, rfl, hob, hoe⟩ := hn1.tab.entAt (n := n + 1) (splitT_len _ _ _ _) (splitT_sq m I P n).2 (by omega)
    have Hb1 := Lib.hid hb1
    clear hn1 hb1 Hc
    go_wp2
    go_loopg [11, 30] n (fun g v ii wr => ∃ (k : Nat), ii = .int .i64 k ∧ k + g = n ∧ Apart (OTab 3 23) (OTab 3 23) w1.heap.size wr v ((pairR n I).take k) (.slice (some ⟨w1.heap.size + 1, 0, none⟩) 0 0) [] ∧ Below w1.heap.size w1 wr)
    case atStart => exact ⟨0, rfl, by omega, Apart.empties (OInts.kept _) w1 (Nat.le_refl _), ((Below.refl _ _).alloc (Nat.le_refl _) _).alloc (by simp) _⟩
    case round =>
      obtain ⟨k, rfl, hk, hap, hbel⟩ := hrel
      by_cases hlt : k < n
      · have hle := hbel.size
        obtain ⟨qa, qn, qc, rfl⟩ := hap.left.slice
        have Ha := Lib.hid hap
        have Hb := Lib.hid hbel
        have Hs := Lib.hid (show _ = _ from take_snoc' (show (pairR n I)[k]? = some (rowOf' (n + 1) (pairE n I k)) from tabOf_at hlt))
        have Hlk := Lib.hid (show ((pairR n I).take k).length ≤ n from by rw [List.length_take]; omega)
        clear hap hbel
        by_cases hkI : k = I
        · have t1 : ((k : Int) == (I : Int)) = true := by simp [hkI]
          have Hrow := Lib.hid (show ((List.replicate (n + 1) (0 : Int)).set k 1).set n 1 = rowOf' (n + 1) (pairE n I k) from by rw [hkI]; exact pairRow_split hI)
          clear hkI
          have Hm := Lib.hid (show ∀ wm : World, New (OInts 3) wr.heap.size wm (.slice (some ⟨wr.heap.size, 0, none⟩) (n + 1) (n + 1)) (List.replicate (n + 1) (0 : Int)) → Below wr.heap.size wr wm → wm.cell? ⟨wr.heap.size, k, none⟩ = some (.int .i64 0) ∧ wm.frozen? ⟨wr.heap.size, k, none⟩ = false ∧ (wm.setCell ⟨wr.heap.size, k, none⟩ (.int .i64 1)).cell? ⟨wr.heap.size, n, none⟩ = some (.int .i64 0) ∧ (wm.setCell ⟨wr.heap.size, k, none⟩ (.int .i64 1)).frozen? ⟨wr.heap.size, n, none⟩ = false ∧ ∃ xa xn xc w', (Builtin.append_ #[22, 22] 22 #[.slice qa qn qc, .slice (some ⟨wm.heap.size, 0, none⟩) 1 1]).run Try.prog (((wm.setCell ⟨wr.heap.size, k, none⟩ (.int .i64 1)).setCell ⟨wr.heap.size, n, none⟩ (.int .i64 1)).alloc (.cells #[(.slice (some ⟨wr.heap.size, 0, none⟩) (n + 1) (n + 1))] 23)) = .ok (.slice xa xn xc) w' ∧ Apart (OTab 3 23) (OTab 3 23) w1.heap.size w' (.slice xa xn xc) ((pairR n I).take (k + 1)) (.slice (some ⟨w1.heap.size + 1, 0, none⟩) 0 0) [] ∧ Below w1.heap.size wr w' from by
            intro wm hn hb
            have hz := hb.size
            obtain ⟨b1, c1, hv1, _, hl1, _, hc1, hf1, hst1⟩ := New.int_at (xs := List.replicate (n + 1) 0) hn (i := k) (x := 0) (by rw [List.getElem?_replicate, if_pos (by omega)])
            obtain rfl : wr.heap.size = b1 := by simp at hv1; exact hv1.1
            have h2 := hst1 1
            obtain ⟨b2, c2, hv2, _, hl2, _, hc2, hf2, hst2⟩ := h2.int_at (i := n) (x := 0) (by rw [List.getElem?_set_ne (by omega), List.getElem?_replicate, if_pos (by omega)])
            obtain rfl : wr.heap.size = b2 := by simp at hv2; exact hv2.1
            have h3 := hst2 1
            rw [Hrow.out] at h3
            obtain ⟨v', w', hr, hap', hb'⟩ := Apart.grow (P := Try.prog) (OInts.kept _) (OTab.kept _ _) 22 22 (.slice none 0 0) 24 Try.underlying22 infoR rfl Ha.out hle (w1 := ((wm.setCell ⟨wr.heap.size, k, none⟩ (.int .i64 1)).setCell ⟨wr.heap.size, n, none⟩ (.int .i64 1)).alloc (.cells #[(.slice (some ⟨wr.heap.size, 0, none⟩) (n + 1) (n + 1))] 23)) (((hb.setCell (p := ⟨wr.heap.size, k, none⟩) (Nat.le_refl _) _).setCell (p := ⟨wr.heap.size, n, none⟩) (Nat.le_refl _) _).alloc (by simp; omega) _) (New.keep (OInts.kept _) h3 ((Below.refl _ _).alloc (Nat.le_refl _) _) (Nat.le_refl _)) (bb := wm.heap.size) (c := 1) (World.cell?_alloc_at _ _ _ 0 (by simp)) (by have := Hlk.out; omega) (by have := Hlk.out; omega)
            rw [Hs.out] at hap'
            obtain ⟨xa, xn, xc, rfl⟩ := hap'.left.slice
            exact ⟨hc1, hf1, hc2, hf2, _, _, _, w', hr, hap', hb'⟩)
          clear Hrow Ha
          go_wp2_with (first
            | (at_make; refine wpl_make (R := OIntR) rfl (.tmp 34) (.tmp 34) 23 rfl 3 (.int .i64 0) 8 Try.underlying23 infoI rfl (n + 1) (by rfl) (by rfl) (by omega) (by omega) OIntR.zero ?_; intro wm hzm hnm hbm; obtain ⟨hc1, hf1, hc2, hf2, ya, yn, yc, w', hr, hap, hb'⟩ := Hm.out wm hnm hbm; have Hr := Lib.hid hr; have Hap := Lib.hid hap; have Hb' := Lib.hid (Hb.out.trans hb'); clear hzm hnm hbm hr hap hb')
            | (at_builtin; refine wpl_append_run rfl (.tmp 46) (.tmp 48) 22 rfl rfl rfl Hr.out ?_)
            | fail)
          go_roundg (n - (k + 1))
          case measure => omega
          case rel => exact ⟨k + 1, by go_num, by omega, Hap.out, Hb'.out⟩
        · have t1 : ((k : Int) == (I : Int)) = false := by simp; omega
          have Hrow := Lib.hid (show (List.replicate (n + 1) (0 : Int)).set k 1 = rowOf' (n + 1) (pairE n I k) from pairRow_other hlt hkI)
          clear hkI
          have Hm := Lib.hid (show ∀ wm : World, New (OInts 3) wr.heap.size wm (.slice (some ⟨wr.heap.size, 0, none⟩) (n + 1) (n + 1)) (List.replicate (n + 1) (0 : Int)) → Below wr.heap.size wr wm → wm.cell? ⟨wr.heap.size, k, none⟩ = some (.int .i64 0) ∧ wm.frozen? ⟨wr.heap.size, k, none⟩ = false ∧ ∃ xa xn xc w', (Builtin.append_ #[22, 22] 22 #[.slice qa qn qc, .slice (some ⟨wm.heap.size, 0, none⟩) 1 1]).run Try.prog ((wm.setCell ⟨wr.heap.size, k, none⟩ (.int .i64 1)).alloc (.cells #[(.slice (some ⟨wr.heap.size, 0, none⟩) (n + 1) (n + 1))] 23)) = .ok (.slice xa xn xc) w' ∧ Apart (OTab 3 23) (OTab 3 23) w1.heap.size w' (.slice xa xn xc) ((pairR n I).take (k + 1)) (.slice (some ⟨w1.heap.size + 1, 0, none⟩) 0 0) [] ∧ Below w1.heap.size wr w' from by
            intro wm hn hb
            have hz := hb.size
            obtain ⟨b1, c1, hv1, _, hl1, _, hc1, hf1, hst1⟩ := New.int_at (xs := List.replicate (n + 1) 0) hn (i := k) (x := 0) (by rw [List.getElem?_replicate, if_pos (by omega)])
            obtain rfl : wr.heap.size = b1 := by simp at hv1; exact hv1.1
            have h2 := hst1 1
            have h3 := h2
            rw [Hrow.out] at h3
            obtain ⟨v', w', hr, hap', hb'⟩ := Apart.grow (P := Try.prog) (OInts.kept _) (OTab.kept _ _) 22 22 (.slice none 0 0) 24 Try.underlying22 infoR rfl Ha.out hle (w1 := (wm.setCell ⟨wr.heap.size, k, none⟩ (.int .i64 1)).alloc (.cells #[(.slice (some ⟨wr.heap.size, 0, none⟩) (n + 1) (n + 1))] 23)) ((hb.setCell (p := ⟨wr.heap.size, k, none⟩) (Nat.le_refl _) _).alloc (by simp; omega) _) (New.keep (OInts.kept _) h3 ((Below.refl _ _).alloc (Nat.le_refl _) _) (Nat.le_refl _)) (bb := wm.heap.size) (c := 1) (World.cell?_alloc_at _ _ _ 0 (by simp)) (by have := Hlk.out; omega) (by have := Hlk.out; omega)
            rw [Hs.out] at hap'
            obtain ⟨xa, xn, xc, rfl⟩ := hap'.left.slice
            exact ⟨hc1, hf1, _, _, _, w', hr, hap', hb'⟩)
          clear Hrow Ha
          go_wp2_with (first
            | (at_make; refine wpl_make (R := OIntR) rfl (.tmp 34) (.tmp 34) 23 rfl 3 (.int .i64 0) 8 Try.underlying23 infoI rfl (n + 1) (by rfl) (by rfl) (by omega) (by omega) OIntR.zero ?_; intro wm hzm hnm hbm; obtain ⟨hc1, hf1, ya, yn, yc, w', hr, hap, hb'⟩ := Hm.out wm hnm hbm; have Hr := Lib.hid hr; have Hap := Lib.hid hap; have Hb' := Lib.hid (Hb.out.trans hb'); clear hzm hnm hbm hr hap hb')
            | (at_builtin; refine wpl_append_run rfl (.tmp 46) (.tmp 48) 22 rfl rfl rfl Hr.out ?_)
            | fail)
          go_roundg (n - (k + 1))
          case measure => omega
          case rel => exact ⟨k + 1, by go_num, by omega, Hap.out, Hb'.out⟩
      · have e : k = n := by omega
        subst e
        rw [show (pairR k I).take k = pairR k I from tabOf_full] at hap
        obtain ⟨n, rfl⟩ : ∃ n : Nat, n = k := ⟨_, rfl⟩
        obtain ⟨w2, rfl⟩ : ∃ w2 : World, w2 = wr := ⟨_, rfl⟩
        obtain ⟨ra, rn, rc', rfl⟩ := hap.left.slice
        have Ha := Lib.hid hap.symm
        have Hb2 := Lib.hid hbel
        clear hap hbel hk
        go_wp2
        go_loopg [12, 53] (n + 1) (fun g v ii wr => ∃ (k : Nat), ii = .int .i64 k ∧ k + g = n + 1 ∧ Apart (OTab 3 23) (OTab 3 23) w1.heap.size wr v ((pairS m I P n).take k) (.slice ra rn rc') (pairR n I) ∧ Below w1.heap.size w1 wr)
        case atStart => exact ⟨0, rfl, by omega, Ha.out, Hb2.out⟩
        case round =>
          obtain ⟨k, rfl, hk, hap, hbel⟩ := hrel
          clear Ha Hb2
          have hle := hbel.size
          obtain ⟨qa, qn, qc, rfl⟩ := hap.left.slice
          have Ha := Lib.hid hap
          have Hb := Lib.hid hbel
          by_cases hlt : k < n + 1
          · obtain ⟨rb, ro, rc, hA1, hrb, hA4, hA2⟩ := hoe.at hlt (by omega)
            have hcap := Ints.capn hA4
            have Hcl := Lib.hid (show Ints wr (.slice (some ⟨rb, ro, none⟩) n rc) (rowOf' n (splitR m I P n k)) from by
              have h := Ints.part (w := w1) (b := rb) (o := ro) (l := n + 1) (g := fun j => ent (splitT m I P n) k j) hA2 hrb (s := 0) (len := n) (c := rc) (by omega) (by omega) (by omega)
              rw [Nat.add_zero, rowOf_congr (g := splitR m I P n k) fun j hj => by rw [Nat.zero_add]; exact ent_splitT hlt hj] at h
              exact Ints.frame _ _ _ _ h (hbel.mono (Nat.le_refl _)))
            have hrule := hbel.rule
            have hc1 : n ≤ rc := by omega
            have hc2 : (n : Int) ≤ (rc : Int) := by omega
            have Hs := Lib.hid (show _ = _ from take_snoc' (show (pairS m I P n)[k]? = some (rowOf' n (splitR m I P n k)) from tabOf_at hlt))
            have Hlk := Lib.hid (show ((pairS m I P n).take k).length ≤ n + 1 from by rw [List.length_take]; omega)
            have Hm := Lib.hid (show ∀ wm ya yn yc, New (OInts 3) wr.heap.size wm (.slice ya yn yc) (rowOf' n (splitR m I P n k)) → Below wr.heap.size wr wm → ∃ xa xn xc w', (Builtin.append_ #[22, 22] 22 #[.slice qa qn qc, .slice (some ⟨wm.heap.size, 0, none⟩) 1 1]).run Try.prog (wm.alloc (.cells #[.slice ya yn yc] 23)) = .ok (.slice xa xn xc) w' ∧ Apart (OTab 3 23) (OTab 3 23) w1.heap.size w' (.slice xa xn xc) ((pairS m I P n).take (k + 1)) (.slice ra rn rc') (pairR n I) ∧ Below w1.heap.size wr w' from by
              intro wm ya yn yc hn hb
              have hz := hb.size
              obtain ⟨v', w', hr, hap', hb'⟩ := Apart.grow (P := Try.prog) (OInts.kept _) (OTab.kept _ _) 22 22 (.slice none 0 0) 24 Try.underlying22 infoR rfl Ha.out hle (w1 := wm.alloc (.cells #[.slice ya yn yc] 23)) (hb.alloc (by omega) _) (New.keep (OInts.kept _) hn ((Below.refl _ _).alloc (Nat.le_refl _) _) (Nat.le_refl _)) (bb := wm.heap.size) (c := 1) (World.cell?_alloc_at _ _ _ 0 rfl) (by have := Hlk.out; omega) (by have := Hlk.out; omega)
              rw [Hs.out] at hap'
              obtain ⟨xa, xn, xc, rfl⟩ := hap'.left.slice
              exact ⟨_, _, _, w', hr, hap', hb'⟩)
            clear hap hbel hA4 hA2 hoe Ha hcap
            go_wp2_with (first
              | (go_at_call 60; refine (clone_c Hcl.out (by rw [rowOf_len]; omega)).mono ?_; rintro e wm ⟨um, rfl, hnm, hbm⟩; obtain ⟨ya, yn, yc, rfl⟩ := hnm.slice; obtain ⟨xa, xn, xc, w', hr, hap, hb'⟩ := Hm.out wm ya yn yc hnm hbm; have Hr := Lib.hid hr; have Hap := Lib.hid hap; have Hb' := Lib.hid (Hb.out.trans hb'); clear hnm hbm hr hap hb')
              | (at_builtin; refine wpl_append_run rfl (.tmp 57) (.tmp 63) 22 rfl rfl rfl Hr.out ?_)
              | fail)
            go_roundg (n + 1 - (k + 1))
            case measure => omega
            case rel => exact ⟨k + 1, by go_num, by omega, Hap.out, Hb'.out⟩
          · have e : k = n + 1 := by omega
            subst e
            rw [show (pairS m I P n).take (n + 1) = pairS m I P n from tabOf_full] at hap
            have Hf := Lib.hid (hap.symm.mono hz1)
            have Hbf := Lib.hid (Hb1.out.trans (hbel.mono hz1))
            clear hap hbel Ha Hb hk
            go_wp2
            go_ret3
            exact ⟨_, _, rfl, Hf.out, Hbf.out⟩
set_option maxHeartbeats 1000000 in
theorem spec_SplitPair_c {w : World} {va vp : Value} {m : List (List Int)} {P : List Int} {i : Int} (h1 : Tab w va m) (h2 : Ints w vp P) :
    Calls Try.prog 25 #[va, .int .i64 i, vp] w (Makes3 (OTab 3 23) (OTab 3 23) w (pairRV m i P) (pairSV m i P) (splitOk m i P)) := by
  have Hc := Lib.hid (spec_SplitOut_c (i := i) h1 h2)
  cases hok : splitOk m i P with
  | false =>
    rw [pairRV_no hok, pairSV_no hok]
    rw [hok] at Hc
    obtain ⟨_, _, rfl, _, _, _⟩ := h1.shape
    obtain ⟨_, _, rfl, _, _, _⟩ := h2.shape
    clear h1 h2 hok
    go_enter Try.func25, Try.ntmps25
    go_wp2_with fail
    refine Hc.out.mono ?_
    rintro e w1 ⟨v1, rfl, hn1, hb1⟩
    have Hb1 := Lib.hid hb1
    clear hn1 hb1
    go_wp2
    go_ret3
    exact ⟨_, _, rfl, Apart.empties (OInts.kept _) _ Hb1.out.size, (Hb1.out.alloc Hb1.out.size _).alloc (by have := Hb1.out.size; simp; omega) _⟩
  | true =>
    obtain ⟨I, n, rfl, hn, hI, hn8, hp, eT, eR, eS⟩ := splitOk_of hok
    rw [eR, eS]
    rw [eT, hok] at Hc
    obtain ⟨aa, ac, rfl, _, _, _⟩ := h1.shape
    obtain ⟨pa, pc, rfl, _, _, _⟩ := h2.shape
    have hac : n ≤ 9223372036854775807 := by omega
    rw [hn, hp] at Hc ⊢
    clear h1 h2 hok eT eR eS hn hp
    go_enter Try.func25, Try.ntmps25
    go_wp2_with fail
    refine Hc.out.mono ?_
    rintro e w1 ⟨v1, rfl, hn1, hb1⟩
    have hz1 := hb1.size
    obtain ⟨ob, oo, oc, rfl, hob, hoe⟩ := hn1.tab.entAt (n := n + 1) (splitT_len _ _ _ _) (splitT_sq m I P n).2 (by omega)
    have Hb1 := Lib.hid hb1
    have Hz := Lib.hid (l4Zero_c (w := w1) (p := n) (r := n + 1) (by omega) (by omega))
    clear hn1 hb1 Hc
    go_wp2_with fail
    refine Hz.out.mono ?_
    rintro e w2 ⟨v2, rfl, hn2, hb2⟩
    rw [← pairD_start n] at hn2
    have ha0 := Apart.of_new (lo := w1.heap.size) (OTab.kept _ _) hn2 (New.empty (e := 23) (R := OInts 3) (lo := w2.heap.size) w2 (Nat.le_refl _)) ((Below.refl _ _).alloc (Nat.le_refl _) _) hb2.size
    obtain ⟨gb, gc, _, _, hv2, _, hgb, hgb2, _⟩ := ha0.tab_store (OTab.kept _ _) (pairD_row (show I < n from hI)) (j := 0) (x := _) (rowOf_at (by omega))
    rw [show (pairD n 0).length = n from tabOf_len _ _ _] at hv2
    subst hv2
    have Ha0 := Lib.hid ha0
    have Hb2 := Lib.hid (hb2.alloc hb2.size (.cells #[] 23))
    clear hn2 hb2 ha0 Hz
    go_wp2
    go_loopg [13] n (fun g ii wr => ∃ (k : Nat), ii = .int .i64 k ∧ k + g = n ∧ Apart (OTab 3 23) (OTab 3 23) w1.heap.size wr (.slice (some ⟨gb, 0, none⟩) n gc) (pairD n k) (.slice (some ⟨w2.heap.size, 0, none⟩) 0 0) [] ∧ Below w1.heap.size w1 wr)
    case atStart => exact ⟨0, rfl, by omega, Ha0.out, Hb2.out⟩
    case round =>
      obtain ⟨k, rfl, hk, hap, hbel⟩ := hrel
      clear Ha0 Hb2
      by_cases hlt : k < n
      · obtain ⟨b', c', rb, rc, hv, _, hlb, hltb, hcl, _, hlrb, hrb, hce, hfr, hst⟩ := hap.tab_store (OTab.kept _ _) (pairD_row hlt) (j := k) (x := 0) (by rw [rowOf_at (by omega), if_neg (by omega)])
        obtain rfl : b' = gb := by simp at hv; exact hv.1.symm
        rw [rowOf_len] at hcl
        have Hst := Lib.hid (by have := hst 1; rw [pairD_set] at this; exact this)
        have Hb3 := Lib.hid (hbel.setCell (p := ⟨rb, k, none⟩) hlrb (.int .i64 1))
        clear hv hst hap hbel
        go_wp2
        go_roundg (n - (k + 1))
        case measure => omega
        case rel => exact ⟨k + 1, by go_num, by omega, Hst.out, Hb3.out⟩
      · have e : k = n := by omega
        subst e
        obtain ⟨n, rfl⟩ : ∃ n : Nat, n = k := ⟨_, rfl⟩
        obtain ⟨b', c', rb, rc, hv, _, hlb, hltb, hcl, _, hlrb, hrb, hce, hfr, hst⟩ := hap.tab_store (OTab.kept _ _) (pairD_row hI) (j := n) (x := 0) (by rw [rowOf_at (by omega), if_neg (by omega)])
        obtain rfl : b' = gb := by simp at hv; exact hv.1.symm
        rw [rowOf_len] at hcl
        have Ha := Lib.hid (by have := hst 1; rw [pairD_last hI] at this; exact this.symm)
        have Hb2 := Lib.hid (hbel.setCell (p := ⟨rb, n, none⟩) hlrb (.int .i64 1))
        clear hv hst hap hbel hk
        go_wp2
        go_loopg [12, 14] (n + 1) (fun g v ii wr => ∃ (k : Nat), ii = .int .i64 k ∧ k + g = n + 1 ∧ Apart (OTab 3 23) (OTab 3 23) w1.heap.size wr v ((pairS m I P n).take k) (.slice (some ⟨b', 0, none⟩) n gc) (pairR n I) ∧ Below w1.heap.size w1 wr)
        case atStart => exact ⟨0, rfl, by omega, Ha.out, Hb2.out⟩
        case round =>
          obtain ⟨k, rfl, hk, hap, hbel⟩ := hrel
          clear Ha Hb2
          have hle := hbel.size
          obtain ⟨qa, qn, qc, rfl⟩ := hap.left.slice
          have Ha := Lib.hid hap
          have Hb := Lib.hid hbel
          by_cases hlt : k < n + 1
          · obtain ⟨rb, ro, rc, hA1, hrb, hA4, hA2⟩ := hoe.at hlt (by omega)
            have hcap := Ints.capn hA4
            have Hsrc := Lib.hid (show SlOf (ValR (Value.int .i64)) (wr.alloc (.cells #[] 3)) (.slice (some ⟨rb, ro, none⟩) n rc) (rowOf' n (splitR m I P n k)) from by
              have h := Ints.part (w := w1) (b := rb) (o := ro) (l := n + 1) (g := fun j => ent (splitT m I P n) k j) hA2 hrb (s := 0) (len := n) (c := rc) (by omega) (by omega) (by omega)
              rw [Nat.add_zero, rowOf_congr (g := splitR m I P n k) fun j hj => by rw [Nat.zero_add]; exact ent_splitT hlt hj] at h
              exact Ints.frame _ _ _ _ (Ints.frame _ _ _ _ h (hbel.mono (Nat.le_refl _))) ((Below.refl _ _).alloc (Nat.le_refl _) _))
            have hob2 : ob < wr.heap.size := by omega
            have hA5 : wr.cell? ⟨ob, oo + k, none⟩ = some (.slice (some ⟨rb, ro, none⟩) (n + 1) rc) := (hbel.rule ob (oo + k) hob).trans hA1
            have hc1 : n ≤ rc := by omega
            have hc2 : (n : Int) ≤ (rc : Int) := by omega
            have Hs := Lib.hid (show _ = _ from take_snoc' (show (pairS m I P n)[k]? = some (rowOf' n (splitR m I P n k)) from tabOf_at hlt))
            have Hlk := Lib.hid (show ((pairS m I P n).take k).length ≤ n + 1 from by rw [List.length_take]; omega)
            have Hm := Lib.hid (show ∀ wm ya yn yc, New (OInts 3) wr.heap.size wm (.slice ya yn yc) (rowOf' n (splitR m I P n k)) → Below wr.heap.size wr wm → ∃ xa xn xc w', (Builtin.append_ #[22, 22] 22 #[.slice qa qn qc, .slice (some ⟨wm.heap.size, 0, none⟩) 1 1]).run Try.prog (wm.alloc (.cells #[.slice ya yn yc] 23)) = .ok (.slice xa xn xc) w' ∧ Apart (OTab 3 23) (OTab 3 23) w1.heap.size w' (.slice xa xn xc) ((pairS m I P n).take (k + 1)) (.slice (some ⟨b', 0, none⟩) n gc) (pairR n I) ∧ Below w1.heap.size wr w' from by
              intro wm ya yn yc hn hb
              have hz := hb.size
              obtain ⟨v', w', hr, hap', hb'⟩ := Apart.grow (P := Try.prog) (OInts.kept _) (OTab.kept _ _) 22 22 (.slice none 0 0) 24 Try.underlying22 infoR rfl Ha.out hle (w1 := wm.alloc (.cells #[.slice ya yn yc] 23)) (hb.alloc (by omega) _) (New.keep (OInts.kept _) hn ((Below.refl _ _).alloc (Nat.le_refl _) _) (Nat.le_refl _)) (bb := wm.heap.size) (c := 1) (World.cell?_alloc_at _ _ _ 0 rfl) (by have := Hlk.out; omega) (by have := Hlk.out; omega)
              rw [Hs.out] at hap'
              obtain ⟨xa, xn, xc, rfl⟩ := hap'.left.slice
              exact ⟨_, _, _, w', hr, hap', hb'⟩)
            clear hap hbel hA4 hA2 hoe Ha hcap hA1
            go_wp2_with (first
              | (at_builtin; refine wpl_append_vals (f := Value.int .i64) (fun _ => rfl) rfl (.tmp 58) (.tmp 65) 23 rfl 3 (.int .i64 0) 8 Try.underlying23 infoI rfl (New.empty (R := OValR (Value.int .i64)) (lo := wr.heap.size) wr (Nat.le_refl _)) (by simp) Hsrc.out rfl rfl (by rw [rowOf_len]; simp; omega) (by rw [rowOf_len]; simp; omega) ?_; intro um wm hnm _ _ hbm; obtain ⟨ya, yn, yc, rfl⟩ := hnm.slice; obtain ⟨xa, xn, xc, w', hr, hap, hb'⟩ := Hm.out wm ya yn yc hnm (((Below.refl wr.heap.size wr).alloc (Nat.le_refl _) (.cells #[] 3)).trans hbm); have Hr := Lib.hid hr; have Hap := Lib.hid hap; have Hb' := Lib.hid (Hb.out.trans hb'); clear hnm hbm hr hap hb' Hm)
              | (at_builtin; refine wpl_append_run rfl (.tmp 57) (.tmp 67) 22 rfl rfl rfl Hr.out ?_)
              | fail)
            go_roundg (n + 1 - (k + 1))
            case measure => omega
            case rel => exact ⟨k + 1, by go_num, by omega, Hap.out, Hb'.out⟩
          · have e : k = n + 1 := by omega
            subst e
            rw [show (pairS m I P n).take (n + 1) = pairS m I P n from tabOf_full] at hap
            have Hf := Lib.hid (hap.symm.mono hz1)
            have Hbf := Lib.hid (Hb1.out.trans (hbel.mono hz1))
            clear hap hbel Ha Hb hk
            go_wp2
            go_ret3
            exact ⟨_, _, rfl, Hf.out, Hbf.out⟩
end Go.Proofs.Ytiecliglmfampaa
