/-
  Products of tables, the program's and the reference's.
-/
import Derived.Test.YtdohepngandajaaRows
import Derived.Test.YtdohepngandajaaBase
import Derived.Test.YtdohepngandajaaTabs
import Derived.Test.YtdohepngandajaaZero
import Derived.StillTailTactics
namespace Go.Proofs.Ytdohepngandajaa
open Go.RowKit Go.Deep Go.Sd

set_option maxHeartbeats 2000000 in
theorem times_c {w : World} {va vb : Value} {a b : List (List Int)} {p q r : Nat} (h1 : Tab w va a) (h2 : Tab w vb b) (hap : a.length = p) (har : ∀ x, x ∈ a → x.length = q) (hbp : b.length = q) (hbr : ∀ x, x ∈ b → x.length = r)
    (hp0 : 0 < p) (hq0 : 0 < q) (hr0 : 0 < r) (hp : p ≤ 9) (hq : q ≤ 9) (hr : r ≤ 9) (ba : Bd 1000000 a) (bb : Bd 1000000 b) :
    Calls Try.prog 188 #[va, vb] w (Makes (OTab 3 50) w (prodT a b p q r)) := by
  obtain ⟨ab, ao, ac, rfl, hab, hae⟩ := h1.entAt hap har hp0
  obtain ⟨bb', bo, bc, rfl, hbb, hbe⟩ := h2.entAt hbp hbr hq0
  have Hd := Lib.hid (fun i j (hi : i < p) (hj : j < r) => dotU_bd ba bb hap har hbp hbr hi hj)
  have Hm := Lib.hid (fun i j k (hi : i < p) (hj : j < r) (hk : k < q) => mul_bd (ba.ent har (by omega : i < a.length) hk) (bb.ent hbr (by omega : k < b.length) hj))
  have hmk := run_make_row' (P := Try.prog) 50 3 (.int .i64 0) 8 Try.underlying50 infoI rfl .i64 .i64 r (by omega) (by omega)
  clear h1 h2 hap har hbp hbr ba bb
  go_enter Try.func188, Try.ntmps188
  go_wp2
  go_loopg [5, 16] p (fun g v ii wr => ∃ (i : Nat), ii = .int .i64 i ∧ i + g = p ∧ New (OTab 3 50) w.heap.size wr v ((prodT a b p q r).take i) ∧ Below w.heap.size w wr)
  case atStart => exact ⟨0, rfl, by omega, New.empty w (Nat.le_refl _), (Below.refl _ _).alloc (Nat.le_refl _) _⟩
  case round =>
    obtain ⟨i, rfl, hi, hnew, hbel⟩ := hrel
    obtain ⟨wo, rfl⟩ : ∃ wo : World, wo = wr := ⟨_, rfl⟩
    by_cases hlt : i < p
    · have hle := hbel.size
      have hae1 := hae.frame hab hbel
      have hbe1 := hbe.frame hbb hbel
      obtain ⟨rb, ro, rc, hA1, hrb, _, hA2⟩ := hae1.at hlt hq0
      obtain ⟨zb, zo, zc, hB1, hzb, _, _⟩ := hbe1.at hq0 hr0
      have hab' : ab < wo.heap.size := by omega
      have hbb'' : bb' < wo.heap.size := by omega
      have hB1' : wo.cell? ⟨bb', bo, none⟩ = some (.slice (some ⟨zb, zo, none⟩) r zc) := hB1
      have Hn := Lib.hid hnew
      have Hb := Lib.hid hbel
      have hku : ((prodT a b p q r).take i).length = i := by unfold prodT; rw [List.length_take, tabOf_len]; omega
      have Hk := Lib.hid hku
      clear hnew hbel hae hbe hae1 hku hB1
      go_wp2
      go_loopg [27] q (fun g kk wi => ∃ (k : Nat), kk = .int .i64 k ∧ k + g = q ∧ New (OInts 3) wo.heap.size wi (.slice (some ⟨wo.heap.size, 0, none⟩) r r) (lineF a b i r k 0) ∧ Below wo.heap.size wo wi)
      case atStart => exact ⟨0, rfl, by omega, by rw [lineF_start]; exact New.made 3 wo (.int .i64 0) 0 r (Nat.le_refl _) (by omega) OIntR.zero, (Below.refl _ _).alloc (Nat.le_refl _) _⟩
      case round =>
        obtain ⟨k, rfl, hk, hnew, hbel⟩ := hrel
        obtain ⟨wi, rfl⟩ : ∃ wi : World, wi = wr := ⟨_, rfl⟩
        by_cases hlt2 : k < q
        · have hrule := hbel.rule
          have hA3 := hA2 k hlt2
          obtain ⟨sb, so, sc, hS1, hsb, _, hS2⟩ := hbe1.at hlt2 hr0
          have Hb2 := Lib.hid hbel
          have hi1 : (k : Int) < (q : Int) := by omega
          clear hA2 hbe1 hbel
          go_wp2
          go_loopg [37] r (fun g jj wj => ∃ (j : Nat), jj = .int .i64 j ∧ j + g = r ∧ New (OInts 3) wo.heap.size wj (.slice (some ⟨wo.heap.size, 0, none⟩) r r) (lineF a b i r k j) ∧ Below wo.heap.size wo wj)
          case atStart => exact ⟨0, rfl, by omega, hnew, Hb2.out⟩
          case round =>
            obtain ⟨j, rfl, hj, hnew3, hbel3⟩ := hrel
            clear hnew hrule
            by_cases hlt3 : j < r
            · have hrule := hbel3.rule
              have hS3 := hS2 j hlt3
              obtain ⟨b', c', hv, _, _, hlt', hcl, hfr, hst⟩ := hnew3.int_at (lineF_at hlt3)
              obtain rfl : b' = wo.heap.size := by simp at hv; exact hv.1.symm
              have Hst := Lib.hid (by have := hst (dotU a b i j (k + 1)); rw [lineF_set] at this; exact this)
              have hd1 := Hd.out i j hlt hlt3 k (by omega)
              have hm1 := Hm.out i j k hlt hlt3 hlt2
              have hd2 : dotU a b i j (k + 1) = dotU a b i j k + ent a i k * ent b k j := rfl
              obtain ⟨hd3, hd4⟩ := hd1
              obtain ⟨hm3, hm4⟩ := hm1
              have hk9 : (k : Int) ≤ 9 := by omega
              have Hb3 := Lib.hid (hbel3.setCell (p := ⟨wo.heap.size, j, none⟩) (Nat.le_refl _) (.int .i64 (dotU a b i j (k + 1))))
              rw [hd2] at Hst Hb3
              generalize dotU a b i j k = D at *
              generalize ent a i k = X at *
              generalize ent b k j = Y at *
              clear hv hst hnew3 hS2 hbel3 hd2
              go_wp2
              go_roundg (r - (j + 1))
              case measure => omega
              case rel => exact ⟨j + 1, by go_num, by omega, Hst.out, Hb3.out⟩
            · have e : j = r := by omega
              subst e
              rw [lineF_end] at hnew3
              go_wp2
              go_roundg (q - (k + 1))
              case measure => omega
              case rel => exact ⟨k + 1, by go_num, by omega, hnew3, hbel3⟩
        · have e : k = q := by omega
          subst e
          rw [lineF_full] at hnew
          have Hr := Lib.hid hnew
          have Hb2 := Lib.hid hbel
          have hle2 := hbel.size
          clear hnew hbel hA2 hbe1 hmk
          go_wp2_with (at_builtin; refine wpl_push (w0 := wo) (lo := w.heap.size) (OInts.kept _) rfl (.tmp 53) (.tmp 55) 41 rfl 50 (.slice none 0 0) 24 Try.underlying41 infoR rfl Hn.out hle (Hb2.out.alloc hle2 _) (New.keep (OInts.kept _) Hr.out ((Below.refl wi.heap.size _).alloc (Nat.le_refl _) _) (Nat.le_refl _)) (bb := wi.heap.size) (c := 1) (by simp) rfl rfl (by rw [Hk.out]; omega) (by rw [Hk.out]; omega) ?_; intro v1 w1 hn1 _ _ hb1)
          go_roundg (p - (i + 1))
          case measure => omega
          case rel => exact ⟨i + 1, by go_num, by omega, by unfold prodT at hn1 ⊢; rw [← tabOf_take hlt]; exact hn1, Hb.out.trans hb1⟩
    · have e : i = p := by omega
      subst e
      rw [show (prodT a b i q r).take i = prodT a b i q r from tabOf_full] at hnew
      clear hae hbe hmk
      go_wp2
      go_ret
      exact ⟨_, rfl, hnew, hbel⟩

set_option maxHeartbeats 2000000 in
set_option maxRecDepth 100000 in
theorem l4Times_c {w : World} {va vb : Value} {a b : List (List Int)} {p q r : Nat} (h1 : Tab w va a) (h2 : Tab w vb b) (hap : a.length = p) (har : ∀ x, x ∈ a → x.length = q) (hbp : b.length = q) (hbr : ∀ x, x ∈ b → x.length = r)
    (hp0 : 0 < p) (hq0 : 0 < q) (hr0 : 0 < r) (hp : p ≤ 9) (hq : q ≤ 9) (hr : r ≤ 9) (ba : Bd 1000000 a) (bb : Bd 1000000 b) :
    Calls Try.prog 189 #[va, vb, .int .i64 r] w (Makes (OTab 3 50) w (prodT a b p q r)) := by
  obtain ⟨ab, ao, ac, rfl, hab, hae⟩ := h1.entAt hap har hp0
  obtain ⟨bb', bo, bc, rfl, hbb, hbe⟩ := h2.entAt hbp hbr hq0
  have Hd := Lib.hid (fun i j (hi : i < p) (hj : j < r) => dotU_bd ba bb hap har hbp hbr hi hj)
  have Hm := Lib.hid (fun i j k (hi : i < p) (hj : j < r) (hk : k < q) => mul_bd (ba.ent har (by omega : i < a.length) hk) (bb.ent hbr (by omega : k < b.length) hj))
  have Hz := Lib.hid (l4Zero_c (w := w) (p := p) (r := r) (by omega) (by omega))
  clear h1 h2 hap har hbp hbr ba bb
  go_enter Try.func189, Try.ntmps189
  go_wp2_with fail
  refine Hz.out.mono ?_
  rintro e w1 ⟨v1, rfl, hn1, hb1⟩
  rw [← prodF_start a b p q r] at hn1
  obtain ⟨gb, gc, _, _, rfl, _, hgb, hgb2, _⟩ := hn1.tab_at (prodF_row hp0) (prodF_at hr0)
  rw [show (prodF a b p q r 0 0 0).length = p from tabOf_len _ _ _] at hn1 ⊢
  have Hn1 := Lib.hid hn1
  have Hb1 := Lib.hid hb1
  clear hn1 hb1 Hz
  go_wp2
  go_loopg [8] p (fun g ii wr => ∃ (i : Nat), ii = .int .i64 i ∧ i + g = p ∧ New (OTab 3 50) w.heap.size wr (.slice (some ⟨gb, 0, none⟩) p gc) (prodF a b p q r i 0 0) ∧ Below w.heap.size w wr)
  case atStart => exact ⟨0, rfl, by omega, Hn1.out, Hb1.out⟩
  case round =>
    obtain ⟨i, rfl, hi, hnew, hbel⟩ := hrel
    have Hn := Lib.hid hnew
    have Hb := Lib.hid hbel
    clear hnew hbel
    by_cases hlt : i < p
    · go_wp2
      go_loopg [9] r (fun g jj wr => ∃ (j : Nat), jj = .int .i64 j ∧ j + g = r ∧ New (OTab 3 50) w.heap.size wr (.slice (some ⟨gb, 0, none⟩) p gc) (prodF a b p q r i j 0) ∧ Below w.heap.size w wr)
      case atStart => exact ⟨0, rfl, by omega, Hn.out, Hb.out⟩
      case round =>
        clear Hn Hb
        obtain ⟨j, rfl, hj, hnew, hbel⟩ := hrel
        have Hn := Lib.hid hnew
        have Hb := Lib.hid hbel
        clear hnew hbel
        by_cases hlt2 : j < r
        · go_wp2
          go_loopg [10] q (fun g kk wr => ∃ (k : Nat), kk = .int .i64 k ∧ k + g = q ∧ New (OTab 3 50) w.heap.size wr (.slice (some ⟨gb, 0, none⟩) p gc) (prodF a b p q r i j k) ∧ Below w.heap.size w wr)
          case atStart => exact ⟨0, rfl, by omega, Hn.out, Hb.out⟩
          case round =>
            clear Hn Hb
            obtain ⟨k, rfl, hk, hnew, hbel⟩ := hrel
            by_cases hlt3 : k < q
            · obtain ⟨rb, ro, rc, hA1, hrb, _, hA2⟩ := hae.at hlt hq0
              obtain ⟨zb, zo, zc, hB1, hzb, _, hB2⟩ := hbe.at hlt3 hr0
              have hA3 := hA2 k hlt3
              have hB3 := hB2 j hlt2
              obtain ⟨b', c', sb, sc, hv, _, _, _, hcl1, _, hsb, _, hcl2, hfr, hst⟩ := hnew.tab_at (prodF_row hlt) (prodF_at hlt2)
              obtain rfl : b' = gb := by simp at hv; exact hv.1.symm
              rw [rowOf_len] at hcl1
              have Hst := Lib.hid (by have := hst (dotU a b i j (k + 1)); rw [prodF_set] at this; exact this)
              have hd1 := Hd.out i j hlt hlt2 k (by omega)
              have hm1 := Hm.out i j k hlt hlt2 hlt3
              have hd2 : dotU a b i j (k + 1) = dotU a b i j k + ent a i k * ent b k j := rfl
              obtain ⟨hd3, hd4⟩ := hd1
              obtain ⟨hm3, hm4⟩ := hm1
              have hk9 : (k : Int) ≤ 9 := by omega
              have Hb3 := Lib.hid (hbel.setCell (p := ⟨sb, j, none⟩) hsb (.int .i64 (dotU a b i j (k + 1))))
              have hrule := hbel.rule
              rw [hd2] at Hst Hb3
              have hi1 : (i : Int) < (p : Int) := by omega
              have hi2 : (j : Int) < (r : Int) := by omega
              have hi3 : (k : Int) < (q : Int) := by omega
              generalize dotU a b i j k = D at *
              generalize ent a i k = X at *
              generalize ent b k j = Y at *
              clear hv hst hnew hA2 hB2 hbel hd2
              go_wp2
              go_still_tail 29, (by kernel_rfl)
              go_wp2
              go_roundg (q - (k + 1))
              case measure => omega
              case rel => exact ⟨k + 1, by go_num, by omega, New.heap (OTab.kept _ _) Hst.out rfl, Hb3.out.drew⟩
            · have e : k = q := by omega
              subst e
              rw [prodF_nextj] at hnew
              go_wp2
              go_roundg (r - (j + 1))
              case measure => omega
              case rel => exact ⟨j + 1, by go_num, by omega, hnew, hbel⟩
        · have e : j = r := by omega
          subst e
          have Hn2 := Hn.out
          rw [prodF_nexti] at Hn2
          have Hn3 := Lib.hid Hn2
          clear Hn2
          go_wp2
          go_roundg (p - (i + 1))
          case measure => omega
          case rel => exact ⟨i + 1, by go_num, by omega, Hn3.out, Hb.out⟩
    · have e : i = p := by omega
      subst e
      have Hn2 := Hn.out
      rw [prodF_end] at Hn2
      have Hn3 := Lib.hid Hn2
      clear Hn2
      go_wp2
      go_ret
      exact ⟨_, rfl, Hn3.out, Hb.out⟩
end Go.Proofs.Ytdohepngandajaa
