/-
  Subsets in the order of their masks; sums of principal minors.
-/
import Derived.Test.YtdohepngandajaaPolD
import Derived.Test.YtdohepngandajaaLabM
namespace Go.Proofs.Ytdohepngandajaa
open Go.RowKit Go.Deep Go.Sd
set_option linter.unusedSimpArgs false
theorem bit_shr' (s p : Nat) : bits BinOp.and IntKind.i64 ((s : Int) / 2 ^ p) 1 = if s.testBit p = true then 1 else 0 := by
  rw [i64_and1, Nat.testBit_eq_decide_div_mod_eq]
  have h : ((s : Int) / 2 ^ p) = ((s / 2 ^ p : Nat) : Int) := by simp
  rw [h]
  by_cases hb : s / 2 ^ p % 2 = 1
  · simp [hb]; omega
  · simp [hb]; omega
theorem shl_two (p : Nat) (h : p ≤ 4) : ∃ P : Nat, 2 ^ p = P ∧ 1 ≤ P ∧ P ≤ 16 ∧ wrap64 ((2 : Int) ^ p) = (P : Int) := by
  have h1 : 2 ^ p ≤ 2 ^ 4 := Nat.pow_le_pow_right (by decide) h
  have h0 : 0 < 2 ^ p := Nat.pow_pos (by decide)
  refine ⟨2 ^ p, rfl, h0, h1, ?_⟩
  rw [show ((2 : Int) ^ p) = ((2 ^ p : Nat) : Int) by simp]
  generalize 2 ^ p = P at h0 h1 ⊢
  exact IntWalk.wrap64_in _ (by omega)
/-- The subsets of k numbers among the first s sets. -/
def chL (n k : Nat) : Nat → List (List Int)
  | 0 => []
  | s + 1 => if (subL s n).length = k then chL n k s ++ [subL s n] else chL n k s
theorem chL_len (n k : Nat) : ∀ s, (chL n k s).length ≤ s
  | 0 => Nat.le_refl _
  | s + 1 => by
    have := chL_len n k s
    unfold chL
    split
    · simp; omega
    · omega
theorem chL_mem (n k : Nat) : ∀ s l, l ∈ chL n k s → l.length = k ∧ ∃ t, l = subL t n
  | 0, l, h => by simp [chL] at h
  | s + 1, l, h => by
    unfold chL at h
    split at h
    · rename_i he
      rcases List.mem_append.1 h with h | h
      · exact chL_mem n k s l h
      · simp at h
        subst h
        exact ⟨he, s, rfl⟩
    · exact chL_mem n k s l h
theorem minS_yes {m : List (List Int)} {n k s : Nat} (h : (subL s n).length = k) : minS m n k (s + 1) = minS m n k s + detP m (subL s n) := by rw [minS, if_pos h]
theorem minS_no {m : List (List Int)} {n k s : Nat} (h : (subL s n).length ≠ k) : minS m n k (s + 1) = minS m n k s := by rw [minS, if_neg h]
theorem chL_yes {n k s : Nat} (h : (subL s n).length = k) : chL n k (s + 1) = chL n k s ++ [subL s n] := by rw [chL, if_pos h]
theorem chL_no {n k s : Nat} (h : (subL s n).length ≠ k) : chL n k (s + 1) = chL n k s := by rw [chL, if_neg h]
set_option maxHeartbeats 1000000 in
set_option maxRecDepth 100000 in
theorem choices_c {w : World} {n k : Nat} (hn : n ≤ 4) :
    Calls Try.prog 203 #[.int .i64 n, .int .i64 k] w (Makes (OTab 3 50) w (chL n k (2 ^ n))) := by
  obtain ⟨P, hP, hP1, hP2, hw⟩ := shl_two n hn
  rw [hP]
  clear hP
  go_enter Try.func203, Try.ntmps203
  go_wp2
  rw [hw]
  go_loopg [5, 12] P (fun g v ii wr => ∃ (s : Nat), ii = .int .i64 s ∧ s + g = P ∧ Hid (New (OTab 3 50) w.heap.size wr v (chL n k s)) ∧ Hid (Below w.heap.size w wr))
  case atStart => exact ⟨0, rfl, by omega, Lib.hid (New.empty w (Nat.le_refl _)), Lib.hid ((Below.refl _ _).alloc (Nat.le_refl _) _)⟩
  case round =>
    obtain ⟨s, rfl, hs, Hn, Hb⟩ := hrel
    obtain ⟨wo, rfl⟩ : ∃ x, x = wr := ⟨_, rfl⟩
    have hle := Hb.out.size
    obtain ⟨oa, on', oc, rfl⟩ := Hn.out.slice
    by_cases hsP : s < P
    · have hsi : (s : Int) < (P : Int) := by omega
      obtain ⟨g, rfl⟩ : ∃ x, gk = x + 1 := ⟨gk - 1, by omega⟩
      have hcl := Lib.hid (show (chL n k s).length ≤ 16 from by have := chL_len n k s; omega)
      have Hno := Lib.hid (show New (OInts 3) wo.heap.size (wo.alloc (.cells #[] 3)) (.slice (some ⟨wo.heap.size, 0, none⟩) 0 0) (subL s 0) from New.empty wo (Nat.le_refl _))
      have HBi := Lib.hid (show Below wo.heap.size wo (wo.alloc (.cells #[] 3)) from (Below.refl _ _).alloc (Nat.le_refl _) _)
      go_wp2
      try rw [hw]
      go_loopg [7, 17] n (fun g2 v jj wr2 => ∃ (j : Nat), jj = .int .i64 j ∧ j + g2 = n ∧ Hid (New (OInts 3) wo.heap.size wr2 v (subL s j)) ∧ Hid (Below wo.heap.size wo wr2))
      case atStart => exact ⟨0, rfl, by omega, Hno, HBi⟩
      case round =>
        clear Hno HBi
        obtain ⟨j, rfl, hj, Hr, HB⟩ := hrel
        obtain ⟨wi, rfl⟩ : ∃ x, x = wr := ⟨_, rfl⟩
        have hzi := HB.out.size
        obtain ⟨ra, rc', rfl, -⟩ := (New.ints Hr.out).shape
        by_cases hjn : j < n
        · have hji : (j : Int) < (n : Int) := by omega
          obtain ⟨g2, rfl⟩ : ∃ x, gk = x + 1 := ⟨gk - 1, by omega⟩
          have hrl := Lib.hid (show (subL s j).length ≤ 4 from by have := subL_len s j; omega)
          have Hbs := Lib.hid (bit_shr' s j)
          have Hy := Lib.hid (fun (h : s.testBit j = true) => subL_yes h)
          have Hno := Lib.hid (fun (h : s.testBit j = false) => subL_no h)
          obtain ⟨ln, hln⟩ : ∃ x, x = (subL s j).length := ⟨_, rfl⟩
          have Hln := Lib.hid hln
          rw [← hln] at hrl Hr ⊢
          clear hln
          generalize s.testBit j = tb at Hbs Hy Hno
          cases tb with
          | false =>
            have hbs : bits BinOp.and IntKind.i64 ((s : Int) / 2 ^ j) 1 = 0 := by rw [Hbs.out]; rfl
            clear Hbs Hy
            go_wp2
            go_roundg g2
            case measure => omega
            case rel => exact ⟨j + 1, by go_num, by omega, Lib.hid (by rw [Hno.out (by simp)]; exact Hr.out), HB⟩
          | true =>
            have hbs : bits BinOp.and IntKind.i64 ((s : Int) / 2 ^ j) 1 = 1 := by rw [Hbs.out]; rfl
            clear Hbs Hno
            go_wp2_with (at_builtin; refine wpl_push (w0 := wi) (lo := wo.heap.size) (y := (j : Int)) OIntR.kept rfl (.tmp 25) (.tmp 27) 50 rfl 3 (.int .i64 0) 8 Try.underlying50 infoI rfl Hr.out hzi ((Below.refl _ _).alloc (Nat.le_refl _) _) ⟨[], ⟨rfl, rfl⟩, by simp [Fresh]⟩ (bb := wi.heap.size) (c := 1) (by simp) rfl rfl (by have := hrl.out; have := Hln.out; omega) (by have := hrl.out; have := Hln.out; omega) ?_; intro v2 w2 hn2 _ _ hb2; have Hn2 := Lib.hid hn2; have HB2 := Lib.hid (HB.out.trans hb2); clear hn2 hb2)
            go_roundg g2
            case measure => omega
            case rel => exact ⟨j + 1, by go_num, by omega, Lib.hid (by rw [Hy.out (by simp)]; exact Hn2.out), HB2⟩
        · have hji : ¬ ((j : Int) < (n : Int)) := by omega
          have hjn' : j = n := by omega
          rw [hjn'] at Hr ⊢
          have hrl := Lib.hid (show (subL s n).length ≤ 4 from by have := subL_len s n; omega)
          clear hjn hjn' hji
          obtain ⟨ln, hln⟩ : ∃ x, x = (subL s n).length := ⟨_, rfl⟩
          have Hln := Lib.hid hln
          rw [← hln] at hrl Hr ⊢
          clear hln
          by_cases hek : ln = k
          · have Hc := Lib.hid (chL_yes (n := n) (k := k) (s := s) (by rw [← Hln.out]; exact hek))
            have t1 : ((ln : Int) == (k : Int)) = true := by simp [hek]
            clear hek
            go_wp2_with (at_builtin; refine wpl_push (w0 := wo) (lo := w.heap.size) (OInts.kept _) rfl (.tmp 34) (.tmp 36) 41 rfl 50 (.slice none 0 0) 24 Try.underlying41 infoR rfl Hn.out hle (HB.out.alloc HB.out.size _) (New.keep (OInts.kept _) Hr.out ((Below.refl wi.heap.size _).alloc (Nat.le_refl _) _) (Nat.le_refl _)) (bb := wi.heap.size) (c := 1) (by simp) rfl rfl (by have := hcl.out; omega) (by have := hcl.out; omega) ?_; intro v3 w3 hn3 _ _ hb3; have Hn3 := Lib.hid hn3; have Hb3 := Lib.hid hb3; clear hn3 hb3)
            go_roundg g
            case measure => omega
            case rel => exact ⟨s + 1, by go_num, by omega, Lib.hid (by rw [Hc.out]; exact Hn3.out), Lib.hid (Hb.out.trans Hb3.out)⟩
          · have Hc := Lib.hid (chL_no (n := n) (k := k) (s := s) (by rw [← Hln.out]; exact hek))
            have t1 : ((ln : Int) == (k : Int)) = false := by simp; omega
            have Hn3 := Lib.hid (Hn.out.keep (OTab.kept _ _) HB.out (Nat.le_refl _))
            clear hek
            go_wp2
            go_roundg g
            case measure => omega
            case rel => exact ⟨s + 1, by go_num, by omega, Lib.hid (by rw [Hc.out]; exact Hn3.out), Lib.hid (Hb.out.trans (HB.out.mono hle))⟩
    · have hsi : ¬ ((s : Int) < (P : Int)) := by omega
      have Hr := Lib.hid (show New (OTab 3 50) w.heap.size wo (.slice oa on' oc) (chL n k P) from by rw [show P = s from by omega]; exact Hn.out)
      clear Hn
      go_wp2
      go_ret
      exact ⟨_, rfl, Hr.out, Hb.out⟩
set_option maxHeartbeats 1000000 in
set_option maxRecDepth 100000 in
theorem l7Minors_c {w : World} {va : Value} {m : List (List Int)} {n k : Nat} (h : Tab w va m) (hsq : Sq n m) (hn : n ≤ 4) (hbd : Bd 9 m) :
    Calls Try.prog 168 #[va, .int .i64 k] w fun e w' => e = .returned (.int .i64 (minS m n k (2 ^ n))) ∧ Below w.heap.size w w' := by
  obtain ⟨P, hP, hP1, hP2, hw⟩ := shl_two n hn
  have Hlim := Lib.hid (fun (s : Nat) (hs : s ≤ P) => minS_bd16 (k := k) (s := s) hsq hn hbd (by omega))
  have HDb := Lib.hid (fun (s : Nat) => detP_bd (l := subL s n) hsq hn hbd (fun x hx => subL_mem hx) (subL_len s n))
  have HC := Lib.hid (fun (w1 : World) (vl : Value) (s : Nat) (hb : Below w.heap.size w w1) (hl : Ints w1 vl (subL s n)) => l5Part_c (Tab.frame _ _ _ _ h hb) hsq (by omega) hl (fun x hx => subL_mem hx) (by have := subL_len s n; omega))
  have HD := Lib.hid (fun (w1 : World) (v : Value) (s : Nat) (h1 : Tab w1 v (partT m (subL s n))) => (show Calls Try.prog 201 #[v] w1 (fun e w' => e = .returned (.int .i64 (detP m (subL s n))) ∧ Below w1.heap.size w1 w') from spec_det_c _ (by have := subL_len s n; omega) h1 (partT_sq m _) (partT_bd hsq hbd fun x hx => subL_mem hx)))
  obtain ⟨va0, vc0, rfl, -⟩ := h.shape
  rw [hsq.1] at HC ⊢
  rw [hP]
  clear h hsq hP hbd
  have hk16 := (detB_mono k)
  go_enter Try.func168, Try.ntmps168
  go_wp2
  go_loopg [5, 6] P (fun g v ii wr => ∃ (s : Nat) (S : Int), v = .int .i64 S ∧ ii = .int .i64 s ∧ s + g = P ∧ Hid (S = minS m n k s) ∧ Hid (Below w.heap.size w wr))
  case atStart => exact ⟨0, 0, rfl, rfl, by omega, Lib.hid rfl, Lib.hid (Below.refl _ _)⟩
  case round =>
    obtain ⟨s, S, rfl, rfl, hs, HS, Hb⟩ := hrel
    obtain ⟨wo, rfl⟩ : ∃ x, x = wr := ⟨_, rfl⟩
    have hle := Hb.out.size
    by_cases hsP : s < P
    · have hsi : (s : Int) < (P : Int) := by omega
      obtain ⟨g, rfl⟩ : ∃ x, gk = x + 1 := ⟨gk - 1, by omega⟩
      have hSb := Hlim.out s (by omega)
      rw [← HS.out] at hSb
      have Hno := Lib.hid (show New (OInts 3) wo.heap.size (wo.alloc (.cells #[] 3)) (.slice (some ⟨wo.heap.size, 0, none⟩) 0 0) (subL s 0) from New.empty wo (Nat.le_refl _))
      have HBi := Lib.hid (show Below wo.heap.size wo (wo.alloc (.cells #[] 3)) from (Below.refl _ _).alloc (Nat.le_refl _) _)
      go_wp2
      try rw [hw]
      go_loopg [7, 8] n (fun g2 v jj wr2 => ∃ (j : Nat), jj = .int .i64 j ∧ j + g2 = n ∧ Hid (New (OInts 3) wo.heap.size wr2 v (subL s j)) ∧ Hid (Below wo.heap.size wo wr2))
      case atStart => exact ⟨0, rfl, by omega, Hno, HBi⟩
      case round =>
        clear Hno HBi
        obtain ⟨j, rfl, hj, Hr, HB⟩ := hrel
        obtain ⟨wi, rfl⟩ : ∃ x, x = wr := ⟨_, rfl⟩
        have hzi := HB.out.size
        obtain ⟨ra, rc', rfl, -⟩ := (New.ints Hr.out).shape
        by_cases hjn : j < n
        · have hji : (j : Int) < (n : Int) := by omega
          obtain ⟨g2, rfl⟩ : ∃ x, gk = x + 1 := ⟨gk - 1, by omega⟩
          have hrl := Lib.hid (show (subL s j).length ≤ 4 from by have := subL_len s j; omega)
          have Hbs := Lib.hid (bit_shr' s j)
          have Hy := Lib.hid (fun (h : s.testBit j = true) => subL_yes h)
          have Hno := Lib.hid (fun (h : s.testBit j = false) => subL_no h)
          obtain ⟨ln, hln⟩ : ∃ x, x = (subL s j).length := ⟨_, rfl⟩
          have Hln := Lib.hid hln
          rw [← hln] at hrl Hr ⊢
          clear hln
          generalize s.testBit j = tb at Hbs Hy Hno
          cases tb with
          | false =>
            have hbs : bits BinOp.and IntKind.i64 ((s : Int) / 2 ^ j) 1 = 0 := by rw [Hbs.out]; rfl
            clear Hbs Hy
            go_wp2
            go_roundg g2
            case measure => omega
            case rel => exact ⟨j + 1, by go_num, by omega, Lib.hid (by rw [Hno.out (by simp)]; exact Hr.out), HB⟩
          | true =>
            have hbs : bits BinOp.and IntKind.i64 ((s : Int) / 2 ^ j) 1 = 1 := by rw [Hbs.out]; rfl
            clear Hbs Hno
            go_wp2_with (at_builtin; refine wpl_push (w0 := wi) (lo := wo.heap.size) (y := (j : Int)) OIntR.kept rfl (.tmp 30) (.tmp 32) 50 rfl 3 (.int .i64 0) 8 Try.underlying50 infoI rfl Hr.out hzi ((Below.refl _ _).alloc (Nat.le_refl _) _) ⟨[], ⟨rfl, rfl⟩, by simp [Fresh]⟩ (bb := wi.heap.size) (c := 1) (by simp) rfl rfl (by have := hrl.out; have := Hln.out; omega) (by have := hrl.out; have := Hln.out; omega) ?_; intro v2 w2 hn2 _ _ hb2; have Hn2 := Lib.hid hn2; have HB2 := Lib.hid (HB.out.trans hb2); clear hn2 hb2)
            go_roundg g2
            case measure => omega
            case rel => exact ⟨j + 1, by go_num, by omega, Lib.hid (by rw [Hy.out (by simp)]; exact Hn2.out), HB2⟩
        · have hji : ¬ ((j : Int) < (n : Int)) := by omega
          have hjn' : j = n := by omega
          rw [hjn'] at Hr ⊢
          have hrl := Lib.hid (show (subL s n).length ≤ 4 from by have := subL_len s n; omega)
          clear hjn hjn' hji
          obtain ⟨ln, hln⟩ : ∃ x, x = (subL s n).length := ⟨_, rfl⟩
          have Hln := Lib.hid hln
          rw [← hln] at hrl Hr ⊢
          clear hln
          by_cases hek : ln = k
          · have Hc := Lib.hid (minS_yes (m := m) (n := n) (k := k) (s := s) (by rw [← Hln.out]; exact hek))
            have t1 : ((ln : Int) == (k : Int)) = true := by simp [hek]
            have HCl := Lib.hid (HC.out wi _ s (Hb.out.trans (HB.out.mono hle)) (New.ints Hr.out))
            have HDl := Lib.hid (fun w1 v h => HD.out w1 v s h)
            have hdb := HDb.out s
            have hd2 := detB_mono (subL s n).length
            generalize detP m (subL s n) = D at Hc HDl hdb
            have hdb2 : -157464 ≤ D ∧ D ≤ 157464 := by omega
            have hSb2 : -2519424 ≤ S ∧ S ≤ 2519424 := by omega
            have hw1 : IntKind.i64.wrap (S + D) = S + D := IntWalk.i64_in _ (by omega)
            clear hek hdb hd2 hSb HC HD
            go_wp2_with fail
            (with_reducible refine HCl.out.mono ?_)
            rintro e w3 ⟨v3, rfl, hn3, hb3⟩
            have HB3 := Lib.hid ((Hb.out.trans (HB.out.mono hle)).trans (hb3.mono (by omega)))
            have HDm := Lib.hid (HDl.out w3 v3 hn3.tab)
            clear hn3 hb3 HCl HDl
            go_wp2_with fail
            (with_reducible refine HDm.out.mono ?_)
            rintro e w4 ⟨rfl, hb4⟩
            have HB4 := Lib.hid (HB3.out.trans (hb4.mono HB3.out.size))
            clear hb4 HB3 HDm
            go_wp2
            go_roundg g
            case measure => omega
            case rel => exact ⟨s + 1, S + D, rfl, by go_num, by omega, Lib.hid (by rw [Hc.out, HS.out]), HB4⟩
          · have Hc := Lib.hid (minS_no (m := m) (n := n) (k := k) (s := s) (by rw [← Hln.out]; exact hek))
            have t1 : ((ln : Int) == (k : Int)) = false := by simp; omega
            clear hek hSb HC HD
            go_wp2
            go_roundg g
            case measure => omega
            case rel => exact ⟨s + 1, S, rfl, by go_num, by omega, Lib.hid (by rw [Hc.out, HS.out]), Lib.hid (Hb.out.trans (HB.out.mono hle))⟩
    · have hsi : ¬ ((s : Int) < (P : Int)) := by omega
      have HF := Lib.hid (show S = minS m n k P from by rw [show P = s from by omega]; exact HS.out)
      clear HS
      go_wp2
      go_ret
      exact ⟨by rw [← HF.out]; rfl, Hb.out⟩
end Go.Proofs.Ytdohepngandajaa
