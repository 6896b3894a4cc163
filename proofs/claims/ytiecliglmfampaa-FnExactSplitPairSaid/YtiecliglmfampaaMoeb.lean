/-
  The function of Moebius: the program's and the reference's both return 'moeb n'.
-/
import Derived.Test.YtiecliglmfampaaRows
import Derived.Test.YtiecliglmfampaaBase
namespace Go.Proofs.Ytiecliglmfampaa
open Go.RowKit Go.Deep Go.Sd

/-- The loop, by rounds that are left. -/
def moebLoop : Nat → Int → Int → Int → Int
  | 0, _, _, out => out
  | f + 1, n, p, out => if p ≤ n then (if n % p ≠ 0 then moebLoop f n (p + 1) out else if (n / p) % p = 0 then 0 else moebLoop f (n / p) (p + 1) (-out)) else out
def moeb (n : Int) : Int := if n < 1 ∨ 1000 < n then 0 else moebLoop (n.toNat + 1) n 2 1

theorem moebLoop_stop (f : Nat) (n p out : Int) (h : n < p) : moebLoop f n p out = out := by
  cases f with
  | zero => rfl
  | succ f => unfold moebLoop; rw [if_neg (by omega)]

theorem div_bd (n p : Int) (h0 : 1 ≤ n) (h1 : 2 ≤ p) (h2 : n % p = 0) : 1 ≤ n / p ∧ n / p ≤ n := by
  have h3 := Int.emod_add_mul_ediv n p
  have h4 : n = p * (n / p) := by omega
  have h5 : 0 < n / p := by
    rcases Int.lt_or_le 0 (n / p) with h | h
    · exact h
    · have : p * (n / p) ≤ 0 := Int.mul_nonpos_of_nonneg_of_nonpos (by omega) h
      omega
  have h6 : 1 * (n / p) ≤ p * (n / p) := Int.mul_le_mul_of_nonneg_right (by omega) (by omega)
  omega

theorem moeb_bd (n : Int) : -1000 ≤ moeb n ∧ moeb n ≤ 1000 := by
  have h : ∀ (f : Nat) (n p out : Int), -1 ≤ out → out ≤ 1 → -1 ≤ moebLoop f n p out ∧ moebLoop f n p out ≤ 1 := by
    intro f
    induction f with
    | zero => intro n p out h0 h1; exact ⟨h0, h1⟩
    | succ f ih =>
      intro n p out h0 h1
      unfold moebLoop
      split
      · split
        · exact ih _ _ _ h0 h1
        · split
          · omega
          · exact ih _ _ _ (by omega) (by omega)
      · omega
  unfold moeb
  split
  · omega
  · have := h (n.toNat + 1) n 2 1 (by omega) (by omega); omega

theorem l1In_c (a b c : Int) (w : World) :
    Calls Try.prog 55 #[.int .i64 a, .int .i64 b, .int .i64 c] w fun e w' => e = .returned (.bool (decide (b ≤ a) && decide (a ≤ c))) ∧ w = w' := by
  by_cases h1 : b ≤ a <;> by_cases h2 : a ≤ c
  all_goals
    go_enter Try.func55, Try.ntmps55
    go_wp2
    go_ret
    exact ⟨by simp [*], rfl⟩
theorem l1In_yes {a b c : Int} (w : World) (h1 : b ≤ a) (h2 : a ≤ c) : Calls Try.prog 55 #[.int .i64 a, .int .i64 b, .int .i64 c] w fun e w' => e = .returned (.bool true) ∧ w = w' := by
  have := l1In_c a b c w
  simpa [h1, h2] using this
theorem l1In_no {a b c : Int} (w : World) (h : a < b ∨ c < a) : Calls Try.prog 55 #[.int .i64 a, .int .i64 b, .int .i64 c] w fun e w' => e = .returned (.bool false) ∧ w = w' := by
  have e : (decide (b ≤ a) && decide (a ≤ c)) = false := by
    rcases h with h | h
    · simp; omega
    · simp; omega
  have := l1In_c a b c w
  rw [e] at this
  exact this

set_option maxHeartbeats 400000 in
theorem impl_MoebiusOf_c (n : Int) (w : World) :
    Calls Try.prog 86 #[.int .i64 n] w fun e w' => e = .returned (.int .i64 (moeb n)) ∧ w = w' := by
  by_cases h1 : n < 1
  · have H := Lib.hid (show moeb n = 0 from by unfold moeb; rw [if_pos (Or.inl h1)])
    go_enter Try.func86, Try.ntmps86
    go_wp2
    go_ret
    exact ⟨by rw [H.out]; rfl, rfl⟩
  by_cases h2 : 1000 < n
  · have H := Lib.hid (show moeb n = 0 from by unfold moeb; rw [if_pos (Or.inr h2)])
    go_enter Try.func86, Try.ntmps86
    go_wp2
    go_ret
    exact ⟨by rw [H.out]; rfl, rfl⟩
  have hm := Lib.hid (show moeb n = moebLoop (n.toNat + 1) n 2 1 from by unfold moeb; rw [if_neg (by omega)])
  go_enter Try.func86, Try.ntmps86
  go_wp2
  go_loopg [0, 3, 4] (1001) (fun g nn o p wr => ∃ (f : Nat) (n' o' p' : Int), nn = .int .i64 n' ∧ o = .int .i64 o' ∧ p = .int .i64 p' ∧ 1 ≤ n' ∧ n' ≤ 1000 ∧ 2 ≤ p' ∧ -1 ≤ o' ∧ o' ≤ 1 ∧ p' ≤ 1002 ∧ n' - p' + 1 ≤ f ∧ g + p' = 1003 ∧ Hid (moeb n = moebLoop f n' p' o') ∧ w = wr)
  case atStart => exact ⟨n.toNat + 1, n, 1, 2, rfl, rfl, rfl, by omega, by omega, by omega, by omega, by omega, by omega, by omega, by omega, hm, rfl⟩
  case round =>
    obtain ⟨f, n', o', p', rfl, rfl, rfl, b1, b2, b3, b4, b5, b6, b7, hg, H, rfl⟩ := hrel
    by_cases c1 : p' ≤ n'
    · obtain ⟨f, rfl⟩ : ∃ q, f = q + 1 := ⟨f - 1, by omega⟩
      have H1 := H.out
      unfold moebLoop at H1
      rw [if_pos c1] at H1
      by_cases c2 : n' % p' = 0
      · rw [if_neg (by omega)] at H1
        have hd := div_bd n' p' b1 b3 c2
        obtain ⟨d, hdd⟩ : ∃ d, d = n' / p' := ⟨_, rfl⟩
        rw [← hdd] at H1 hd
        obtain ⟨hd1, hd2⟩ := hd
        by_cases c3 : d % p' = 0
        · rw [if_pos c3] at H1
          have H2 := Lib.hid H1
          have t1 : (n' % p' != 0) = false := by simp [c2]
          have t3 : (n' / p' % p' == 0) = true := by rw [← hdd]; simp [c3]
          have t4 : 0 ≤ n' / p' := by rw [← hdd]; omega
          have t5 : n' / p' ≤ 1000 := by rw [← hdd]; omega
          clear H H1 hm hdd c2 c3
          go_wp2
          go_ret
          exact ⟨by rw [H2.out]; rfl, rfl⟩
        · rw [if_neg c3] at H1
          have H2 := Lib.hid H1
          have t1 : (n' % p' != 0) = false := by simp [c2]
          have t3 : (n' / p' % p' == 0) = false := by rw [← hdd]; simp [c3]
          have t4 : 0 ≤ n' / p' := by rw [← hdd]; omega
          have t5 : n' / p' ≤ 1000 := by rw [← hdd]; omega
          have Hd := Lib.hid hdd
          clear H H1 hm hdd c2 c3
          go_wp2
          go_roundg (gk - 1)
          case measure => omega
          case rel => exact ⟨f, d, -o', p' + 1, by rw [Hd.out], rfl, rfl, by omega, by omega, by omega, by omega, by omega, by omega, by omega, by omega, H2, rfl⟩
      · rw [if_pos (by omega)] at H1
        have H2 := Lib.hid H1
        have t1 : (n' % p' != 0) = true := by simp [c2]
        clear H H1 hm c2
        go_wp2
        go_roundg (gk - 1)
        case measure => omega
        case rel => exact ⟨f, n', o', p' + 1, rfl, rfl, rfl, by omega, by omega, by omega, by omega, by omega, by omega, by omega, by omega, H2, rfl⟩
    · have H1 := Lib.hid (show moeb n = o' from by rw [H.out, moebLoop_stop _ _ _ _ (by omega)])
      clear H
      go_wp2
      go_ret
      exact ⟨by rw [H1.out]; rfl, rfl⟩

set_option maxHeartbeats 400000 in
theorem spec_MoebiusOf_c (n : Int) (w : World) :
    Calls Try.prog 84 #[.int .i64 n] w fun e w' => e = .returned (.int .i64 (moeb n)) ∧ w = w' := by
  by_cases h1 : n < 1
  · have H := Lib.hid (show moeb n = 0 from by unfold moeb; rw [if_pos (Or.inl h1)])
    go_enter Try.func84, Try.ntmps84
    go_wp2_with (go_at_call 55; refine (l1In_no _ (by omega)).mono ?_; rintro e w' ⟨rfl, rfl⟩)
    go_ret
    exact ⟨by rw [H.out]; rfl, rfl⟩
  by_cases h2 : 1000 < n
  · have H := Lib.hid (show moeb n = 0 from by unfold moeb; rw [if_pos (Or.inr h2)])
    go_enter Try.func84, Try.ntmps84
    go_wp2_with (go_at_call 55; refine (l1In_no _ (by omega)).mono ?_; rintro e w' ⟨rfl, rfl⟩)
    go_ret
    exact ⟨by rw [H.out]; rfl, rfl⟩
  have hm := Lib.hid (show moeb n = moebLoop (n.toNat + 1) n 2 1 from by unfold moeb; rw [if_neg (by omega)])
  go_enter Try.func84, Try.ntmps84
  go_wp2_with (go_at_call 55; refine (l1In_yes _ (by omega) (by omega)).mono ?_; rintro e w' ⟨rfl, rfl⟩)
  go_loopg [0, 3, 4] (1001) (fun g nn o p wr => ∃ (f : Nat) (n' o' p' : Int), nn = .int .i64 n' ∧ o = .int .i64 o' ∧ p = .int .i64 p' ∧ 1 ≤ n' ∧ n' ≤ 1000 ∧ 2 ≤ p' ∧ -1 ≤ o' ∧ o' ≤ 1 ∧ p' ≤ 1002 ∧ n' - p' + 1 ≤ f ∧ g + p' = 1003 ∧ Hid (moeb n = moebLoop f n' p' o') ∧ w = wr)
  case atStart => exact ⟨n.toNat + 1, n, 1, 2, rfl, rfl, rfl, by omega, by omega, by omega, by omega, by omega, by omega, by omega, by omega, hm, rfl⟩
  case round =>
    obtain ⟨f, n', o', p', rfl, rfl, rfl, b1, b2, b3, b4, b5, b6, b7, hg, H, rfl⟩ := hrel
    by_cases c1 : p' ≤ n'
    · obtain ⟨f, rfl⟩ : ∃ q, f = q + 1 := ⟨f - 1, by omega⟩
      have H1 := H.out
      unfold moebLoop at H1
      rw [if_pos c1] at H1
      by_cases c2 : n' % p' = 0
      · rw [if_neg (by omega)] at H1
        have hd := div_bd n' p' b1 b3 c2
        obtain ⟨d, hdd⟩ : ∃ d, d = n' / p' := ⟨_, rfl⟩
        rw [← hdd] at H1 hd
        obtain ⟨hd1, hd2⟩ := hd
        by_cases c3 : d % p' = 0
        · rw [if_pos c3] at H1
          have H2 := Lib.hid H1
          have t1 : (n' % p' != 0) = false := by simp [c2]
          have t3 : (n' / p' % p' == 0) = true := by rw [← hdd]; simp [c3]
          have t4 : 0 ≤ n' / p' := by rw [← hdd]; omega
          have t5 : n' / p' ≤ 1000 := by rw [← hdd]; omega
          clear H H1 hm hdd c2 c3
          go_wp2
          go_ret
          exact ⟨by rw [H2.out]; rfl, rfl⟩
        · rw [if_neg c3] at H1
          have H2 := Lib.hid H1
          have t1 : (n' % p' != 0) = false := by simp [c2]
          have t3 : (n' / p' % p' == 0) = false := by rw [← hdd]; simp [c3]
          have t4 : 0 ≤ n' / p' := by rw [← hdd]; omega
          have t5 : n' / p' ≤ 1000 := by rw [← hdd]; omega
          have Hd := Lib.hid hdd
          clear H H1 hm hdd c2 c3
          go_wp2
          go_roundg (gk - 1)
          case measure => omega
          case rel => exact ⟨f, d, -o', p' + 1, by rw [Hd.out], rfl, rfl, by omega, by omega, by omega, by omega, by omega, by omega, by omega, by omega, H2, rfl⟩
      · rw [if_pos (by omega)] at H1
        have H2 := Lib.hid H1
        have t1 : (n' % p' != 0) = true := by simp [c2]
        clear H H1 hm c2
        go_wp2
        go_roundg (gk - 1)
        case measure => omega
        case rel => exact ⟨f, n', o', p' + 1, rfl, rfl, rfl, by omega, by omega, by omega, by omega, by omega, by omega, by omega, by omega, H2, rfl⟩
    · have H1 := Lib.hid (show moeb n = o' from by rw [H.out, moebLoop_stop _ _ _ _ (by omega)])
      clear H
      go_wp2
      go_ret
      exact ⟨by rw [H1.out]; rfl, rfl⟩

end Go.Proofs.Ytiecliglmfampaa
