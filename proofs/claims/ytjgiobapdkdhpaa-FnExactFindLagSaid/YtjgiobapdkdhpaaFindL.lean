/-
  FindStep, the reference's.
-/
import Derived.Test.YtjgiobapdkdhpaaRows
import Derived.Test.YtjgiobapdkdhpaaBase
import Derived.Test.YtjgiobapdkdhpaaTabs
import Derived.Test.YtjgiobapdkdhpaaHarn
import Derived.Test.YtjgiobapdkdhpaaZero
import Derived.Test.YtjgiobapdkdhpaaTimes
import Derived.Test.YtjgiobapdkdhpaaEqual
import Derived.Test.YtjgiobapdkdhpaaFindM
import Derived.IntWalk
import Derived.StillTailTactics
namespace Go.Proofs.Ytjgiobapdkdhpaa
open Go.RowKit Go.Deep Go.Sd

set_option maxHeartbeats 1000000 in
set_option maxRecDepth 100000 in
theorem l19Table_c {w : World} {n p r : Nat} (hn : n ≤ 81) (hp0 : 0 < p) (hp : p ≤ 2) (hr0 : 0 < r) (hr : r ≤ 2) :
    Calls Try.prog 76 #[.int .i64 n, .int .i64 p, .int .i64 r] w (Makes (OTab 3 78) w (tabN n p r)) := by
  have Hz := Lib.hid (l4Zero_c (w := w) (p := p) (r := r) (by omega) (by omega))
  have hpr : p * r ≤ 4 := Nat.mul_le_mul hp hr
  have hprI : ((p : Int) * (r : Int)) = ((p * r : Nat) : Int) := by push_cast; rfl
  have HprI := Lib.hid hprI
  have hm0 : (p : Int) * (r : Int) ≤ 4 := by omega
  have hm1 : 0 ≤ (p : Int) * (r : Int) := by omega
  clear hprI
  go_enter Try.func76, Try.ntmps76
  go_wp2_with fail
  refine Hz.out.mono ?_
  rintro e w1 ⟨v1, rfl, hn1, hb1⟩
  rw [← tabS_start n p r] at hn1
  have hlen : (tabS n (p * r) p r).length = p := tabOf_len _ _ _
  obtain ⟨gb, gc, _, _, rfl, _, hgb, hgb2, _⟩ := hn1.tab_at (tabS_row hp0) (rowOf_at hr0)
  rw [hlen] at hn1 ⊢
  have Hn1 := Lib.hid hn1
  have Hb1 := Lib.hid hb1
  clear hn1 hb1 Hz hlen
  go_wp2
  go_loopg [0, 8] (p * r) (fun g nn kk wr => ∃ (t m : Nat) (x : Int), nn = .int .i64 m ∧ kk = .int .i64 x ∧ t = g ∧ x + 1 = (t : Int) ∧ t ≤ p * r ∧ m ≤ 81 ∧ Hid (m = n / 3 ^ (p * r - t)) ∧ Hid (New (OTab 3 78) w.heap.size wr (.slice (some ⟨gb, 0, none⟩) p gc) (tabS n t p r)) ∧ Hid (Below w.heap.size w wr))
  case atStart => exact ⟨p * r, n, (p : Int) * (r : Int) - 1, rfl, by go_num, rfl, by rw [HprI.out]; omega, Nat.le_refl _, hn, Lib.hid (by simp), Hn1, Hb1⟩
  case round =>
    obtain ⟨t, m, x, rfl, rfl, rfl, hx, ht, hm, HM, hnew, hbel⟩ := hrel
    clear Hn1 Hb1
    by_cases h0 : t = 0
    · subst h0
      have HF := Lib.hid (show New (OTab 3 78) w.heap.size wr (.slice (some ⟨gb, 0, none⟩) p gc) (tabN n p r) from by rw [← tabS_end]; exact hnew.out)
      have hx1 : x = -1 := by omega
      subst hx1
      clear hnew HM
      go_wp2
      go_ret
      exact ⟨_, rfl, HF.out, hbel.out⟩
    · obtain ⟨s, rfl⟩ : ∃ s, t = s + 1 := ⟨t - 1, by omega⟩
      obtain rfl : x = (s : Int) := by omega
      have hi : s / r < p := by rw [Nat.div_lt_iff_lt_mul hr0]; omega
      have hj : s % r < r := Nat.mod_lt _ hr0
      have HDm := Lib.hid (show (m : Int).tmod 3 = dig n (p * r - 1 - s) from by
        rw [Int.tmod_eq_emod_of_nonneg (Int.natCast_nonneg _), HM.out, show p * r - (s + 1) = p * r - 1 - s from by omega]
        unfold dig; push_cast; rfl)
      have HM2 := Lib.hid (show m / 3 = n / 3 ^ (p * r - s) from by
        rw [HM.out, Nat.div_div_eq_div_mul, ← Nat.pow_succ, show (p * r - (s + 1)).succ = p * r - s from by omega])
      have HM3 := Lib.hid (show (m : Int) / 3 = ((m / 3 : Nat) : Int) from by push_cast; rfl)
      have HQ := Lib.hid (show (s : Int) / (r : Int) = ((s / r : Nat) : Int) from by push_cast; rfl)
      have HR2 := Lib.hid (show (s : Int) % (r : Int) = ((s % r : Nat) : Int) from by push_cast; rfl)
      have HR := Lib.hid (show (s : Int).tmod (r : Int) = ((s % r : Nat) : Int) from by rw [Int.tmod_eq_emod_of_nonneg (Int.natCast_nonneg _)]; push_cast; rfl)
      obtain ⟨b', c', sb, sc, hv, _, _, _, hcl1, _, hsb, _, hcl2, hfr, hst⟩ := hnew.out.tab_at (tabS_row hi) (rowOf_at hj)
      obtain rfl : b' = gb := by simp at hv; exact hv.1.symm
      rw [rowOf_len] at hcl1
      have Hst := Lib.hid (show New (OTab 3 78) w.heap.size (wr.setCell ⟨sb, s % r, none⟩ (.int .i64 (dig n (p * r - 1 - s)))) _ (tabS n s p r) from by have := hst (dig n (p * r - 1 - s)); rw [tabS_set (by omega) hr0] at this; exact this)
      have Hb3 := Lib.hid (hbel.out.setCell (p := ⟨sb, s % r, none⟩) hsb (.int .i64 (dig n (p * r - 1 - s))))
      have hd0 := dig_bd n (p * r - 1 - s)
      have hs1 : s < p * r := by omega
      have hDm := HDm.out
      have hQ := HQ.out
      have hR := HR.out
      have hR2 := HR2.out
      have hrn : r ≠ 0 := by omega
      generalize hqq : s / r = i at *
      generalize hrr : s % r = j at *
      have hii : (i : Int) < (p : Int) := Int.ofNat_lt.2 hi
      have hjj : (j : Int) < (r : Int) := Int.ofNat_lt.2 hj
      generalize dig n (p * r - 1 - s) = D at *
      have hWi : IntKind.i64.wrap (i : Int) = (i : Int) := IntWalk.i64_in _ ⟨by omega, by omega⟩
      have hWj : IntKind.i64.wrap (j : Int) = (j : Int) := IntWalk.i64_in _ ⟨by omega, by omega⟩
      have hWD : IntKind.i64.wrap D = D := IntWalk.i64_in _ ⟨by omega, by omega⟩
      clear hv hst hnew hbel HM hqq hrr HDm HQ HR HR2
      go_wp2
      go_still_tail 12, (by kernel_rfl)
      go_wp2
      go_roundg s
      case measure => omega
      case rel => exact ⟨s, m / 3, (s : Int) - 1, by first | rfl | (rw [← HM3.out]; rfl) | (simp only [← HM3.out]; go_num), by go_num, rfl, by omega, by omega, by omega, HM2, Lib.hid (New.heap (OTab.kept _ _) Hst.out rfl), Lib.hid Hb3.out.drew⟩
end Go.Proofs.Ytjgiobapdkdhpaa
