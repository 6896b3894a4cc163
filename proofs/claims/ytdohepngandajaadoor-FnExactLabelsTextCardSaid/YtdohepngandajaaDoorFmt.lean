/-
  Numbers written in decimal digits (the reference's).
-/
import Derived.Test.YtdohepngandajaaDoorRows
import Derived.Test.YtdohepngandajaaDoorBase
import Derived.Laws.IdiomStrings
import Derived.IntWalk
namespace Go.Proofs.YtdohepngandajaaDoor
open Go.RowKit Go.Deep Go.Sd
set_option linter.unusedSimpArgs false
theorem bs_size (a b : ByteArray) : (a ++ b).size = a.size + b.size := by simp
def fmtL : Nat → Nat → ByteArray → ByteArray
  | 0, _, u => u
  | g + 1, m, u => if m = 0 then u else fmtL g (m / 10) ((⟨#[48 + UInt8.ofNat (m % 10)]⟩ : ByteArray) ++ u)
def fmtN (m : Nat) : ByteArray := if m = 0 then ⟨#[48]⟩ else fmtL 18 m ⟨#[]⟩
set_option maxHeartbeats 2000000 in
set_option maxRecDepth 100000 in
theorem FormatInt_c {w : World} {m : Nat} (hm : m < 1000000000000000000) :
    Calls Tryd.prog 14 #[.int .i64 m] w fun e w' => e = .returned (.string (fmtN m)) ∧ Below w.heap.size w w' := by
  by_cases h0 : m = 0
  · subst h0
    have HF := Lib.hid (show fmtN 0 = ⟨#[48]⟩ from rfl)
    go_enter Tryd.func14, Tryd.ntmps14
    go_wp2
    go_ret
    exact ⟨by rw [HF.out]; rfl, Below.refl _ _⟩
  have HF := Lib.hid (show fmtN m = fmtL 18 m ⟨#[]⟩ from by unfold fmtN; rw [if_neg h0])
  generalize fmtN m = T at HF ⊢
  have e0 : ((m : Int) == 0) = false := by simp; omega
  have e1 : ¬ ((m : Int) < 0) := by omega
  have d1 : decide ((m : Int) < 0) = false := decide_eq_false (by omega)
  have HP0 := Lib.hid (show m < 10 ^ 18 from hm)
  have HZ0 := Lib.hid (show (⟨#[]⟩ : ByteArray).size + 18 = 18 from rfl)
  clear h0 hm
  go_enter Tryd.func14, Tryd.ntmps14
  go_wp2
  go_loopg [0, 4, 5] 18 (fun g nv tv rv wr => ∃ (m : Nat) (u : ByteArray), nv = .int .i64 m ∧ tv = .string u ∧ u.size ≤ 18 ∧ Hid (u.size + g = 18) ∧ Hid (m < 10 ^ g) ∧ Hid (T = fmtL g m u) ∧ Hid (Below w.heap.size w wr))
  case atStart => exact ⟨m, ⟨#[]⟩, rfl, rfl, by decide, HZ0, HP0, HF, Lib.hid (Below.refl _ _)⟩
  case round =>
    clear HF HP0 HZ0 e0 e1 d1
    obtain ⟨m, u, rfl, rfl, hu, HZ, HP, HT, HB⟩ := hrel
    obtain ⟨wk, rfl⟩ : ∃ x, x = wr := ⟨_, rfl⟩
    by_cases hz : m = 0
    · have t0 : ((m : Int) != 0) = false := by simp [hz]
      have HF := Lib.hid (show T = u from by rw [HT.out]; cases gk with | zero => rfl | succ g => (unfold fmtL; rw [if_pos hz]))
      clear HT HP HZ hz
      go_wp2
      go_ret
      exact ⟨by rw [HF.out]; rfl, HB.out⟩
    · cases gk with
      | zero => exact absurd HP.out (by simp; omega)
      | succ g =>
        have t0 : ((m : Int) != 0) = true := by simp [hz]
        have HT2 := Lib.hid (show T = fmtL g (m / 10) ((⟨#[48 + UInt8.ofNat (m % 10)]⟩ : ByteArray) ++ u) from by rw [HT.out]; exact if_neg hz)
        have hr : m % 10 < 10 := Nat.mod_lt _ (by omega)
        have hq : m / 10 ≤ m := Nat.div_le_self _ _
        have HP2 := Lib.hid (show m / 10 < 10 ^ g from by have h := HP.out; rw [Nat.pow_succ] at h; omega)
        have hm1 : (m : Int) % 10 = ((m % 10 : Nat) : Int) := by omega
        have hm2 : (m : Int) / 10 = ((m / 10 : Nat) : Int) := by omega
        have hm0' : (0 : Int) ≤ (m : Int) := by omega
        have hmb : m < 1000000000000000000 := by
          have h := HP.out
          have hz := HZ.out
          have h2 : 10 ^ (g + 1) ≤ 10 ^ 18 := Nat.pow_le_pow_right (by decide) (by omega)
          omega
        generalize m % 10 = r at HT2 hr hm1
        generalize m / 10 = q at HT2 hq HP2 hm2
        have hu8 : IntKind.u8.wrap (48 + (r : Int)) = 48 + (r : Int) := IntWalk.u8_in _ (by omega)
        have hcv : (convert 43 9 (.slice (some ⟨wk.heap.size, 0, none⟩) 1 1)).run Tryd.prog (wk.alloc (.cells #[.int .u8 (48 + (r : Int))] 5)) = .ok (.string ⟨#[48 + UInt8.ofNat r]⟩) (wk.alloc (.cells #[.int .u8 (48 + (r : Int))] 5)) := by
          have h := run_convert_bytes_back (P := Tryd.prog) (wk.alloc (.cells #[.int .u8 (48 + (r : Int))] 5)) 43 9 5 ⟨wk.heap.size, 0, none⟩ 1 [48 + UInt8.ofNat r] Tryd.underlying43 Tryd.underlying5 Tryd.underlying9 (fun j hj => by
            have hj0 : j = 0 := by simpa using hj
            subst hj0
            have e4 : (48 + UInt8.ofNat r).toNat = 48 + r := by simp; omega
            have e2 : (⟨wk.heap.size, 0, none⟩ : Addr).add 0 = ⟨wk.heap.size, 0, none⟩ := by unfold Addr.add; split <;> simp_all
            rw [e2, World.cell?_alloc_at _ _ _ 0 rfl]
            simp only [List.getElem_cons_zero, e4]
            rfl)
          exact h
        have hs1 : (⟨#[48 + UInt8.ofNat r]⟩ : ByteArray).size = 1 := rfl
        have hsz : ¬ (9223372036854775807 < 1 + u.size) := by omega
        have hwq : IntKind.i64.wrap (q : Int) = (q : Int) := IntWalk.i64_in _ (by omega)
        have hwr : IntKind.i64.wrap (r : Int) = (r : Int) := IntWalk.i64_in _ (by omega)
        have hr0 : ¬ ((r : Int) < 0) := by omega
        have dr : decide ((r : Int) < 0) = false := decide_eq_false (by omega)
        have hw48 : IntKind.i64.wrap (48 + (r : Int)) = 48 + (r : Int) := IntWalk.i64_in _ (by omega)
        have hsz2 := Lib.hid (show ((⟨#[48 + UInt8.ofNat r]⟩ : ByteArray) ++ u).size + g = 18 from by have := HZ.out; rw [bs_size, hs1]; omega)
        have hz1 := HB.out.size
        have HB2 := Lib.hid (HB.out.alloc hz1 (.cells #[.int .u8 (48 + (r : Int))] 5))
        obtain ⟨u2, hu2⟩ : ∃ x, x = (⟨#[48 + UInt8.ofNat r]⟩ : ByteArray) ++ u := ⟨_, rfl⟩
        rw [← hu2] at HT2 hsz2
        have hu2s := hu2.symm
        have hu2z : u2.size ≤ 18 := by have := hsz2.out; omega
        clear HT HP HB hu2 hmb hz HZ
        go_wp2
        go_roundg g
        case measure => omega
        case rel => exact ⟨q, u2, rfl, rfl, hu2z, hsz2, HP2, HT2, HB2⟩
end Go.Proofs.YtdohepngandajaaDoor
