/-
  Laws for this claim's walks, contracts of the functions that it reaches.
-/
import Derived.Test.YtcilgihmaaobeaaGreatDoorFnLabelsM2
set_option linter.unusedVariables false
set_option linter.unusedSimpArgs false
section
namespace Go.Proofs.YtcilgihmaaobeaaGreatDoor
open Go.RowKit Go.Deep Go.Sd

def letB (k : Int) : List UInt8 → Bool
  | [] => true
  | c :: l => if 97 ≤ c.toNat ∧ (c.toNat : Int) - 97 < k then letB k l else false
def wordM (k : Int) (s : ByteArray) : Bool := decide (1 ≤ k ∧ k ≤ 3) && (decide (s.size ≤ 16) && letB k s.data.toList)
theorem str_len (s : ByteArray) : s.data.toList.length = s.size := by show s.data.toList.length = s.data.size; exact Array.length_toList
theorem str_drop (s : ByteArray) (k : Nat) (h : k < s.size) : s.data.toList.drop k = s[k] :: s.data.toList.drop (k + 1) := by
  have h1 : k < s.data.toList.length := by rw [str_len]; exact h
  rw [List.drop_eq_getElem_cons h1]
  rfl
theorem str_end (s : ByteArray) (k : Nat) (h : ¬ k < s.size) : s.data.toList.drop k = [] := List.drop_eq_nil_of_le (by rw [str_len]; omega)
theorem byte_lt (c : UInt8) : c.toNat < 256 := c.toNat_lt

theorem isLetters_w (k : Int) (w : World) : Calls Tryz.prog 64 #[.int .i64 k] w fun e w' => e = .returned (.bool (decide (1 ≤ k ∧ k ≤ 3))) ∧ w = w' := by
  by_cases h1 : 1 ≤ k
  · by_cases h2 : k ≤ 3
    · have H := Lib.hid (show decide (1 ≤ k ∧ k ≤ 3) = true from decide_eq_true ⟨h1, h2⟩)
      generalize decide (1 ≤ k ∧ k ≤ 3) = T at H ⊢
      go_enter Tryz.func64, Tryz.ntmps64
      go_wp2
      go_ret
      exact ⟨by rw [H.out]; rfl, rfl⟩
    · have H := Lib.hid (show decide (1 ≤ k ∧ k ≤ 3) = false from decide_eq_false (by omega))
      generalize decide (1 ≤ k ∧ k ≤ 3) = T at H ⊢
      go_enter Tryz.func64, Tryz.ntmps64
      go_wp2
      go_ret
      exact ⟨by rw [H.out]; rfl, rfl⟩
  · have H := Lib.hid (show decide (1 ≤ k ∧ k ≤ 3) = false from decide_eq_false (by omega))
    generalize decide (1 ≤ k ∧ k ≤ 3) = T at H ⊢
    go_enter Tryz.func64, Tryz.ntmps64
    go_wp2
    go_ret
    exact ⟨by rw [H.out]; rfl, rfl⟩
set_option maxHeartbeats 1000000 in
theorem areLetters_c (k : Int) (s : ByteArray) (w : World) (hs : s.size ≤ maxLen) :
    Calls Tryz.prog 88 #[.int .i64 k, .string s] w fun e w' => e = .returned (.bool (letB k s.data.toList)) ∧ w = w' := by
  unfold maxLen at hs
  have H0 := Lib.hid (show letB k s.data.toList = letB k (s.data.toList.drop 0) from rfl)
  generalize letB k s.data.toList = T at H0 ⊢
  go_enter Tryz.func88, Tryz.ntmps88
  go_wp2
  go_loopg [8] (s.size) (fun g i wr => ∃ (j : Nat), i = .int .i64 j ∧ j + g = s.size ∧ Hid (T = letB k (s.data.toList.drop j)) ∧ w = wr)
  case atStart => exact ⟨0, rfl, by omega, H0, rfl⟩
  case round =>
    obtain ⟨j, rfl, hj, HK, rfl⟩ := hrel
    by_cases hlt : j < s.size
    · have HK1 := Lib.hid (show T = if 97 ≤ s[j].toNat ∧ (s[j].toNat : Int) - 97 < k then letB k (s.data.toList.drop (j + 1)) else false from by rw [HK.out, str_drop s j hlt]; rfl)
      have hc := byte_lt s[j]
      clear HK H0
      by_cases h1 : 97 ≤ s[j].toNat
      · by_cases h2 : (s[j].toNat : Int) - 97 < k
        · have HK2 := Lib.hid (show T = letB k (s.data.toList.drop (j + 1)) from by rw [HK1.out, if_pos ⟨h1, h2⟩])
          clear HK1
          go_wp2
          go_roundg (s.size - (j + 1))
          case measure => omega
          case rel => exact ⟨j + 1, by go_num, by omega, HK2, rfl⟩
        · have HK2 := Lib.hid (show T = false from by rw [HK1.out, if_neg (fun h => h2 h.2)])
          clear HK1
          go_wp2
          go_ret
          exact ⟨by rw [HK2.out]; rfl, rfl⟩
      · have HK2 := Lib.hid (show T = false from by rw [HK1.out, if_neg (fun h => h1 h.1)])
        clear HK1
        go_wp2
        go_ret
        exact ⟨by rw [HK2.out]; rfl, rfl⟩
    · have HF := Lib.hid (show T = true from by rw [HK.out, str_end s j hlt]; rfl)
      clear HK H0
      go_wp2
      go_ret
      exact ⟨by rw [HF.out]; rfl, rfl⟩
set_option maxHeartbeats 1000000 in
theorem impl_IsWord_c (k : Int) (s : ByteArray) (w : World) (hs : s.size ≤ maxLen) :
    Calls Tryz.prog 59 #[.int .i64 k, .string s] w fun e w' => e = .returned (.bool (wordM k s)) ∧ w = w' := by
  have Ha := Lib.hid (fun w => areLetters_c k s w hs)
  have Hl := Lib.hid (fun w => isLetters_w k w)
  unfold maxLen at hs
  have H0 := Lib.hid (show wordM k s = (decide (1 ≤ k ∧ k ≤ 3) && (decide (s.size ≤ 16) && letB k s.data.toList)) from rfl)
  generalize wordM k s = T at H0 ⊢
  generalize letB k s.data.toList = lb at H0 Ha
  generalize decide (1 ≤ k ∧ k ≤ 3) = kb at H0 Hl
  go_enter Tryz.func59, Tryz.ntmps59
  cases kb with
  | false =>
    go_wp2_with fail
    refine (Hl.out _).mono ?_
    rintro e w' ⟨rfl, rfl⟩
    go_wp2
    go_ret
    exact ⟨by rw [H0.out]; rfl, rfl⟩
  | true =>
    by_cases h16 : s.size ≤ 16
    · have H1 := Lib.hid (show T = lb from by rw [H0.out, decide_eq_true h16]; rfl)
      go_wp2_with fail
      refine (Hl.out _).mono ?_
      rintro e w' ⟨rfl, rfl⟩
      go_wp2_with fail
      refine (Ha.out _).mono ?_
      rintro e w' ⟨rfl, rfl⟩
      go_wp2
      go_ret
      exact ⟨by rw [H1.out]; rfl, rfl⟩
    · have H1 := Lib.hid (show T = false from by rw [H0.out, decide_eq_false h16]; rfl)
      go_wp2_with fail
      refine (Hl.out _).mono ?_
      rintro e w' ⟨rfl, rfl⟩
      go_wp2
      go_ret
      exact ⟨by rw [H1.out]; rfl, rfl⟩
set_option maxHeartbeats 1000000 in
theorem spec_IsWord_c (k : Int) (s : ByteArray) (w : World) (hs : s.size ≤ maxLen) :
    Calls Tryz.prog 60 #[.int .i64 k, .string s] w fun e w' => e = .returned (.bool (wordM k s)) ∧ w = w' := by
  unfold maxLen at hs
  have Hl := Lib.hid (fun w => (show Calls Tryz.prog 57 #[.int .i64 k, .int .i64 1, .int .i64 3] w fun e w' => e = .returned (.bool (decide (1 ≤ k ∧ k ≤ 3))) ∧ w = w' from by rw [Bool.decide_and]; exact l1In_c k 1 3 w))
  have H0 := Lib.hid (show wordM k s = (letB k (s.data.toList.drop 0) && (decide (1 ≤ k ∧ k ≤ 3) && decide (s.size ≤ 16))) from by
    show (decide (1 ≤ k ∧ k ≤ 3) && (decide (s.size ≤ 16) && letB k s.data.toList)) = (letB k s.data.toList && (decide (1 ≤ k ∧ k ≤ 3) && decide (s.size ≤ 16)))
    cases letB k s.data.toList <;> simp)
  generalize wordM k s = T at H0 ⊢
  generalize decide (1 ≤ k ∧ k ≤ 3) = kb at H0 Hl
  go_enter Tryz.func60, Tryz.ntmps60
  go_wp2
  go_loopg [5] (s.size) (fun g i wr => ∃ (j : Nat), i = .int .i64 j ∧ j + g = s.size ∧ Hid (T = (letB k (s.data.toList.drop j) && (kb && decide (s.size ≤ 16)))) ∧ w = wr)
  case atStart => exact ⟨0, rfl, by omega, H0, rfl⟩
  case round =>
    obtain ⟨j, rfl, hj, HK, rfl⟩ := hrel
    by_cases hlt : j < s.size
    · have HK1 := Lib.hid (show T = ((if 97 ≤ s[j].toNat ∧ (s[j].toNat : Int) - 97 < k then letB k (s.data.toList.drop (j + 1)) else false) && (kb && decide (s.size ≤ 16))) from by rw [HK.out, str_drop s j hlt]; rfl)
      have hc := byte_lt s[j]
      clear HK H0
      by_cases h1 : 97 ≤ s[j].toNat
      · by_cases h2 : (s[j].toNat : Int) - 97 < k
        · have HK2 := Lib.hid (show T = (letB k (s.data.toList.drop (j + 1)) && (kb && decide (s.size ≤ 16))) from by rw [HK1.out, if_pos ⟨h1, h2⟩])
          clear HK1
          go_wp2
          go_roundg (s.size - (j + 1))
          case measure => omega
          case rel => exact ⟨j + 1, by go_num, by omega, HK2, rfl⟩
        · have HK2 := Lib.hid (show T = false from by rw [HK1.out, if_neg (fun h => h2 h.2)]; rfl)
          clear HK1
          go_wp2
          go_ret
          exact ⟨by rw [HK2.out]; rfl, rfl⟩
      · have HK2 := Lib.hid (show T = false from by rw [HK1.out, if_neg (fun h => h1 h.1)]; rfl)
        clear HK1
        go_wp2
        go_ret
        exact ⟨by rw [HK2.out]; rfl, rfl⟩
    · have HF := Lib.hid (show T = (kb && decide (s.size ≤ 16)) from by rw [HK.out, str_end s j hlt]; rfl)
      clear HK H0
      cases kb with
      | false =>
        go_wp2_with fail
        refine (Hl.out _).mono ?_
        rintro e w' ⟨rfl, rfl⟩
        go_wp2
        go_ret
        exact ⟨by rw [HF.out]; rfl, rfl⟩
      | true =>
        by_cases h16 : s.size ≤ 16
        · have HG := Lib.hid (show T = true from by rw [HF.out, decide_eq_true h16]; rfl)
          have d16 : decide ((s.size : Int) ≤ 16) = true := decide_eq_true (by omega)
          go_wp2_with fail
          refine (Hl.out _).mono ?_
          rintro e w' ⟨rfl, rfl⟩
          go_wp2
          go_ret
          exact ⟨by rw [HG.out]; rfl, rfl⟩
        · have HG := Lib.hid (show T = false from by rw [HF.out, decide_eq_false h16]; rfl)
          have d16 : decide ((s.size : Int) ≤ 16) = false := decide_eq_false (by omega)
          go_wp2_with fail
          refine (Hl.out _).mono ?_
          rintro e w' ⟨rfl, rfl⟩
          go_wp2
          go_ret
          exact ⟨by rw [HG.out]; rfl, rfl⟩
end Go.Proofs.YtcilgihmaaobeaaGreatDoor
end
