/-
  Laws for this claim's walks, contracts of the functions that it reaches.
-/
import Derived.Test.YtcilgihmaaobeaaGreatDoorFnLabelsM4
import Derived.Test.YtcilgihmaaobeaaGreatDoorFnLabelsM5
import Derived.Laws.Cover1
set_option linter.unusedVariables false
set_option linter.unusedSimpArgs false
section
namespace Go.Proofs.YtcilgihmaaobeaaGreatDoor
open Go.RowKit Go.Deep Go.Sd
set_option linter.unusedSimpArgs false
/-- A word that may stand at a place of a shift's list. -/
def wdOk (L : Int) (F : List ByteArray) (k : Nat) (f : ByteArray) : Prop := letB L f.data.toList = true ∧ 1 ≤ f.size ∧ f.size ≤ 3 ∧ (0 < k → ∀ p, F[k - 1]? = some p → Op.bytesLess p.toList f.toList = true)
def shiftP (s : Sh) : Prop := (1 ≤ s.1 ∧ s.1 ≤ 3) ∧ s.2.length ≤ 8 ∧ ∀ (k : Nat) (f : ByteArray), s.2[k]? = some f → wdOk s.1 s.2 k f
open Classical in
noncomputable def shiftM (s : Sh) : Bool := decide (shiftP s)
open Classical in
theorem shiftM_yes {s : Sh} (h : shiftP s) : shiftM s = true := by unfold shiftM; exact decide_eq_true h
open Classical in
theorem shiftM_no {s : Sh} (h : ¬ shiftP s) : shiftM s = false := by unfold shiftM; exact decide_eq_false h
open Classical in
theorem shiftM_of {s : Sh} (h : shiftM s = true) : shiftP s := by unfold shiftM at h; exact of_decide_eq_true h
set_option maxHeartbeats 2000000 in
set_option maxRecDepth 100000 in
theorem spec_IsShift_c {w : World} {v : Value} {s : Sh} (h : ShR w v s) (hb : ∀ f, f ∈ s.2 → f.size ≤ 1048576) :
    Calls Tryz.prog 71 #[v] w fun e w' => e = .returned (.bool (shiftM s)) ∧ Below w.heap.size w w' := by
  obtain ⟨L, F⟩ := s
  obtain ⟨va, rfl, ht⟩ := h
  have HY := Lib.hid (fun h => shiftM_yes (s := (L, F)) h)
  have HN := Lib.hid (fun h => shiftM_no (s := (L, F)) h)
  generalize shiftM (L, F) = T at HY HN ⊢
  simp only at ht hb
  obtain ⟨w0, e0, hb0, c0, c1, m0⟩ := boxA_ex w 37 (.int .i64 L) va
  have ht0 := TsR.frame _ _ _ _ ht hb0
  have hlen := ht0.len
  obtain ⟨a, c, rfl, -, -, hcell⟩ := ht0.shape
  obtain ⟨n, hn⟩ : ∃ n, n = F.length := ⟨_, rfl⟩
  have Hn := Lib.hid hn
  rw [← hn] at hcell hlen c1 e0 ⊢
  have Hcell := Lib.hid hcell
  have HBf := Lib.hid hb
  have HB := Lib.hid hb0
  have HW := Lib.hid (fun f (hf : f ∈ F) => spec_IsWord_c L f w0 (by have := hb f hf; unfold maxLen; omega))
  clear hcell hn ht ht0 hb hb0
  go_enter Tryz.func71, Tryz.ntmps71
  go_wp2
  go_loopg [3] n (fun g i wr => ∃ (j : Nat), i = .int .i64 j ∧ j + g = n ∧ Hid (∀ k f, k < j → F[k]? = some f → (1 ≤ L ∧ L ≤ 3) ∧ wdOk L F k f) ∧ w0 = wr)
  case atStart => exact ⟨0, rfl, by omega, Lib.hid (fun k f hk => absurd hk (Nat.not_lt_zero _)), rfl⟩
  case round =>
    obtain ⟨j, rfl, hj, HK, rfl⟩ := hrel
    by_cases h1 : j < n
    · have h1i : (j : Int) < (n : Int) := by omega
      obtain ⟨g, rfl⟩ : ∃ x, gk = x + 1 := ⟨gk - 1, by omega⟩
      obtain ⟨b, o, rfl, -, hx⟩ := Hcell.out (by omega)
      obtain ⟨f, hf, -⟩ := at_lt (xs := F) (k := j) (by rw [← Hn.out]; exact h1)
      obtain ⟨u, hu, hu2⟩ := hx j f hf
      have hu2' : u = .string f := hu2
      subst hu2'
      have HW1 := Lib.hid (HW.out f (List.mem_of_getElem? hf))
      have hfs := HBf.out f (List.mem_of_getElem? hf)
      have HI := Lib.hid (l1In_c (f.size : Int) 1 3 w0)
      have Hf := Lib.hid hf
      clear hu2
      cases hw : wordM L f with
      | false =>
        have hT := Lib.hid (HN.out fun h => by
          have h2 := h.2.2 j f hf
          unfold wordM at hw
          rw [h2.1, decide_eq_true (show 1 ≤ L ∧ L ≤ 3 from h.1), decide_eq_true (show f.size ≤ 16 by have := h2.2.2.1; omega)] at hw
          exact absurd hw (by decide))
        rw [hw] at HW1
        clear hf hx hw
        go_wp2_with fail
        (with_reducible refine HW1.out.mono ?_)
        rintro e w9 ⟨rfl, hw9⟩
        rw [← hw9]
        clear hw9 w9
        go_wp2
        go_ret
        exact ⟨by rw [hT.out]; rfl, HB.out⟩
      | true =>
        have hwd : (1 ≤ L ∧ L ≤ 3) ∧ letB L f.data.toList = true := by
          unfold wordM at hw
          simp only [Bool.and_eq_true, decide_eq_true_eq] at hw
          exact ⟨hw.1, hw.2.2⟩
        rw [hw] at HW1
        clear hw
        by_cases h13 : 1 ≤ f.size ∧ f.size ≤ 3
        · rw [decide_eq_true (show (1 : Int) ≤ (f.size : Int) by omega), decide_eq_true (show (f.size : Int) ≤ 3 by omega)] at HI
          by_cases hj0 : 0 < j
          · have hj0i : (0 : Int) < (j : Int) := by omega
            obtain ⟨p, hp, -⟩ := at_lt (xs := F) (k := j - 1) (by rw [← Hn.out]; omega)
            obtain ⟨u, hv, hv2⟩ := hx (j - 1) p hp
            have hv2' : u = .string p := hv2
            subst hv2'
            have hjm : ((j : Int) - 1).toNat = j - 1 := by omega
            have hj1 : (0 : Int) ≤ (j : Int) - 1 := by omega
            have hj2 : (j : Int) - 1 < (n : Int) := by omega
            cases hl : Op.bytesLess p.toList f.toList with
            | false =>
              have hT := Lib.hid (HN.out fun h => by
                have h2 := (h.2.2 j f hf).2.2.2 hj0 p hp
                rw [hl] at h2
                cases h2)
              clear hf hx hv2 hp
              go_wp2_with fail
              (with_reducible refine HW1.out.mono ?_)
              rintro e w9 ⟨rfl, hw9⟩
              rw [← hw9]
              clear hw9 w9
              go_wp2_with fail
              (with_reducible refine HI.out.mono ?_)
              rintro e w9 ⟨rfl, hw9⟩
              rw [← hw9]
              clear hw9 w9
              go_wp2
              go_ret
              exact ⟨by rw [hT.out]; rfl, HB.out⟩
            | true =>
              have hK2 := Lib.hid (show ∀ k f, k < j + 1 → F[k]? = some f → (1 ≤ L ∧ L ≤ 3) ∧ wdOk L F k f from fun k f' hk hf' => by
                by_cases e : k = j
                · rw [e, hf] at hf'
                  cases hf'
                  rw [e]
                  exact ⟨hwd.1, hwd.2, h13.1, h13.2, fun _ p' hp' => by rw [hp] at hp'; cases hp'; exact hl⟩
                · exact HK.out k f' (by omega) hf')
              clear hf hx hv2 hp HK hwd
              go_wp2_with fail
              (with_reducible refine HW1.out.mono ?_)
              rintro e w9 ⟨rfl, hw9⟩
              rw [← hw9]
              clear hw9 w9
              go_wp2_with fail
              (with_reducible refine HI.out.mono ?_)
              rintro e w9 ⟨rfl, hw9⟩
              rw [← hw9]
              clear hw9 w9
              go_wp2
              go_roundg g
              case measure => omega
              case rel => exact ⟨j + 1, by go_num, by omega, hK2, rfl⟩
          · obtain rfl : j = 0 := by omega
            have hK2 := Lib.hid (show ∀ k f, k < 0 + 1 → F[k]? = some f → (1 ≤ L ∧ L ≤ 3) ∧ wdOk L F k f from fun k f' hk hf' => by
              obtain rfl : k = 0 := by omega
              rw [hf] at hf'
              cases hf'
              exact ⟨hwd.1, hwd.2, h13.1, h13.2, fun h => absurd h (Nat.not_lt_zero _)⟩)
            clear hf hx HK hwd
            rw [Nat.add_zero] at hu
            have hz : ¬ (0 : Int) < ((0 : Nat) : Int) := by omega
            go_wp2_with fail
            (with_reducible refine HW1.out.mono ?_)
            rintro e w9 ⟨rfl, hw9⟩
            rw [← hw9]
            clear hw9 w9
            go_wp2_with fail
            (with_reducible refine HI.out.mono ?_)
            rintro e w9 ⟨rfl, hw9⟩
            rw [← hw9]
            clear hw9 w9
            go_wp2
            go_roundg g
            case measure => omega
            case rel => exact ⟨0 + 1, by go_num, by omega, hK2, rfl⟩
        · have hT := Lib.hid (HN.out fun h => by
            have h2 := h.2.2 j f hf
            exact h13 ⟨h2.2.1, h2.2.2.1⟩)
          rw [show (decide ((1 : Int) ≤ (f.size : Int)) && decide ((f.size : Int) ≤ 3)) = false from by rw [← Bool.decide_and]; exact decide_eq_false (by omega)] at HI
          clear hf hx
          go_wp2_with fail
          (with_reducible refine HW1.out.mono ?_)
          rintro e w9 ⟨rfl, hw9⟩
          rw [← hw9]
          clear hw9 w9
          go_wp2_with fail
          (with_reducible refine HI.out.mono ?_)
          rintro e w9 ⟨rfl, hw9⟩
          rw [← hw9]
          clear hw9 w9
          go_wp2
          go_ret
          exact ⟨by rw [hT.out]; rfl, HB.out⟩
    · have h1i : ¬ (j : Int) < (n : Int) := by omega
      have HI := Lib.hid (l1In_c L 1 3 w0)
      have hall : ∀ k f, F[k]? = some f → wdOk L F k f := fun k f hk => (HK.out k f (by have := (List.getElem?_eq_some_iff.1 hk).1; rw [← Hn.out] at this; omega) hk).2
      by_cases hL : 1 ≤ L ∧ L ≤ 3
      · rw [decide_eq_true hL.1, decide_eq_true hL.2] at HI
        by_cases h8 : n ≤ 8
        · have h8i : (n : Int) ≤ 8 := by omega
          have hd8 : decide ((n : Int) ≤ 8) = true := decide_eq_true h8i
          have hT := Lib.hid (HY.out ⟨hL, by rw [← Hn.out]; exact h8, hall⟩)
          clear hall HK
          go_wp2_with fail
          (with_reducible refine HI.out.mono ?_)
          rintro e w9 ⟨rfl, hw9⟩
          rw [← hw9]
          clear hw9 w9
          go_wp2
          go_ret
          exact ⟨by rw [hT.out]; rfl, HB.out⟩
        · have h8i : ¬ (n : Int) ≤ 8 := by omega
          have hd8 : decide ((n : Int) ≤ 8) = false := decide_eq_false h8i
          have hT := Lib.hid (HN.out fun h => h8 (by rw [Hn.out]; exact h.2.1))
          clear hall HK
          go_wp2_with fail
          (with_reducible refine HI.out.mono ?_)
          rintro e w9 ⟨rfl, hw9⟩
          rw [← hw9]
          clear hw9 w9
          go_wp2
          go_ret
          exact ⟨by rw [hT.out]; rfl, HB.out⟩
      · have hT := Lib.hid (HN.out fun h => hL h.1)
        rw [show (decide (1 ≤ L) && decide (L ≤ 3)) = false from by rw [← Bool.decide_and]; exact decide_eq_false hL] at HI
        clear hall HK
        go_wp2_with fail
        (with_reducible refine HI.out.mono ?_)
        rintro e w9 ⟨rfl, hw9⟩
        rw [← hw9]
        clear hw9 w9
        go_wp2
        go_ret
        exact ⟨by rw [hT.out]; rfl, HB.out⟩
end Go.Proofs.YtcilgihmaaobeaaGreatDoor
end
