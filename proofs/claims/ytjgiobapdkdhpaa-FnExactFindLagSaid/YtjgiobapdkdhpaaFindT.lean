/-
  FindStep, the program's tables.
-/
import Derived.Test.YtjgiobapdkdhpaaRows
import Derived.Test.YtjgiobapdkdhpaaBase
import Derived.Test.YtjgiobapdkdhpaaTabs
import Derived.Test.YtjgiobapdkdhpaaHarn
import Derived.Test.YtjgiobapdkdhpaaFindM
import Derived.IntWalk
namespace Go.Proofs.Ytjgiobapdkdhpaa
open Go.RowKit Go.Deep Go.Sd

theorem infoT' : (Try.prog.info? 35).map (fun i => (i.zero, i.size, i.bytes)) = some (some (.slice none 0 0), 1, 24) := by kernel_rfl
theorem dig_eq {n X : Nat} (hn : n ≤ 81) : (wrap64 ((n : Int) / (X : Int))).tmod 3 = ((n / X % 3 : Nat) : Int) := by
  have h1 : ((n : Int) / (X : Int)) = ((n / X : Nat) : Int) := by push_cast; rfl
  have h2 : n / X ≤ n := Nat.div_le_self _ _
  rw [h1]
  generalize n / X = q at *
  rw [IntWalk.wrap64_in _ ⟨by omega, by omega⟩, Int.tmod_eq_emod_of_nonneg (by omega)]
  omega
set_option maxHeartbeats 400000 in
theorem power_c {w : World} {e : Nat} (he : e ≤ 8) :
    Calls Try.prog 186 #[.int .i64 3, .int .i64 e] w fun x w' => x = .returned (.int .i64 ((3 ^ e : Nat) : Int)) ∧ w = w' := by
  go_enter Try.func186, Try.ntmps186
  go_wp2
  go_loopg [5, 7] e (fun g v i wr => ∃ (k z : Nat), i = .int .i64 k ∧ v = .int .i64 z ∧ k + g = e ∧ Hid (z = 3 ^ k) ∧ w = wr)
  case atStart => exact ⟨0, 1, rfl, rfl, by omega, Lib.hid rfl, rfl⟩
  case round =>
    obtain ⟨k, z, rfl, rfl, hk, hz, rfl⟩ := hrel
    by_cases hlt : k < e
    · have hz1 : z ≤ 6561 := by rw [hz.out]; exact Nat.le_trans (Nat.pow_le_pow_right (by decide) (by omega : k ≤ 8)) (by decide)
      have R := Lib.hid (show z * 3 = 3 ^ (k + 1) from by rw [hz.out, Nat.pow_succ])
      clear hz
      go_wp2
      go_roundg (e - (k + 1))
      case measure => omega
      case rel => exact ⟨k + 1, z * 3, by go_num, by go_num, by omega, R, rfl⟩
    · have E := Lib.hid (show z = 3 ^ e from by rw [hz.out]; congr 1; omega)
      clear hz
      go_wp2
      go_ret
      exact ⟨by rw [E.out]; rfl, rfl⟩
set_option maxHeartbeats 4000000 in
theorem tables_c {w : World} {p r : Nat} (hp0 : 0 < p) (hp : p ≤ 2) (hr0 : 0 < r) (hr : r ≤ 2) :
    Calls Try.prog 142 #[.int .i64 p, .int .i64 r] w (Makes (OTabs 3 78 35) w (tabsN p r)) := by
  have Hpw := Lib.hid (fun w1 => power_c (w := w1) (e := p * r) (by have := Nat.mul_le_mul hp hr; omega))
  have Hpx := Lib.hid (fun w1 (e : Nat) (he : e ≤ 8) => power_c (w := w1) he)
  have hpr : p * r ≤ 4 := Nat.mul_le_mul hp hr
  obtain ⟨M, hM⟩ : ∃ M, M = 3 ^ (p * r) := ⟨_, rfl⟩
  have hM81 : M ≤ 81 := by rw [hM]; exact Nat.le_trans (Nat.pow_le_pow_right (by decide) hpr) (by decide)
  have HT := Lib.hid (show tabsN p r = ((List.range M).map fun n => tabN n p r) from by rw [hM]; rfl)
  have hprI : ((p : Int) * (r : Int)) = ((p * r : Nat) : Int) := by push_cast; rfl
  have HprI := Lib.hid hprI
  rw [← hM] at Hpw
  clear hM hprI
  generalize tabsN p r = V at HT ⊢
  go_enter Try.func142, Try.ntmps142
  have hm0 : (p : Int) * (r : Int) ≤ 4 := by rw [HprI.out]; omega
  have hm1 : 0 ≤ (p : Int) * (r : Int) := by rw [HprI.out]; omega
  go_wp2_with fail
  rw [HprI.out]
  refine (Hpw.out _).mono ?_
  rintro e w' ⟨rfl, rfl⟩
  go_wp2
  go_loopg [5, 16] M (fun g v ii wr => ∃ (n : Nat), ii = .int .i64 n ∧ n + g = M ∧ Hid (New (OTabs 3 78 35) w.heap.size wr v ((List.range n).map fun n => tabN n p r)) ∧ Hid (Below w.heap.size w wr))
  case atStart => exact ⟨0, rfl, by omega, Lib.hid (New.empty w (Nat.le_refl _)), Lib.hid ((Below.refl _ _).alloc (Nat.le_refl _) _)⟩
  case round =>
    obtain ⟨n, rfl, hn, hnew, hbel⟩ := hrel
    obtain ⟨wo, rfl⟩ : ∃ x, x = wr := ⟨_, rfl⟩
    have hle := hbel.out.size
    by_cases hlt : n < M
    · have HTn := Lib.hid (show (List.range (n + 1)).map (fun n => tabN n p r) = (List.range n).map (fun n => tabN n p r) ++ [tabN n p r] from by rw [List.range_succ, List.map_append]; rfl)
      have Hlen := Lib.hid (show ((List.range n).map fun n => tabN n p r).length = n from by simp)
      have hnM : (n : Int) < (M : Int) := by omega
      go_wp2
      go_loopg [7, 21] p (fun g v ii wr => ∃ (i : Nat), ii = .int .i64 i ∧ i + g = p ∧ Hid (New (OTab 3 78) wo.heap.size wr v ((tabN n p r).take i)) ∧ Hid (Below wo.heap.size wo wr))
      case atStart => exact ⟨0, rfl, by omega, Lib.hid (New.empty wo (Nat.le_refl _)), Lib.hid ((Below.refl _ _).alloc (Nat.le_refl _) _)⟩
      case round =>
        obtain ⟨i, rfl, hi, hni, hbi⟩ := hrel
        obtain ⟨wi, rfl⟩ : ∃ x, x = wr := ⟨_, rfl⟩
        have hle2 := hbi.out.size
        by_cases hlt2 : i < p
        · have hip : (i : Int) < (p : Int) := by omega
          have HTi := Lib.hid (show (tabN n p r).take (i + 1) = (tabN n p r).take i ++ [rowOf' r (fun j => dig n (p * r - 1 - i * r - j))] from (tabOf_take hlt2).symm)
          have Hleni := Lib.hid (show ((tabN n p r).take i).length = i from by rw [List.length_take, tabN_len]; omega)
          have hir0 : 0 ≤ (i : Int) * (r : Int) := Int.mul_nonneg (by omega) (by omega)
          have hir1 : (i : Int) * (r : Int) ≤ 4 := by
            have h1 : i * r ≤ 2 * 2 := Nat.mul_le_mul (by omega) hr
            have h2 : ((i * r : Nat) : Int) = (i : Int) * (r : Int) := by push_cast; rfl
            omega
          have HE := Lib.hid (fun j (hj : j < r) => (show (p : Int) * (r : Int) - 1 - (i : Int) * (r : Int) - (j : Int) = ((p * r - 1 - i * r - j : Nat) : Int) from by
            have h1 := idx_lt hlt2 hj
            have h2 : ((i * r : Nat) : Int) = (i : Int) * (r : Int) := by push_cast; rfl
            have h3 := HprI.out
            omega))
          go_wp2
          go_loopg [9, 26] r (fun g v ii wr => ∃ (j : Nat), ii = .int .i64 j ∧ j + g = r ∧ Hid (New (OInts 3) wi.heap.size wr v ((rowOf' r (fun j => dig n (p * r - 1 - i * r - j))).take j)) ∧ Hid (Below wi.heap.size wi wr))
          case atStart => exact ⟨0, rfl, by omega, Lib.hid (New.empty wi (Nat.le_refl _)), Lib.hid ((Below.refl _ _).alloc (Nat.le_refl _) _)⟩
          case round =>
            obtain ⟨j, rfl, hj, hnj, hbj⟩ := hrel
            obtain ⟨wj, rfl⟩ : ∃ x, x = wr := ⟨_, rfl⟩
            have hle3 := hbj.out.size
            by_cases hlt3 : j < r
            · have hjr : (j : Int) < (r : Int) := by omega
              have HTj := Lib.hid (show (rowOf' r (fun j => dig n (p * r - 1 - i * r - j))).take (j + 1) = (rowOf' r (fun j => dig n (p * r - 1 - i * r - j))).take j ++ [dig n (p * r - 1 - i * r - j)] from (rowOf_take hlt3).symm)
              have Hlenj := Lib.hid (show ((rowOf' r (fun j => dig n (p * r - 1 - i * r - j))).take j).length = j from by rw [List.length_take, rowOf_len]; omega)
              have HEj := Lib.hid (HE.out j hlt3)
              have Hpe := Lib.hid (fun w1 => Hpx.out w1 (p * r - 1 - i * r - j) (by omega))
              have HD := Lib.hid (show dig n (p * r - 1 - i * r - j) = (((n / 3 ^ (p * r - 1 - i * r - j) % 3 : Nat)) : Int) from rfl)
              have hd0 := dig_bd n (p * r - 1 - i * r - j)
              have hX : 0 < 3 ^ (p * r - 1 - i * r - j) := Nat.pow_pos (by decide)
              have hX2 : 3 ^ (p * r - 1 - i * r - j) ≤ 81 := Nat.le_trans (Nat.pow_le_pow_right (by decide) (by omega : p * r - 1 - i * r - j ≤ 4)) (by decide)
              have HDD := Lib.hid (show (wrap64 ((n : Int) / ((3 ^ (p * r - 1 - i * r - j) : Nat) : Int))).tmod 3 = dig n (p * r - 1 - i * r - j) from dig_eq (by omega))
              generalize 3 ^ (p * r - 1 - i * r - j) = X at *
              generalize dig n (p * r - 1 - i * r - j) = D at *
              go_wp2_with fail
              rw [HEj.out]
              refine (Hpe.out _).mono ?_
              rintro e w' ⟨rfl, rfl⟩
              go_wp2_with (first
                | (at_builtin; refine wpl_push (w0 := wj) (lo := wi.heap.size) (y := D) OIntR.kept rfl (.tmp 29) (.tmp 44) 78 rfl 3 (.int .i64 0) 8 Try.underlying78 infoI rfl hnj.out hle3 ((Below.refl _ _).alloc (Nat.le_refl _) _) ⟨[], ⟨rfl, rfl⟩, by simp [Fresh]⟩ (bb := wj.heap.size) (c := 1) (by simp; exact HDD.out) rfl rfl (by rw [Hlenj.out]; omega) (by rw [Hlenj.out]; omega) ?_; intro v3 w3 hn3 _ _ hb3; have Hn3 := Lib.hid hn3; have Hb3 := Lib.hid hb3; clear hn3 hb3)
                | fail)
              have R1 := Lib.hid (show New (OInts 3) wi.heap.size w3 v3 ((rowOf' r (fun j => dig n (p * r - 1 - i * r - j))).take (j + 1)) from by rw [HTj.out]; exact Hn3.out)
              have R2 := Lib.hid (hbj.out.trans Hb3.out)
              clear hnj hbj Hn3 Hb3
              go_roundg (r - (j + 1))
              case measure => omega
              case rel => exact ⟨j + 1, by go_num, by omega, R1, R2⟩
            · have e : j = r := by omega
              subst e
              have Hr := Lib.hid (show New (OInts 3) wi.heap.size wj _ (rowOf' j (fun j' => dig n (p * j - 1 - i * j - j'))) from by have h := hnj.out; rw [rowOf_full] at h; exact h)
              clear hnj
              obtain ⟨_, _, _, rfl⟩ := Hr.out.slice
              go_wp2_with (first
                | (at_builtin; refine wpl_push (w0 := wi) (lo := wo.heap.size) (OInts.kept _) rfl (.tmp 47) (.tmp 49) 35 rfl 78 (.slice none 0 0) 24 Try.underlying35 infoR rfl hni.out hle2 (hbj.out.alloc hle3 _) (New.keep (OInts.kept _) Hr.out ((Below.refl wj.heap.size _).alloc (Nat.le_refl _) _) (Nat.le_refl _)) (bb := wj.heap.size) (c := 1) (by simp) rfl rfl (by rw [Hleni.out]; omega) (by rw [Hleni.out]; omega) ?_; intro v3 w3 hn3 _ _ hb3; have Hn3 := Lib.hid hn3; have Hb3 := Lib.hid hb3; clear hn3 hb3)
                | fail)
              have R1 := Lib.hid (show New (OTab 3 78) wo.heap.size w3 v3 ((tabN n p j).take (i + 1)) from by rw [HTi.out]; exact Hn3.out)
              have R2 := Lib.hid (hbi.out.trans Hb3.out)
              clear hni hbi Hn3 Hb3 hbj Hr
              go_roundg (p - (i + 1))
              case measure => omega
              case rel => exact ⟨i + 1, by go_num, by omega, R1, R2⟩
        · have e : i = p := by omega
          subst e
          have Hr := Lib.hid (show New (OTab 3 78) wo.heap.size wi _ (tabN n i r) from by have h := hni.out; unfold tabN at h; rw [tabOf_full] at h; exact h)
          clear hni
          obtain ⟨_, _, _, rfl⟩ := Hr.out.slice
          go_wp2_with (first
            | (at_builtin; refine wpl_push (w0 := wo) (lo := w.heap.size) (OTab.kept _ _) rfl (.tmp 52) (.tmp 54) 46 rfl 35 (.slice none 0 0) 24 Try.underlying46 infoT' rfl hnew.out hle (hbi.out.alloc hle2 _) (New.keep (OTab.kept _ _) Hr.out ((Below.refl wi.heap.size _).alloc (Nat.le_refl _) _) (Nat.le_refl _)) (bb := wi.heap.size) (c := 1) (by simp) rfl rfl (by rw [Hlen.out]; omega) (by rw [Hlen.out]; omega) ?_; intro v3 w3 hn3 _ _ hb3; have Hn3 := Lib.hid hn3; have Hb3 := Lib.hid hb3; clear hn3 hb3)
            | fail)
          have R1 := Lib.hid (show New (OTabs 3 78 35) w.heap.size w3 v3 ((List.range (n + 1)).map fun n => tabN n i r) from by rw [HTn.out]; exact Hn3.out)
          have R2 := Lib.hid (hbel.out.trans Hb3.out)
          clear hnew hbel Hn3 Hb3 hbi Hr
          go_roundg (M - (n + 1))
          case measure => omega
          case rel => exact ⟨n + 1, by go_num, by omega, R1, R2⟩
    · have e : n = M := by omega
      subst e
      have HF := Lib.hid (show New (OTabs 3 78 35) w.heap.size wo _ V from by rw [HT.out]; exact hnew.out)
      clear hnew
      go_wp2
      go_ret
      exact ⟨_, rfl, HF.out, hbel.out⟩
end Go.Proofs.Ytjgiobapdkdhpaa
