/-
  StepsFrom: the reference's joins.
-/
import Derived.Test.YtdohepngandajaaStpC
import Derived.Test.YtdohepngandajaaTurnC
import Derived.Test.YtdohepngandajaaPartsT
import Derived.Test.YtdohepngandajaaSplitSpec
import Derived.Test.YtdohepngandajaaJoinSpec
import Derived.Test.YtdohepngandajaaJoinIn
namespace Go.Proofs.Ytdohepngandajaa
open Go.RowKit Go.Deep Go.Sd
set_option linter.unusedSimpArgs false
set_option maxHeartbeats 4000000 in
set_option maxRecDepth 100000 in
theorem l19JoiO_c {w : World} {lo : Nat} {vm sl : Value} {m : Tbl} {L : List Tbl} {rs : List Res} (hfr : ∀ w', Below lo w w' → Tab w' vm m) (hm : isMat m = true) (h4 : m.length ≤ 4) (hs : Sep lo w (Res.tabs sl L :: rs)) (hlo : lo ≤ w.heap.size) (hL : L.length ≤ 60000) :
    Calls Try.prog 91 #[vm, .bool false, sl] w fun e w' => ∃ sl', e = .returned sl' ∧ Sep lo w' (Res.tabs sl' (overN (joiO m) m.length 0 L) :: rs) ∧ Below lo w w' := by
  have Hfr := Lib.hid hfr
  have HS := Lib.hid hs
  have hb0 := (isMat_sq hm).2
  obtain ⟨va, vc, rfl, -⟩ := (hfr w (Below.refl _ _)).shape
  obtain ⟨la, lc, rfl, -⟩ := (New.tabs hs.headNew).shape
  obtain ⟨T, hT⟩ : ∃ T, T = overN (joiO m) m.length 0 L := ⟨_, rfl⟩
  rw [← hT]
  have HT := Lib.hid hT.symm
  clear hfr hs hT
  obtain ⟨n, hn⟩ : ∃ n, n = m.length := ⟨_, rfl⟩
  have Hn := Lib.hid hn
  have hn4 : n ≤ 4 := by omega
  have HT' := HT
  rw [← hn] at HT' ⊢
  clear HT hb0 h4 hm hn
  have HB0 := Lib.hid (Below.refl lo w)
  go_enter Try.func91, Try.ntmps91
  go_wp2
  go_loopg [2, 7] n (fun g vs i wr => ∃ (k : Nat) (L1 : List Tbl) (la : Option Addr) (lc : Nat), vs = .slice la L1.length lc ∧ i = .int .i64 k ∧ k + g = n ∧ L1.length ≤ 60000 + 4 * k ∧ Hid (overN (joiO m) g k L1 = T) ∧ Hid (Sep lo wr (Res.tabs (.slice la L1.length lc) L1 :: rs)) ∧ Hid (Below lo w wr))
  case atStart => exact ⟨0, L, _, _, rfl, rfl, by omega, by omega, HT', HS, HB0⟩
  case round =>
    clear HT' HS HB0 hL
    obtain ⟨k, L1, la, lc, rfl, rfl, hk, hL1, HT, HS, HBk⟩ := hrel
    obtain ⟨wk, rfl⟩ : ∃ x, x = wr := ⟨_, rfl⟩
    by_cases hkn : k < n
    · have hki : (k : Int) < (n : Int) := by omega
      obtain ⟨g, rfl⟩ : ∃ x, gk = x + 1 := ⟨gk - 1, by omega⟩
      have HT2 := Lib.hid (show overN (joiO m) g (k + 1) (overN (fun (j : Nat) o => addT o (joinV m k j) (joinOk m k j)) (n - (k + 1)) (k + 1) L1) = T from by have h : overN (joiO m) g (k + 1) (joiO m k L1) = T := HT.out; rw [show joiO m k L1 = overN (fun (j : Nat) o => addT o (joinV m k j) (joinOk m k j)) (n - (k + 1)) (k + 1) L1 from by unfold joiO; rw [← Hn.out]] at h; exact h)
      clear HT
      go_wp2
      go_loopg [2, 8] (n - (k + 1)) (fun g2 vs i wr => ∃ (j : Nat) (L2 : List Tbl) (la : Option Addr) (lc : Nat), vs = .slice la L2.length lc ∧ i = .int .i64 j ∧ j + g2 = n ∧ k < j ∧ L2.length ≤ 60000 + 4 * k + (j - (k + 1)) ∧ Hid (overN (joiO m) g (k + 1) (overN (fun (j : Nat) o => addT o (joinV m k j) (joinOk m k j)) g2 j L2) = T) ∧ Hid (Sep lo wr (Res.tabs (.slice la L2.length lc) L2 :: rs)) ∧ Hid (Below lo w wr))
      case atStart => exact ⟨k + 1, L1, _, _, rfl, by go_num, by omega, by omega, by omega, HT2, HS, HBk⟩
      case round =>
        clear HT2 HS HBk hL1
        obtain ⟨j, L2, la, lc, rfl, rfl, hj, hkj, hL2, HT, HS, HBk⟩ := hrel
        obtain ⟨wj, rfl⟩ : ∃ x, x = wr := ⟨_, rfl⟩
        have zj := HBk.out.size
        by_cases hjn : j < n
        · have hji : (j : Int) < (n : Int) := by omega
          obtain ⟨g2, hg2⟩ : ∃ x, gk = x + 1 := ⟨gk - 1, by omega⟩
          subst hg2
          have HT2 := Lib.hid (show overN (joiO m) g (k + 1) (overN (fun (j : Nat) o => addT o (joinV m k j) (joinOk m k j)) g2 (j + 1) (addT L2 (joinV m k j) (joinOk m k j))) = T from HT.out)
          have hadl := addT_len L2 (joinV m k j) (joinOk m k j)
          have HCs := Lib.hid (spec_JoinOut_c (i := (k : Int)) (j := (j : Int)) (show Tab wj (.slice va n vc) m from by rw [Hn.out]; exact Hfr.out wj HBk.out))
          have Hsqr := Lib.hid (fun (h : joinOk m k j = true) => joiO_sq h)
          clear HT
          generalize joinV m k j = M at HCs HT2 hadl Hsqr
          generalize joinOk m k j = ok at HCs HT2 hadl Hsqr
          go_wp2_with fail
          refine HCs.out.mono ?_
          rintro e w3 ⟨x, rfl, hnx, hb3⟩
          obtain ⟨xa, xc, rfl, -⟩ := (New.tab hnx).shape
          have hz3 := hb3.size
          have hs3 := (HS.out.new (OTab.kept 3 50).held hb3 (by omega) hnx).swap
          have HB3 := Lib.hid (HBk.out.trans (hb3.mono (by omega)))
          have HCa := Lib.hid (l19Add_c hs3 (by omega) Hsqr.out (by omega))
          generalize M.length = ml at *
          clear hs3 hnx hb3 HCs HS HBk
          go_wp2_with fail
          refine HCa.out.mono ?_
          rintro e w5 ⟨sl', rfl, hs5, hb5⟩
          obtain ⟨la', lc', rfl, -⟩ := (New.tabs hs5.headNew).shape
          have HS5 := Lib.hid hs5
          have HB5 := Lib.hid (HB3.out.trans hb5)
          clear hs5 hb5 HCa HB3 Hsqr
          go_wp2
          go_roundg g2
          case measure => omega
          case rel => exact ⟨j + 1, _, la', lc', rfl, by go_num, by omega, by omega, by omega, HT2, HS5, HB5⟩
        · have hji : ¬ ((j : Int) < (n : Int)) := by omega
          have hg2 : gk = 0 := by omega
          have HTy := Lib.hid (show overN (joiO m) g (k + 1) L2 = T from by have h := HT.out; rw [hg2] at h; exact h)
          clear HT hg2
          go_wp2
          go_roundg g
          case measure => omega
          case rel => exact ⟨k + 1, L2, la, lc, rfl, by go_num, by omega, by omega, HTy, HS, HBk⟩
    · have hki : ¬ ((k : Int) < (n : Int)) := by omega
      have hg : gk = 0 := by omega
      have HF := Lib.hid (show L1 = T from by have h := HT.out; rw [hg] at h; exact h)
      clear HT hg
      go_wp2
      go_ret
      exact ⟨_, rfl, by rw [← HF.out]; exact HS.out, HBk.out⟩
set_option maxHeartbeats 4000000 in
set_option maxRecDepth 100000 in
theorem l19JoiI_c {w : World} {lo : Nat} {vm sl : Value} {m : Tbl} {L : List Tbl} {rs : List Res} (hfr : ∀ w', Below lo w w' → Tab w' vm m) (hm : isMat m = true) (h4 : m.length ≤ 4) (hs : Sep lo w (Res.tabs sl L :: rs)) (hlo : lo ≤ w.heap.size) (hL : L.length ≤ 60000) :
    Calls Try.prog 91 #[vm, .bool true, sl] w fun e w' => ∃ sl', e = .returned sl' ∧ Sep lo w' (Res.tabs sl' (overN (joiI m) m.length 0 L) :: rs) ∧ Below lo w w' := by
  have Hfr := Lib.hid hfr
  have HS := Lib.hid hs
  have hb0 := (isMat_sq hm).2
  obtain ⟨va, vc, rfl, -⟩ := (hfr w (Below.refl _ _)).shape
  obtain ⟨la, lc, rfl, -⟩ := (New.tabs hs.headNew).shape
  obtain ⟨T, hT⟩ : ∃ T, T = overN (joiI m) m.length 0 L := ⟨_, rfl⟩
  rw [← hT]
  have HT := Lib.hid hT.symm
  clear hfr hs hT
  obtain ⟨n, hn⟩ : ∃ n, n = m.length := ⟨_, rfl⟩
  have Hn := Lib.hid hn
  have hn4 : n ≤ 4 := by omega
  have HT' := HT
  rw [← hn] at HT' ⊢
  clear HT hb0 h4 hm hn
  have HB0 := Lib.hid (Below.refl lo w)
  go_enter Try.func91, Try.ntmps91
  go_wp2
  go_loopg [2, 7] n (fun g vs i wr => ∃ (k : Nat) (L1 : List Tbl) (la : Option Addr) (lc : Nat), vs = .slice la L1.length lc ∧ i = .int .i64 k ∧ k + g = n ∧ L1.length ≤ 60000 + 4 * k ∧ Hid (overN (joiI m) g k L1 = T) ∧ Hid (Sep lo wr (Res.tabs (.slice la L1.length lc) L1 :: rs)) ∧ Hid (Below lo w wr))
  case atStart => exact ⟨0, L, _, _, rfl, rfl, by omega, by omega, HT', HS, HB0⟩
  case round =>
    clear HT' HS HB0 hL
    obtain ⟨k, L1, la, lc, rfl, rfl, hk, hL1, HT, HS, HBk⟩ := hrel
    obtain ⟨wk, rfl⟩ : ∃ x, x = wr := ⟨_, rfl⟩
    by_cases hkn : k < n
    · have hki : (k : Int) < (n : Int) := by omega
      obtain ⟨g, rfl⟩ : ∃ x, gk = x + 1 := ⟨gk - 1, by omega⟩
      have HT2 := Lib.hid (show overN (joiI m) g (k + 1) (overN (fun (j : Nat) o => addT o (joinInV m k j) (joinInOk m k j)) (n - (k + 1)) (k + 1) L1) = T from by have h : overN (joiI m) g (k + 1) (joiI m k L1) = T := HT.out; rw [show joiI m k L1 = overN (fun (j : Nat) o => addT o (joinInV m k j) (joinInOk m k j)) (n - (k + 1)) (k + 1) L1 from by unfold joiI; rw [← Hn.out]] at h; exact h)
      clear HT
      go_wp2
      go_loopg [2, 8] (n - (k + 1)) (fun g2 vs i wr => ∃ (j : Nat) (L2 : List Tbl) (la : Option Addr) (lc : Nat), vs = .slice la L2.length lc ∧ i = .int .i64 j ∧ j + g2 = n ∧ k < j ∧ L2.length ≤ 60000 + 4 * k + (j - (k + 1)) ∧ Hid (overN (joiI m) g (k + 1) (overN (fun (j : Nat) o => addT o (joinInV m k j) (joinInOk m k j)) g2 j L2) = T) ∧ Hid (Sep lo wr (Res.tabs (.slice la L2.length lc) L2 :: rs)) ∧ Hid (Below lo w wr))
      case atStart => exact ⟨k + 1, L1, _, _, rfl, by go_num, by omega, by omega, by omega, HT2, HS, HBk⟩
      case round =>
        clear HT2 HS HBk hL1
        obtain ⟨j, L2, la, lc, rfl, rfl, hj, hkj, hL2, HT, HS, HBk⟩ := hrel
        obtain ⟨wj, rfl⟩ : ∃ x, x = wr := ⟨_, rfl⟩
        have zj := HBk.out.size
        by_cases hjn : j < n
        · have hji : (j : Int) < (n : Int) := by omega
          obtain ⟨g2, hg2⟩ : ∃ x, gk = x + 1 := ⟨gk - 1, by omega⟩
          subst hg2
          have HT2 := Lib.hid (show overN (joiI m) g (k + 1) (overN (fun (j : Nat) o => addT o (joinInV m k j) (joinInOk m k j)) g2 (j + 1) (addT L2 (joinInV m k j) (joinInOk m k j))) = T from HT.out)
          have hadl := addT_len L2 (joinInV m k j) (joinInOk m k j)
          have HCs := Lib.hid (spec_JoinOut_c (i := (k : Int)) (j := (j : Int)) (show Tab wj (.slice va n vc) m from by rw [Hn.out]; exact Hfr.out wj HBk.out))
          have Hsqr := Lib.hid (fun (h : joinInOk m k j = true) => joiI_sq h)
          clear HT
          have HCi := Lib.hid (fun w3 (hb : Below lo w w3) => spec_JoinIn_c (i := (k : Int)) (j := (j : Int)) (show Tab w3 (.slice va n vc) m from by rw [Hn.out]; exact Hfr.out w3 hb))
          generalize joinInV m k j = M at HCi HT2 hadl Hsqr
          generalize joinInOk m k j = ok at HCi HT2 hadl Hsqr
          generalize joinV m k j = M0 at HCs
          generalize joinOk m k j = ok0 at HCs
          go_wp2_with fail
          refine HCs.out.mono ?_
          rintro e w3 ⟨x0, rfl, hnx, hb3⟩
          obtain ⟨xa0, xc0, rfl, -⟩ := (New.tab hnx).shape
          generalize M0.length = ml0
          have hz3 := hb3.size
          have HB3 := Lib.hid (HBk.out.trans (hb3.mono (by omega)))
          have HS3 := Lib.hid (HS.out.below hb3 (Nat.le_refl _))
          clear hnx hb3 HCs HS HBk
          go_wp2_with fail
          refine (HCi.out _ HB3.out).mono ?_
          rintro e w4 ⟨x, rfl, hnx, hb4⟩
          obtain ⟨xa, xc, rfl, -⟩ := (New.tab hnx).shape
          have hz4 := hb4.size
          have hs3 := (HS3.out.new (OTab.kept 3 50).held hb4 (by omega) hnx).swap
          replace HB3 := Lib.hid (HB3.out.trans (hb4.mono (by omega)))
          have HCa := Lib.hid (l19Add_c hs3 (by omega) Hsqr.out (by omega))
          generalize M.length = ml at *
          clear hs3 hnx hb4 HCi HS3
          go_wp2_with fail
          refine HCa.out.mono ?_
          rintro e w5 ⟨sl', rfl, hs5, hb5⟩
          obtain ⟨la', lc', rfl, -⟩ := (New.tabs hs5.headNew).shape
          have HS5 := Lib.hid hs5
          have HB5 := Lib.hid (HB3.out.trans hb5)
          clear hs5 hb5 HCa HB3 Hsqr
          go_wp2
          go_roundg g2
          case measure => omega
          case rel => exact ⟨j + 1, _, la', lc', rfl, by go_num, by omega, by omega, by omega, HT2, HS5, HB5⟩
        · have hji : ¬ ((j : Int) < (n : Int)) := by omega
          have hg2 : gk = 0 := by omega
          have HTy := Lib.hid (show overN (joiI m) g (k + 1) L2 = T from by have h := HT.out; rw [hg2] at h; exact h)
          clear HT hg2
          go_wp2
          go_roundg g
          case measure => omega
          case rel => exact ⟨k + 1, L2, la, lc, rfl, by go_num, by omega, by omega, HTy, HS, HBk⟩
    · have hki : ¬ ((k : Int) < (n : Int)) := by omega
      have hg : gk = 0 := by omega
      have HF := Lib.hid (show L1 = T from by have h := HT.out; rw [hg] at h; exact h)
      clear HT hg
      go_wp2
      go_ret
      exact ⟨_, rfl, by rw [← HF.out]; exact HS.out, HBk.out⟩
end Go.Proofs.Ytdohepngandajaa
