/-
  StepsFrom, the reference's.
-/
import Derived.Test.YtdohepngandajaaStpB
import Derived.Test.YtdohepngandajaaTurnC
import Derived.Test.YtdohepngandajaaPartsT
import Derived.Test.YtdohepngandajaaSplitSpec
import Derived.Test.YtdohepngandajaaJoinSpec
import Derived.Test.YtdohepngandajaaJoinIn
namespace Go.Proofs.Ytdohepngandajaa
open Go.RowKit Go.Deep Go.Sd
set_option linter.unusedSimpArgs false
theorem drop_cons' {α : Type} {xs : List α} {j : Nat} {x : α} (h : xs[j]? = some x) : xs.drop j = x :: xs.drop (j + 1) := by
  obtain ⟨h1, h2⟩ := List.getElem?_eq_some_iff.1 h
  rw [List.drop_eq_getElem_cons h1, h2]
theorem overP_step {f : List Int → Tbl × Bool} {P : List (List Int)} {j : Nat} {p : List Int} (h : P[j]? = some p) (o : List Tbl) : overP f (P.drop j) o = overP f (P.drop (j + 1)) (addT o (f p).1 (f p).2) := by
  rw [drop_cons' h]; rfl
theorem turnV_eq {m : Tbl} (h : isMat m = true) : turnV m = turnT m m.length := by unfold turnV; rw [if_pos h]
/-- Where a row's value lies. -/
theorem _root_.Go.Sd.Tab.rowAt {w : World} {v : Value} {m : Tbl} (h : Tab w v m) {i : Nat} {r : List Int} (hr : m[i]? = some r) : ∃ b o c a' c', v = .slice (some ⟨b, o, none⟩) m.length c ∧ b < w.heap.size ∧ w.cell? ⟨b, o + i, none⟩ = some (.slice a' r.length c') ∧ Ints w (.slice a' r.length c') r := by
  obtain ⟨a, c, rfl, -, -, hc⟩ := h.shape
  have hi := (List.getElem?_eq_some_iff.1 hr).1
  obtain ⟨b, o, rfl, hb, hx⟩ := hc (by omega)
  obtain ⟨u, hu, hru⟩ := hx i r hr
  obtain ⟨a', c', rfl, -⟩ := hru.shape
  exact ⟨b, o, c, a', c', rfl, hb, hu, hru⟩
theorem getD_of {m : Tbl} {i : Nat} {r : List Int} (h : m[i]? = some r) : m.getD i [] = r := by simp [List.getD, h]
set_option maxHeartbeats 4000000 in
set_option maxRecDepth 100000 in
theorem l19SplO_c {w : World} {lo : Nat} {vm sl : Value} {m : Tbl} {L : List Tbl} {rs : List Res} (hfr : ∀ w', Below lo w w' → Tab w' vm m) (hm : isMat m = true) (h4 : m.length ≤ 4) (hs : Sep lo w (Res.tabs sl L :: rs)) (hlo : lo ≤ w.heap.size) (hL : L.length ≤ 50000) :
    Calls Try.prog 90 #[vm, .bool false, sl] w fun e w' => ∃ sl', e = .returned sl' ∧ Sep lo w' (Res.tabs sl' (overN (splO m) m.length 0 L) :: rs) ∧ Below lo w w' := by
  have Hfr := Lib.hid hfr
  have HS := Lib.hid hs
  have hsq := (isMat_sq hm).1
  have hb0 := (isMat_sq hm).2
  obtain ⟨va, vc, rfl, -, -, hva⟩ := (hfr w (Below.refl _ _)).shape
  obtain ⟨vb, vo, rfl, -, -⟩ := hva (by omega)
  clear hva
  obtain ⟨la, lc, rfl, -⟩ := (New.tabs hs.headNew).shape
  obtain ⟨T, hT⟩ : ∃ T, T = overN (splO m) m.length 0 L := ⟨_, rfl⟩
  rw [← hT]
  have HT := Lib.hid hT.symm
  have Hsq := Lib.hid hsq
  have HM := Lib.hid hm
  have Htn := Lib.hid (show Sq m.length (turnT m m.length) from turnT_sq _ _)
  clear hfr hs hT
  obtain ⟨n, hn⟩ : ∃ n, n = m.length := ⟨_, rfl⟩
  have Hn := Lib.hid hn
  have hn4 : n ≤ 4 := by omega
  have hn0 : 0 < n := by omega
  have HT' := HT
  rw [← hn] at HT' ⊢
  clear HT
  go_enter Try.func90, Try.ntmps90
  obtain ⟨w0, hw0⟩ : ∃ x, x = w := ⟨_, rfl⟩
  have HSt := Lib.hid (show Sep lo w0 (Res.tabs (.slice la L.length lc) L :: rs) from by rw [hw0]; exact HS.out)
  have HB := Lib.hid (show Below lo w w0 from by rw [hw0]; exact Below.refl _ _)
  have hz0 : lo ≤ w0.heap.size := by rw [hw0]; exact hlo
  have HW0 := Lib.hid hw0
  clear hsq hb0 h4 hm hn HS hw0
  go_wp2
  rw [← HW0.out]
  go_loopg [2, 8] n (fun g vs i wr => ∃ (k : Nat) (L1 : List Tbl) (la : Option Addr) (lc : Nat), vs = .slice la L1.length lc ∧ i = .int .i64 k ∧ k + g = n ∧ L1.length ≤ 50000 + 256 * k ∧ Hid (overN (splO m) g k L1 = T) ∧ Hid (Sep lo wr (Res.tabs (.slice la L1.length lc) L1 :: rs)) ∧ Hid (Below lo w0 wr))
  case atStart => exact ⟨0, L, _, _, rfl, rfl, by omega, by omega, HT', HSt, Lib.hid (Below.refl _ _)⟩
  case round =>
    clear HT' HSt hL
    obtain ⟨k, L1, la, lc, rfl, rfl, hk, hL1, HT, HS, HBk⟩ := hrel
    obtain ⟨wk, rfl⟩ : ∃ x, x = wr := ⟨_, rfl⟩
    have zk := HBk.out.size
    by_cases hkn : k < n
    · have hki : (k : Int) < (n : Int) := by omega
      obtain ⟨g, rfl⟩ : ∃ x, gk = x + 1 := ⟨gk - 1, by omega⟩
      have HBW := HBk.out
      have hTab := (show Tab wk (.slice (some ⟨vb, vo, none⟩) n vc) m from by rw [Hn.out]; exact Hfr.out wk (HB.out.trans HBW))
      obtain ⟨row, hrow, -⟩ := at_lt (xs := m) (k := k) (by have := Hn.out; have := Htn.out.1; omega)
      obtain ⟨b, o, c, ra, rc, hv, hbw, g1, hri⟩ := hTab.rowAt hrow
      simp at hv
      obtain ⟨⟨rfl, rfl⟩, -, rfl⟩ := hv
      have HT2 := Lib.hid (show overN (splO m) g (k + 1) (overP (fun p => (splitV m k p, splitOk m k p)) ((partsV row).drop 0) L1) = T from by have h := HT.out; unfold overN at h; unfold splO at h; rw [getD_of hrow] at h; exact h)
      have HP := Lib.hid (spec_PartsOf_c hri)
      have hpb := (partsV_bd row).1
      generalize row.length = rn at *
      generalize partsV row = P at HT2 HP hpb
      clear hTab hrow hri HT HBW
      go_wp2_with fail
      refine HP.out.mono ?_
      rintro e w2 ⟨vp, rfl, hnp, hb2⟩
      obtain ⟨pa, pc, rfl, -⟩ := (New.tab hnp).shape
      have HS2 := Lib.hid (HS.out.new (OTab.kept 3 50).held hb2 (by omega) hnp).swap
      have HB2 := Lib.hid (HBk.out.trans (hb2.mono (by omega)))
      obtain ⟨pn, hpn⟩ : ∃ pn, pn = P.length := ⟨_, rfl⟩
      have Hpn := Lib.hid hpn
      have HS2' := Lib.hid (show Sep lo w2 (Res.tabs (.slice la L1.length lc) L1 :: Res.tab (.slice pa pn pc) P :: rs) from by rw [hpn]; exact (HS.out.new (OTab.kept 3 50).held hb2 (by omega) hnp).swap)
      rw [← hpn] at hpb ⊢
      clear hpn HS2 HP hnp hb2 HS HBk g1 hbw
      go_wp2
      go_loopg [2, 10] pn (fun g2 vs i wr => ∃ (j : Nat) (L2 : List Tbl) (la : Option Addr) (lc : Nat), vs = .slice la L2.length lc ∧ i = .int .i64 j ∧ j + g2 = pn ∧ L2.length ≤ 50000 + 256 * k + j ∧ Hid (overN (splO m) g (k + 1) (overP (fun p => (splitV m k p, splitOk m k p)) (P.drop j) L2) = T) ∧ Hid (Sep lo wr (Res.tabs (.slice la L2.length lc) L2 :: Res.tab (.slice pa pn pc) P :: rs)) ∧ Hid (Below lo w0 wr))
      case atStart => exact ⟨0, L1, _, _, rfl, rfl, by omega, by omega, HT2, HS2', HB2⟩
      case round =>
        clear HT2 HS2' HB2 hL1 zk
        obtain ⟨j, L2, la, lc, rfl, rfl, hj, hL2, HT, HS, HBk⟩ := hrel
        obtain ⟨wj, rfl⟩ : ∃ x, x = wr := ⟨_, rfl⟩
        have zj := HBk.out.size
        by_cases hjp : j < pn
        · have hji : (j : Int) < (pn : Int) := by omega
          have HBW := HBk.out
          have hTab := (show Tab wj (.slice (some ⟨vb, vo, none⟩) n vc) m from by rw [Hn.out]; exact Hfr.out wj (HB.out.trans HBW))
          obtain ⟨p, hp, -⟩ := at_lt (xs := P) (k := j) (by have := Hpn.out; omega)
          have hTp : Tab wj (.slice pa pn pc) P := by obtain ⟨G, h1, -⟩ := HS.out.get (r := Res.tab (.slice pa pn pc) P) (by simp); exact OTab.reads h1
          obtain ⟨b, o, c, ra, rc, hv, hbw, g1, hri⟩ := hTp.rowAt hp
          simp only [Value.slice.injEq] at hv
          obtain ⟨rfl, -, rfl⟩ := hv
          have HT2 := Lib.hid (show overN (splO m) g (k + 1) (overP (fun p => (splitV m k p, splitOk m k p)) (P.drop (j + 1)) (addT L2 (splitV m k p) (splitOk m k p))) = T from by have h := HT.out; rw [overP_step hp] at h; exact h)
          have hadl := addT_len L2 (splitV m k p) (splitOk m k p)
          have HCs := Lib.hid (spec_SplitOut_c (i := (k : Int)) hTab hri)
          generalize p.length = pl at *
          clear hTp hp hri HT HBW hTab
          have Hsqr := Lib.hid (fun (h : splitOk m k p = true) => splO_sq h)
          generalize splitV m k p = M at HCs HT2 hadl Hsqr
          generalize splitOk m k p = ok at HCs HT2 hadl Hsqr
          go_wp2_with fail
          refine HCs.out.mono ?_
          rintro e w3 ⟨x, rfl, hnx, hb3⟩
          obtain ⟨xa, xc, rfl, -⟩ := (New.tab hnx).shape
          have hs3 := (HS.out.new (OTab.kept 3 50).held hb3 (by omega) hnx).swap
          have hz3 := hb3.size
          have HB3 := Lib.hid (HBk.out.trans (hb3.mono (by omega)))
          have HCa := Lib.hid (l19Add_c hs3 (by omega) Hsqr.out (by omega))
          generalize M.length = ml at *
          clear hs3 hnx hb3 HCs HS HBk
          cases ok <;> (
            go_wp2_with fail
            refine HCa.out.mono ?_
            rintro e w5 ⟨sl', rfl, hs5, hb5⟩
            obtain ⟨la', lc', rfl, -⟩ := (New.tabs hs5.headNew).shape
            have HS5 := Lib.hid hs5
            have HB5 := Lib.hid (HB3.out.trans hb5)
            clear hs5 hb5 HCa HB3 Hsqr
            go_wp2
            go_roundg (pn - (j + 1))
            case measure => omega
            case rel => exact ⟨j + 1, _, la', lc', rfl, by go_num, by omega, by omega, HT2, HS5, HB5⟩)
        · have hji : ¬ ((j : Int) < (pn : Int)) := by omega
          have HTy := Lib.hid (show overN (splO m) g (k + 1) L2 = T from by have h := HT.out; rw [drop_len (by have := Hpn.out; omega)] at h; exact h)
          have HSy := Lib.hid (show Sep lo wj (Res.tabs (.slice la L2.length lc) L2 :: rs) from HS.out.swap.tail)
          clear HT HS
          go_wp2
          go_roundg g
          case measure => omega
          case rel => exact ⟨k + 1, L2, la, lc, rfl, by go_num, by omega, by omega, HTy, HSy, HBk⟩
    · have hki : ¬ ((k : Int) < (n : Int)) := by omega
      have hg : gk = 0 := by omega
      have HF := Lib.hid (show L1 = T from by have h := HT.out; rw [hg] at h; exact h)
      have HSf := Lib.hid (show Sep lo wk (Res.tabs (.slice la L1.length lc) L1 :: rs) from HS.out)
      clear HT HS hg
      go_wp2
      go_ret
      exact ⟨_, rfl, by rw [← HF.out]; exact HSf.out, HB.out.trans HBk.out⟩
set_option maxHeartbeats 4000000 in
set_option maxRecDepth 100000 in
theorem l19SplI_c {w : World} {lo : Nat} {vm sl : Value} {m : Tbl} {L : List Tbl} {rs : List Res} (hfr : ∀ w', Below lo w w' → Tab w' vm m) (hm : isMat m = true) (h4 : m.length ≤ 4) (hs : Sep lo w (Res.tabs sl L :: rs)) (hlo : lo ≤ w.heap.size) (hL : L.length ≤ 50000) :
    Calls Try.prog 90 #[vm, .bool true, sl] w fun e w' => ∃ sl', e = .returned sl' ∧ Sep lo w' (Res.tabs sl' (overN (splI m) m.length 0 L) :: rs) ∧ Below lo w w' := by
  have Hfr := Lib.hid hfr
  have HS := Lib.hid hs
  have hsq := (isMat_sq hm).1
  have hb0 := (isMat_sq hm).2
  obtain ⟨va, vc, rfl, -, -, hva⟩ := (hfr w (Below.refl _ _)).shape
  obtain ⟨vb, vo, rfl, -, -⟩ := hva (by omega)
  clear hva
  obtain ⟨la, lc, rfl, -⟩ := (New.tabs hs.headNew).shape
  obtain ⟨T, hT⟩ : ∃ T, T = overN (splI m) m.length 0 L := ⟨_, rfl⟩
  rw [← hT]
  have HT := Lib.hid hT.symm
  have Hsq := Lib.hid hsq
  have HM := Lib.hid hm
  have Htn := Lib.hid (show Sq m.length (turnT m m.length) from turnT_sq _ _)
  clear hfr hs hT
  obtain ⟨n, hn⟩ : ∃ n, n = m.length := ⟨_, rfl⟩
  have Hn := Lib.hid hn
  have hn4 : n ≤ 4 := by omega
  have hn0 : 0 < n := by omega
  have HT' := HT
  rw [← hn] at HT' ⊢
  clear HT
  go_enter Try.func90, Try.ntmps90
  have Htc := Lib.hid (l4Turn_c (Hfr.out w (Below.refl _ _)) hsq (by omega) (by omega))
  rw [← hn] at Htc
  clear hsq hb0 h4 hm hn
  go_wp2_with fail
  refine Htc.out.mono ?_
  rintro e w0 ⟨vt, rfl, hnt, hbt⟩
  obtain ⟨ta, tc, rfl, -, -, hta⟩ := (New.tab hnt).shape
  obtain ⟨tb, to', rfl, -, -⟩ := hta (by rw [show (turnT m n).length = n from (turnT_sq m n).1]; exact hn0)
  clear hta
  have HSt := Lib.hid (show Sep lo w0 (Res.tabs (.slice la L.length lc) L :: Res.tab (.slice (some ⟨tb, to', none⟩) (turnT m n).length tc) (turnT m m.length) :: rs) from by
    have h := (HS.out.new (OTab.kept _ _).held hbt hlo hnt).swap
    rw [show turnT m m.length = turnT m n from by rw [Hn.out]]
    exact h)
  have e1 : (turnT m n).length = n := by rw [Hn.out]; exact Htn.out.1
  rw [e1] at HSt ⊢
  have HB := Lib.hid (hbt.mono hlo)
  have hz0 : lo ≤ w0.heap.size := Nat.le_trans hlo hbt.size
  clear Htc hnt hbt HS e1
  obtain ⟨vt, hvt⟩ : ∃ v : Value, v = .slice (some ⟨tb, to', none⟩) n tc := ⟨_, rfl⟩
  rw [← hvt] at HSt
  have Hvt := Lib.hid hvt
  clear hvt
  go_wp2
  go_loopg [2, 8] n (fun g vs i wr => ∃ (k : Nat) (L1 : List Tbl) (la : Option Addr) (lc : Nat), vs = .slice la L1.length lc ∧ i = .int .i64 k ∧ k + g = n ∧ L1.length ≤ 50000 + 256 * k ∧ Hid (overN (splI m) g k L1 = T) ∧ Hid (Sep lo wr (Res.tabs (.slice la L1.length lc) L1 :: Res.tab vt (turnT m m.length) :: rs)) ∧ Hid (Below lo w0 wr))
  case atStart => exact ⟨0, L, _, _, rfl, rfl, by omega, by omega, HT', HSt, Lib.hid (Below.refl _ _)⟩
  case round =>
    clear HT' HSt hL
    obtain ⟨k, L1, la, lc, rfl, rfl, hk, hL1, HT, HS, HBk⟩ := hrel
    obtain ⟨wk, rfl⟩ : ∃ x, x = wr := ⟨_, rfl⟩
    have zk := HBk.out.size
    by_cases hkn : k < n
    · have hki : (k : Int) < (n : Int) := by omega
      obtain ⟨g, rfl⟩ : ∃ x, gk = x + 1 := ⟨gk - 1, by omega⟩
      have HBW := HBk.out
      have hTab := (show Tab wk (.slice (some ⟨tb, to', none⟩) n tc) (turnT m m.length) from by obtain ⟨G, h1, -⟩ := HS.out.get (r := Res.tab vt (turnT m m.length)) (by simp); rw [← Hvt.out]; exact OTab.reads h1)
      obtain ⟨row, hrow, -⟩ := at_lt (xs := (turnT m m.length)) (k := k) (by have := Hn.out; have := Htn.out.1; omega)
      obtain ⟨b, o, c, ra, rc, hv, hbw, g1, hri⟩ := hTab.rowAt hrow
      simp at hv
      obtain ⟨⟨rfl, rfl⟩, -, rfl⟩ := hv
      have HT2 := Lib.hid (show overN (splI m) g (k + 1) (overP (fun p => (splitInV m k p, splitInOk m k p)) ((partsV row).drop 0) L1) = T from by have h := HT.out; unfold overN at h; unfold splI at h; rw [getD_of hrow] at h; exact h)
      have HP := Lib.hid (spec_PartsOf_c hri)
      have hpb := (partsV_bd row).1
      generalize row.length = rn at *
      generalize partsV row = P at HT2 HP hpb
      clear hTab hrow hri HT HBW
      go_wp2_with fail
      refine HP.out.mono ?_
      rintro e w2 ⟨vp, rfl, hnp, hb2⟩
      obtain ⟨pa, pc, rfl, -⟩ := (New.tab hnp).shape
      have HS2 := Lib.hid (HS.out.new (OTab.kept 3 50).held hb2 (by omega) hnp).swap
      have HB2 := Lib.hid (HBk.out.trans (hb2.mono (by omega)))
      obtain ⟨pn, hpn⟩ : ∃ pn, pn = P.length := ⟨_, rfl⟩
      have Hpn := Lib.hid hpn
      have HS2' := Lib.hid (show Sep lo w2 (Res.tabs (.slice la L1.length lc) L1 :: Res.tab (.slice pa pn pc) P :: Res.tab vt (turnT m m.length) :: rs) from by rw [hpn]; exact (HS.out.new (OTab.kept 3 50).held hb2 (by omega) hnp).swap)
      rw [← hpn] at hpb ⊢
      clear hpn HS2 HP hnp hb2 HS HBk g1 hbw
      go_wp2
      go_loopg [2, 10] pn (fun g2 vs i wr => ∃ (j : Nat) (L2 : List Tbl) (la : Option Addr) (lc : Nat), vs = .slice la L2.length lc ∧ i = .int .i64 j ∧ j + g2 = pn ∧ L2.length ≤ 50000 + 256 * k + j ∧ Hid (overN (splI m) g (k + 1) (overP (fun p => (splitInV m k p, splitInOk m k p)) (P.drop j) L2) = T) ∧ Hid (Sep lo wr (Res.tabs (.slice la L2.length lc) L2 :: Res.tab (.slice pa pn pc) P :: Res.tab vt (turnT m m.length) :: rs)) ∧ Hid (Below lo w0 wr))
      case atStart => exact ⟨0, L1, _, _, rfl, rfl, by omega, by omega, HT2, HS2', HB2⟩
      case round =>
        clear HT2 HS2' HB2 hL1 zk
        obtain ⟨j, L2, la, lc, rfl, rfl, hj, hL2, HT, HS, HBk⟩ := hrel
        obtain ⟨wj, rfl⟩ : ∃ x, x = wr := ⟨_, rfl⟩
        have zj := HBk.out.size
        by_cases hjp : j < pn
        · have hji : (j : Int) < (pn : Int) := by omega
          have HBW := HBk.out
          have hTab := (show Tab wj (.slice (some ⟨tb, to', none⟩) n tc) (turnT m m.length) from by obtain ⟨G, h1, -⟩ := HS.out.get (r := Res.tab vt (turnT m m.length)) (by simp); rw [← Hvt.out]; exact OTab.reads h1)
          obtain ⟨p, hp, -⟩ := at_lt (xs := P) (k := j) (by have := Hpn.out; omega)
          have hTp : Tab wj (.slice pa pn pc) P := by obtain ⟨G, h1, -⟩ := HS.out.get (r := Res.tab (.slice pa pn pc) P) (by simp); exact OTab.reads h1
          obtain ⟨b, o, c, ra, rc, hv, hbw, g1, hri⟩ := hTp.rowAt hp
          simp only [Value.slice.injEq] at hv
          obtain ⟨rfl, -, rfl⟩ := hv
          have HT2 := Lib.hid (show overN (splI m) g (k + 1) (overP (fun p => (splitInV m k p, splitInOk m k p)) (P.drop (j + 1)) (addT L2 (splitInV m k p) (splitInOk m k p))) = T from by have h := HT.out; rw [overP_step hp] at h; exact h)
          have hadl := addT_len L2 (splitInV m k p) (splitInOk m k p)
          have HCs := Lib.hid (spec_SplitOut_c (i := (k : Int)) hTab hri)
          generalize p.length = pl at *
          clear hTp hp hri HT HBW hTab
          have Hsqr := Lib.hid (fun (h : splitInOk m k p = true) => splI_sq h)
          have eT := turnV_eq HM.out
          have HV := Lib.hid (show splitInV m k p = if splitOk (turnT m m.length) k p = true then turnT (splitV (turnT m m.length) k p) (splitV (turnT m m.length) k p).length else [] from by unfold splitInV; rw [eT])
          have HV0 := Lib.hid (show splitOk (turnT m m.length) k p = false → splitV (turnT m m.length) k p = [] from fun h => by unfold splitV; rw [if_neg (by rw [h]; simp)])
          have HO := Lib.hid (show splitInOk m k p = splitOk (turnT m m.length) k p from by unfold splitInOk; rw [eT])
          have Hq := Lib.hid (fun (h : splitOk (turnT m m.length) k p = true) => splitOk_sq h)
          generalize splitInV m k p = M at HT2 hadl Hsqr HV
          generalize splitInOk m k p = okI at HT2 hadl Hsqr HO
          generalize splitV (turnT m m.length) k p = M0 at HCs HV HV0 Hq
          generalize splitOk (turnT m m.length) k p = ok at HCs HV HV0 Hq HO
          have e := HO.out
          subst e
          clear eT HO
          go_wp2_with fail
          refine HCs.out.mono ?_
          rintro e w3 ⟨x, rfl, hnx, hb3⟩
          have hz3 := hb3.size
          have HB3 := Lib.hid (HBk.out.trans (hb3.mono (by omega)))
          have Hnx := Lib.hid hnx
          obtain ⟨xa, xc, rfl, -⟩ := (New.tab hnx).shape
          have Hb3 := Lib.hid hb3
          clear hnx hb3 HCs HBk
          cases okI with
          | true =>
          obtain ⟨q, hq1, hq2, hq3⟩ := Hq.out (by first | rfl | trivial)
          have HM2 := Lib.hid (show M = turnT M0 M0.length from by have h := HV.out; rwa [if_pos (by first | rfl | trivial)] at h)
          have HCt := Lib.hid (l4Turn_c (New.tab Hnx.out) hq1 hq2 hq3)
          have HMq := Lib.hid (show turnT M0 q = M from by rw [HM2.out, hq1.1])
          generalize M0.length = ml0 at *
          clear hq1 hq2 hq3 HM2 HV HV0 Hq
          go_wp2_with fail
          refine HCt.out.mono ?_
          rintro e w4 ⟨y, rfl, hny, hb4⟩
          rw [HMq.out] at hny
          obtain ⟨ya, yc, rfl, -⟩ := (New.tab hny).shape
          have hz4 := hb4.size
          have hs3 := ((HS.out.below Hb3.out (Nat.le_refl _)).new (OTab.kept 3 50).held hb4 (by omega) hny).swap
          replace HB3 := Lib.hid (HB3.out.trans (hb4.mono (by omega)))
          have HCa := Lib.hid (l19Add_c (ok := true) hs3 (by omega) (fun _ => Hsqr.out (by first | rfl | trivial)) (by omega))
          generalize M.length = ml at *
          clear hs3 hny hb4 HCt HS Hnx Hb3 HMq
          go_wp2_with fail
          refine HCa.out.mono ?_
          rintro e w5 ⟨sl', rfl, hs5, hb5⟩
          obtain ⟨la', lc', rfl, -⟩ := (New.tabs hs5.headNew).shape
          have HS5 := Lib.hid hs5
          have HB5 := Lib.hid (HB3.out.trans hb5)
          clear hs5 hb5 HCa HB3 Hsqr
          go_wp2
          go_roundg (pn - (j + 1))
          case measure => omega
          case rel => exact ⟨j + 1, _, la', lc', rfl, by go_num, by omega, by omega, HT2, HS5, HB5⟩
          | false =>
          have HM0 := Lib.hid (HV0.out (by first | rfl | trivial))
          have HM2 := Lib.hid (show M = [] from by have h := HV.out; rwa [if_neg (by simp)] at h)
          have hs3 := (HS.out.new (OTab.kept 3 50).held Hb3.out (by omega) Hnx.out).swap
          rw [HM0.out, ← HM2.out] at hs3
          have eml : M0.length = M.length := by rw [HM0.out, HM2.out]
          try rw [eml]
          try rw [eml] at hs3
          have HCa := Lib.hid (l19Add_c (ok := false) hs3 (by omega) (fun h => by cases h) (by omega))
          generalize M.length = ml at *
          clear hs3 HV HV0 Hq HS Hnx Hb3 eml HM0 HM2
          go_wp2_with fail
          refine HCa.out.mono ?_
          rintro e w5 ⟨sl', rfl, hs5, hb5⟩
          obtain ⟨la', lc', rfl, -⟩ := (New.tabs hs5.headNew).shape
          have HS5 := Lib.hid hs5
          have HB5 := Lib.hid (HB3.out.trans hb5)
          clear hs5 hb5 HCa HB3 Hsqr
          go_wp2
          go_roundg (pn - (j + 1))
          case measure => omega
          case rel => exact ⟨j + 1, _, la', lc', rfl, by go_num, by omega, by omega, HT2, HS5, HB5⟩
        · have hji : ¬ ((j : Int) < (pn : Int)) := by omega
          have HTy := Lib.hid (show overN (splI m) g (k + 1) L2 = T from by have h := HT.out; rw [drop_len (by have := Hpn.out; omega)] at h; exact h)
          have HSy := Lib.hid (show Sep lo wj (Res.tabs (.slice la L2.length lc) L2 :: Res.tab vt (turnT m m.length) :: rs) from HS.out.swap.tail)
          clear HT HS
          go_wp2
          go_roundg g
          case measure => omega
          case rel => exact ⟨k + 1, L2, la, lc, rfl, by go_num, by omega, by omega, HTy, HSy, HBk⟩
    · have hki : ¬ ((k : Int) < (n : Int)) := by omega
      have hg : gk = 0 := by omega
      have HF := Lib.hid (show L1 = T from by have h := HT.out; rw [hg] at h; exact h)
      have HSf := Lib.hid (show Sep lo wk (Res.tabs (.slice la L1.length lc) L1 :: rs) from HS.out.swap.tail)
      clear HT HS hg
      go_wp2
      go_ret
      exact ⟨_, rfl, by rw [← HF.out]; exact HSf.out, HB.out.trans HBk.out⟩
end Go.Proofs.Ytdohepngandajaa
