/-
  Texts of this claim joined: laws for its walks, contracts of the functions that the law reaches.
-/
import Derived.Test.YtlkgkfgpnnahdaaGreatFnStepsM11
import Derived.Test.YtlkgkfgpnnahdaaGreatFnStepsM10
import Derived.Test.YtlkgkfgpnnahdaaGreatFnStepsM9
import Derived.Test.YtlkgkfgpnnahdaaGreatFnStepsM4
import Derived.Test.YtlkgkfgpnnahdaaGreatRows
import Derived.Test.YtlkgkfgpnnahdaaGreatFnStepsM1
import Derived.Test.YtlkgkfgpnnahdaaGreatFnStepsM7
import Derived.Test.YtlkgkfgpnnahdaaGreatFnStepsM2
import Derived.Lib.SmallJoins
import Derived.Handy
section
/-
  StepsFrom, the reference's.
-/
namespace Go.Proofs.YtlkgkfgpnnahdaaGreat
open Go.RowKit Go.Deep Go.Sd
set_option linter.unusedSimpArgs false
theorem drop_cons' {α : Type} {xs : List α} {j : Nat} {x : α} (h : xs[j]? = some x) : xs.drop j = x :: xs.drop (j + 1) := by
  obtain ⟨h1, h2⟩ := List.getElem?_eq_some_iff.1 h
  rw [List.drop_eq_getElem_cons h1, h2]
theorem overP_step {f : List Int → Tbl × Bool} {P : List (List Int)} {j : Nat} {p : List Int} (h : P[j]? = some p) (o : List Tbl) : overP f (P.drop j) o = overP f (P.drop (j + 1)) (addT o (f p).1 (f p).2) := by
  rw [drop_cons' h]; rfl
theorem turnV_eq {m : Tbl} (h : isMat m = true) : turnV m = turnT m m.length := by unfold turnV; rw [if_pos h]
/-- Where a row's value lies. -/
theorem _root_.Go.Sd.Tab.rowAt {w : World} {v : Value} {m : Tbl} (h : Tab w v m) {i : Nat} {r : List Int} (hr : m[i]? = some r) : ∃ b o c a' c', v = .slice (some ⟨b, o, none⟩) m.length c ∧ b < w.heap.size ∧ w.cell? ⟨b, o + i, none⟩ = some (.slice a' r.length c') ∧ Ints w (.slice a' r.length c') r := by
  obtain ⟨a, c, rfl, -, -, hc⟩ := h.shape
  have hi := (List.getElem?_eq_some_iff.1 hr).1
  obtain ⟨b, o, rfl, hb, hx⟩ := hc (by omega)
  obtain ⟨u, hu, hru⟩ := hx i r hr
  obtain ⟨a', c', rfl, -⟩ := hru.shape
  exact ⟨b, o, c, a', c', rfl, hb, hu, hru⟩
theorem getD_of {m : Tbl} {i : Nat} {r : List Int} (h : m[i]? = some r) : m.getD i [] = r := by simp [List.getD, h]
set_option maxHeartbeats 4000000 in
set_option maxRecDepth 100000 in
theorem l19SplO_c {w : World} {lo : Nat} {vm sl : Value} {m : Tbl} {L : List Tbl} {rs : List Res} (hfr : ∀ w', Below lo w w' → Tab w' vm m) (hm : isMat m = true) (h4 : m.length ≤ 4) (hs : Sep lo w (Res.tabs sl L :: rs)) (hlo : lo ≤ w.heap.size) (hL : L.length ≤ 50000) :
    Calls Tryz.prog 51 #[vm, .bool false, sl] w fun e w' => ∃ sl', e = .returned sl' ∧ Sep lo w' (Res.tabs sl' (overN (splO m) m.length 0 L) :: rs) ∧ Below lo w w' := by
  have Hfr := Lib.hid hfr
  have HS := Lib.hid hs
  have hsq := (isMat_sq hm).1
  have hb0 := (isMat_sq hm).2
  obtain ⟨va, vc, rfl, -, -, hva⟩ := (hfr w (Below.refl _ _)).shape
  obtain ⟨vb, vo, rfl, -, -⟩ := hva (by omega)
  clear hva
  obtain ⟨la, lc, rfl, -⟩ := (New.tabs hs.headNew).shape
  obtain ⟨T, hT⟩ : ∃ T, T = overN (splO m) m.length 0 L := ⟨_, rfl⟩
  rw [← hT]
  have HT := Lib.hid hT.symm
  have Hsq := Lib.hid hsq
  have HM := Lib.hid hm
  have Htn := Lib.hid (show Sq m.length (turnT m m.length) from turnT_sq _ _)
  clear hfr hs hT
  obtain ⟨n, hn⟩ : ∃ n, n = m.length := ⟨_, rfl⟩
  have Hn := Lib.hid hn
  have hn4 : n ≤ 4 := by omega
  have hn0 : 0 < n := by omega
  have HT' := HT
  rw [← hn] at HT' ⊢
  clear HT
  go_enter Tryz.func51, Tryz.ntmps51
  obtain ⟨w0, hw0⟩ : ∃ x, x = w := ⟨_, rfl⟩
  have HSt := Lib.hid (show Sep lo w0 (Res.tabs (.slice la L.length lc) L :: rs) from by rw [hw0]; exact HS.out)
  have HB := Lib.hid (show Below lo w w0 from by rw [hw0]; exact Below.refl _ _)
  have hz0 : lo ≤ w0.heap.size := by rw [hw0]; exact hlo
  have HW0 := Lib.hid hw0
  clear hsq hb0 h4 hm hn HS hw0
  go_wp2
  rw [← HW0.out]
  go_loopg [2, 8] n (fun g vs i wr => ∃ (k : Nat) (L1 : List Tbl) (la : Option Addr) (lc : Nat), vs = .slice la L1.length lc ∧ i = .int .i64 k ∧ k + g = n ∧ L1.length ≤ 50000 + 256 * k ∧ Hid (overN (splO m) g k L1 = T) ∧ Hid (Sep lo wr (Res.tabs (.slice la L1.length lc) L1 :: rs)) ∧ Hid (Below lo w0 wr))
  case atStart => exact ⟨0, L, _, _, rfl, rfl, by omega, by omega, HT', HSt, Lib.hid (Below.refl _ _)⟩
  case round =>
    clear HT' HSt hL
    obtain ⟨k, L1, la, lc, rfl, rfl, hk, hL1, HT, HS, HBk⟩ := hrel
    obtain ⟨wk, rfl⟩ : ∃ x, x = wr := ⟨_, rfl⟩
    have zk := HBk.out.size
    by_cases hkn : k < n
    · have hki : (k : Int) < (n : Int) := by omega
      obtain ⟨g, rfl⟩ : ∃ x, gk = x + 1 := ⟨gk - 1, by omega⟩
      have HBW := HBk.out
      have hTab := (show Tab wk (.slice (some ⟨vb, vo, none⟩) n vc) m from by rw [Hn.out]; exact Hfr.out wk (HB.out.trans HBW))
      obtain ⟨row, hrow, -⟩ := at_lt (xs := m) (k := k) (by have := Hn.out; have := Htn.out.1; omega)
      obtain ⟨b, o, c, ra, rc, hv, hbw, g1, hri⟩ := hTab.rowAt hrow
      simp at hv
      obtain ⟨⟨rfl, rfl⟩, -, rfl⟩ := hv
      have HT2 := Lib.hid (show overN (splO m) g (k + 1) (overP (fun p => (splitV m k p, splitOk m k p)) ((partsV row).drop 0) L1) = T from by have h := HT.out; unfold overN at h; unfold splO at h; rw [getD_of hrow] at h; exact h)
      have HP := Lib.hid (spec_PartsOf_c hri)
      have hpb := (partsV_bd row).1
      generalize row.length = rn at *
      generalize partsV row = P at HT2 HP hpb
      clear hTab hrow hri HT HBW
      go_wp2_with fail
      refine HP.out.mono ?_
      rintro e w2 ⟨vp, rfl, hnp, hb2⟩
      obtain ⟨pa, pc, rfl, -⟩ := (New.tab hnp).shape
      have HS2 := Lib.hid (HS.out.new (OTab.kept 3 46).held hb2 (by omega) hnp).swap
      have HB2 := Lib.hid (HBk.out.trans (hb2.mono (by omega)))
      obtain ⟨pn, hpn⟩ : ∃ pn, pn = P.length := ⟨_, rfl⟩
      have Hpn := Lib.hid hpn
      have HS2' := Lib.hid (show Sep lo w2 (Res.tabs (.slice la L1.length lc) L1 :: Res.tab (.slice pa pn pc) P :: rs) from by rw [hpn]; exact (HS.out.new (OTab.kept 3 46).held hb2 (by omega) hnp).swap)
      rw [← hpn] at hpb ⊢
      clear hpn HS2 HP hnp hb2 HS HBk g1 hbw
      go_wp2
      go_loopg [2, 10] pn (fun g2 vs i wr => ∃ (j : Nat) (L2 : List Tbl) (la : Option Addr) (lc : Nat), vs = .slice la L2.length lc ∧ i = .int .i64 j ∧ j + g2 = pn ∧ L2.length ≤ 50000 + 256 * k + j ∧ Hid (overN (splO m) g (k + 1) (overP (fun p => (splitV m k p, splitOk m k p)) (P.drop j) L2) = T) ∧ Hid (Sep lo wr (Res.tabs (.slice la L2.length lc) L2 :: Res.tab (.slice pa pn pc) P :: rs)) ∧ Hid (Below lo w0 wr))
      case atStart => exact ⟨0, L1, _, _, rfl, rfl, by omega, by omega, HT2, HS2', HB2⟩
      case round =>
        clear HT2 HS2' HB2 hL1 zk
        obtain ⟨j, L2, la, lc, rfl, rfl, hj, hL2, HT, HS, HBk⟩ := hrel
        obtain ⟨wj, rfl⟩ : ∃ x, x = wr := ⟨_, rfl⟩
        have zj := HBk.out.size
        by_cases hjp : j < pn
        · have hji : (j : Int) < (pn : Int) := by omega
          have HBW := HBk.out
          have hTab := (show Tab wj (.slice (some ⟨vb, vo, none⟩) n vc) m from by rw [Hn.out]; exact Hfr.out wj (HB.out.trans HBW))
          obtain ⟨p, hp, -⟩ := at_lt (xs := P) (k := j) (by have := Hpn.out; omega)
          have hTp : Tab wj (.slice pa pn pc) P := by obtain ⟨G, h1, -⟩ := HS.out.get (r := Res.tab (.slice pa pn pc) P) (by simp); exact OTab.reads h1
          obtain ⟨b, o, c, ra, rc, hv, hbw, g1, hri⟩ := hTp.rowAt hp
          simp only [Value.slice.injEq] at hv
          obtain ⟨rfl, -, rfl⟩ := hv
          have HT2 := Lib.hid (show overN (splO m) g (k + 1) (overP (fun p => (splitV m k p, splitOk m k p)) (P.drop (j + 1)) (addT L2 (splitV m k p) (splitOk m k p))) = T from by have h := HT.out; rw [overP_step hp] at h; exact h)
          have hadl := addT_len L2 (splitV m k p) (splitOk m k p)
          have HCs := Lib.hid (spec_SplitOut_c (i := (k : Int)) hTab hri)
          generalize p.length = pl at *
          clear hTp hp hri HT HBW hTab
          have Hsqr := Lib.hid (fun (h : splitOk m k p = true) => splO_sq h)
          generalize splitV m k p = M at HCs HT2 hadl Hsqr
          generalize splitOk m k p = ok at HCs HT2 hadl Hsqr
          go_wp2_with fail
          refine HCs.out.mono ?_
          rintro e w3 ⟨x, rfl, hnx, hb3⟩
          obtain ⟨xa, xc, rfl, -⟩ := (New.tab hnx).shape
          have hs3 := (HS.out.new (OTab.kept 3 46).held hb3 (by omega) hnx).swap
          have hz3 := hb3.size
          have HB3 := Lib.hid (HBk.out.trans (hb3.mono (by omega)))
          have HCa := Lib.hid (l19Add_c hs3 (by omega) Hsqr.out (by omega))
          generalize M.length = ml at *
          clear hs3 hnx hb3 HCs HS HBk
          cases ok <;> (
            go_wp2_with fail
            refine HCa.out.mono ?_
            rintro e w5 ⟨sl', rfl, hs5, hb5⟩
            obtain ⟨la', lc', rfl, -⟩ := (New.tabs hs5.headNew).shape
            have HS5 := Lib.hid hs5
            have HB5 := Lib.hid (HB3.out.trans hb5)
            clear hs5 hb5 HCa HB3 Hsqr
            go_wp2
            go_roundg (pn - (j + 1))
            case measure => omega
            case rel => exact ⟨j + 1, _, la', lc', rfl, by go_num, by omega, by omega, HT2, HS5, HB5⟩)
        · have hji : ¬ ((j : Int) < (pn : Int)) := by omega
          have HTy := Lib.hid (show overN (splO m) g (k + 1) L2 = T from by have h := HT.out; rw [drop_len (by have := Hpn.out; omega)] at h; exact h)
          have HSy := Lib.hid (show Sep lo wj (Res.tabs (.slice la L2.length lc) L2 :: rs) from HS.out.swap.tail)
          clear HT HS
          go_wp2
          go_roundg g
          case measure => omega
          case rel => exact ⟨k + 1, L2, la, lc, rfl, by go_num, by omega, by omega, HTy, HSy, HBk⟩
    · have hki : ¬ ((k : Int) < (n : Int)) := by omega
      have hg : gk = 0 := by omega
      have HF := Lib.hid (show L1 = T from by have h := HT.out; rw [hg] at h; exact h)
      have HSf := Lib.hid (show Sep lo wk (Res.tabs (.slice la L1.length lc) L1 :: rs) from HS.out)
      clear HT HS hg
      go_wp2
      go_ret
      exact ⟨_, rfl, by rw [← HF.out]; exact HSf.out, HB.out.trans HBk.out⟩
set_option maxHeartbeats 4000000 in
set_option maxRecDepth 100000 in
theorem l19SplI_c {w : World} {lo : Nat} {vm sl : Value} {m : Tbl} {L : List Tbl} {rs : List Res} (hfr : ∀ w', Below lo w w' → Tab w' vm m) (hm : isMat m = true) (h4 : m.length ≤ 4) (hs : Sep lo w (Res.tabs sl L :: rs)) (hlo : lo ≤ w.heap.size) (hL : L.length ≤ 50000) :
    Calls Tryz.prog 51 #[vm, .bool true, sl] w fun e w' => ∃ sl', e = .returned sl' ∧ Sep lo w' (Res.tabs sl' (overN (splI m) m.length 0 L) :: rs) ∧ Below lo w w' := by
  have Hfr := Lib.hid hfr
  have HS := Lib.hid hs
  have hsq := (isMat_sq hm).1
  have hb0 := (isMat_sq hm).2
  obtain ⟨va, vc, rfl, -, -, hva⟩ := (hfr w (Below.refl _ _)).shape
  obtain ⟨vb, vo, rfl, -, -⟩ := hva (by omega)
  clear hva
  obtain ⟨la, lc, rfl, -⟩ := (New.tabs hs.headNew).shape
  obtain ⟨T, hT⟩ : ∃ T, T = overN (splI m) m.length 0 L := ⟨_, rfl⟩
  rw [← hT]
  have HT := Lib.hid hT.symm
  have Hsq := Lib.hid hsq
  have HM := Lib.hid hm
  have Htn := Lib.hid (show Sq m.length (turnT m m.length) from turnT_sq _ _)
  clear hfr hs hT
  obtain ⟨n, hn⟩ : ∃ n, n = m.length := ⟨_, rfl⟩
  have Hn := Lib.hid hn
  have hn4 : n ≤ 4 := by omega
  have hn0 : 0 < n := by omega
  have HT' := HT
  rw [← hn] at HT' ⊢
  clear HT
  go_enter Tryz.func51, Tryz.ntmps51
  have Htc := Lib.hid (l4Turn_c (Hfr.out w (Below.refl _ _)) hsq (by omega) (by omega))
  rw [← hn] at Htc
  clear hsq hb0 h4 hm hn
  go_wp2_with fail
  refine Htc.out.mono ?_
  rintro e w0 ⟨vt, rfl, hnt, hbt⟩
  obtain ⟨ta, tc, rfl, -, -, hta⟩ := (New.tab hnt).shape
  obtain ⟨tb, to', rfl, -, -⟩ := hta (by rw [show (turnT m n).length = n from (turnT_sq m n).1]; exact hn0)
  clear hta
  have HSt := Lib.hid (show Sep lo w0 (Res.tabs (.slice la L.length lc) L :: Res.tab (.slice (some ⟨tb, to', none⟩) (turnT m n).length tc) (turnT m m.length) :: rs) from by
    have h := (HS.out.new (OTab.kept _ _).held hbt hlo hnt).swap
    rw [show turnT m m.length = turnT m n from by rw [Hn.out]]
    exact h)
  have e1 : (turnT m n).length = n := by rw [Hn.out]; exact Htn.out.1
  rw [e1] at HSt ⊢
  have HB := Lib.hid (hbt.mono hlo)
  have hz0 : lo ≤ w0.heap.size := Nat.le_trans hlo hbt.size
  clear Htc hnt hbt HS e1
  obtain ⟨vt, hvt⟩ : ∃ v : Value, v = .slice (some ⟨tb, to', none⟩) n tc := ⟨_, rfl⟩
  rw [← hvt] at HSt
  have Hvt := Lib.hid hvt
  clear hvt
  go_wp2
  go_loopg [2, 8] n (fun g vs i wr => ∃ (k : Nat) (L1 : List Tbl) (la : Option Addr) (lc : Nat), vs = .slice la L1.length lc ∧ i = .int .i64 k ∧ k + g = n ∧ L1.length ≤ 50000 + 256 * k ∧ Hid (overN (splI m) g k L1 = T) ∧ Hid (Sep lo wr (Res.tabs (.slice la L1.length lc) L1 :: Res.tab vt (turnT m m.length) :: rs)) ∧ Hid (Below lo w0 wr))
  case atStart => exact ⟨0, L, _, _, rfl, rfl, by omega, by omega, HT', HSt, Lib.hid (Below.refl _ _)⟩
  case round =>
    clear HT' HSt hL
    obtain ⟨k, L1, la, lc, rfl, rfl, hk, hL1, HT, HS, HBk⟩ := hrel
    obtain ⟨wk, rfl⟩ : ∃ x, x = wr := ⟨_, rfl⟩
    have zk := HBk.out.size
    by_cases hkn : k < n
    · have hki : (k : Int) < (n : Int) := by omega
      obtain ⟨g, rfl⟩ : ∃ x, gk = x + 1 := ⟨gk - 1, by omega⟩
      have HBW := HBk.out
      have hTab := (show Tab wk (.slice (some ⟨tb, to', none⟩) n tc) (turnT m m.length) from by obtain ⟨G, h1, -⟩ := HS.out.get (r := Res.tab vt (turnT m m.length)) (by simp); rw [← Hvt.out]; exact OTab.reads h1)
      obtain ⟨row, hrow, -⟩ := at_lt (xs := (turnT m m.length)) (k := k) (by have := Hn.out; have := Htn.out.1; omega)
      obtain ⟨b, o, c, ra, rc, hv, hbw, g1, hri⟩ := hTab.rowAt hrow
      simp at hv
      obtain ⟨⟨rfl, rfl⟩, -, rfl⟩ := hv
      have HT2 := Lib.hid (show overN (splI m) g (k + 1) (overP (fun p => (splitInV m k p, splitInOk m k p)) ((partsV row).drop 0) L1) = T from by have h := HT.out; unfold overN at h; unfold splI at h; rw [getD_of hrow] at h; exact h)
      have HP := Lib.hid (spec_PartsOf_c hri)
      have hpb := (partsV_bd row).1
      generalize row.length = rn at *
      generalize partsV row = P at HT2 HP hpb
      clear hTab hrow hri HT HBW
      go_wp2_with fail
      refine HP.out.mono ?_
      rintro e w2 ⟨vp, rfl, hnp, hb2⟩
      obtain ⟨pa, pc, rfl, -⟩ := (New.tab hnp).shape
      have HS2 := Lib.hid (HS.out.new (OTab.kept 3 46).held hb2 (by omega) hnp).swap
      have HB2 := Lib.hid (HBk.out.trans (hb2.mono (by omega)))
      obtain ⟨pn, hpn⟩ : ∃ pn, pn = P.length := ⟨_, rfl⟩
      have Hpn := Lib.hid hpn
      have HS2' := Lib.hid (show Sep lo w2 (Res.tabs (.slice la L1.length lc) L1 :: Res.tab (.slice pa pn pc) P :: Res.tab vt (turnT m m.length) :: rs) from by rw [hpn]; exact (HS.out.new (OTab.kept 3 46).held hb2 (by omega) hnp).swap)
      rw [← hpn] at hpb ⊢
      clear hpn HS2 HP hnp hb2 HS HBk g1 hbw
      go_wp2
      go_loopg [2, 10] pn (fun g2 vs i wr => ∃ (j : Nat) (L2 : List Tbl) (la : Option Addr) (lc : Nat), vs = .slice la L2.length lc ∧ i = .int .i64 j ∧ j + g2 = pn ∧ L2.length ≤ 50000 + 256 * k + j ∧ Hid (overN (splI m) g (k + 1) (overP (fun p => (splitInV m k p, splitInOk m k p)) (P.drop j) L2) = T) ∧ Hid (Sep lo wr (Res.tabs (.slice la L2.length lc) L2 :: Res.tab (.slice pa pn pc) P :: Res.tab vt (turnT m m.length) :: rs)) ∧ Hid (Below lo w0 wr))
      case atStart => exact ⟨0, L1, _, _, rfl, rfl, by omega, by omega, HT2, HS2', HB2⟩
      case round =>
        clear HT2 HS2' HB2 hL1 zk
        obtain ⟨j, L2, la, lc, rfl, rfl, hj, hL2, HT, HS, HBk⟩ := hrel
        obtain ⟨wj, rfl⟩ : ∃ x, x = wr := ⟨_, rfl⟩
        have zj := HBk.out.size
        by_cases hjp : j < pn
        · have hji : (j : Int) < (pn : Int) := by omega
          have HBW := HBk.out
          have hTab := (show Tab wj (.slice (some ⟨tb, to', none⟩) n tc) (turnT m m.length) from by obtain ⟨G, h1, -⟩ := HS.out.get (r := Res.tab vt (turnT m m.length)) (by simp); rw [← Hvt.out]; exact OTab.reads h1)
          obtain ⟨p, hp, -⟩ := at_lt (xs := P) (k := j) (by have := Hpn.out; omega)
          have hTp : Tab wj (.slice pa pn pc) P := by obtain ⟨G, h1, -⟩ := HS.out.get (r := Res.tab (.slice pa pn pc) P) (by simp); exact OTab.reads h1
          obtain ⟨b, o, c, ra, rc, hv, hbw, g1, hri⟩ := hTp.rowAt hp
          simp only [Value.slice.injEq] at hv
          obtain ⟨rfl, -, rfl⟩ := hv
          have HT2 := Lib.hid (show overN (splI m) g (k + 1) (overP (fun p => (splitInV m k p, splitInOk m k p)) (P.drop (j + 1)) (addT L2 (splitInV m k p) (splitInOk m k p))) = T from by have h := HT.out; rw [overP_step hp] at h; exact h)
          have hadl := addT_len L2 (splitInV m k p) (splitInOk m k p)
          have HCs := Lib.hid (spec_SplitOut_c (i := (k : Int)) hTab hri)
          generalize p.length = pl at *
          clear hTp hp hri HT HBW hTab
          have Hsqr := Lib.hid (fun (h : splitInOk m k p = true) => splI_sq h)
          have eT := turnV_eq HM.out
          have HV := Lib.hid (show splitInV m k p = if splitOk (turnT m m.length) k p = true then turnT (splitV (turnT m m.length) k p) (splitV (turnT m m.length) k p).length else [] from by unfold splitInV; rw [eT])
          have HV0 := Lib.hid (show splitOk (turnT m m.length) k p = false → splitV (turnT m m.length) k p = [] from fun h => by unfold splitV; rw [if_neg (by rw [h]; simp)])
          have HO := Lib.hid (show splitInOk m k p = splitOk (turnT m m.length) k p from by unfold splitInOk; rw [eT])
          have Hq := Lib.hid (fun (h : splitOk (turnT m m.length) k p = true) => splitOk_sq h)
          generalize splitInV m k p = M at HT2 hadl Hsqr HV
          generalize splitInOk m k p = okI at HT2 hadl Hsqr HO
          generalize splitV (turnT m m.length) k p = M0 at HCs HV HV0 Hq
          generalize splitOk (turnT m m.length) k p = ok at HCs HV HV0 Hq HO
          have e := HO.out
          subst e
          clear eT HO
          go_wp2_with fail
          refine HCs.out.mono ?_
          rintro e w3 ⟨x, rfl, hnx, hb3⟩
          have hz3 := hb3.size
          have HB3 := Lib.hid (HBk.out.trans (hb3.mono (by omega)))
          have Hnx := Lib.hid hnx
          obtain ⟨xa, xc, rfl, -⟩ := (New.tab hnx).shape
          have Hb3 := Lib.hid hb3
          clear hnx hb3 HCs HBk
          cases okI with
          | true =>
          obtain ⟨q, hq1, hq2, hq3⟩ := Hq.out (by first | rfl | trivial)
          have HM2 := Lib.hid (show M = turnT M0 M0.length from by have h := HV.out; rwa [if_pos (by first | rfl | trivial)] at h)
          have HCt := Lib.hid (l4Turn_c (New.tab Hnx.out) hq1 hq2 hq3)
          have HMq := Lib.hid (show turnT M0 q = M from by rw [HM2.out, hq1.1])
          generalize M0.length = ml0 at *
          clear hq1 hq2 hq3 HM2 HV HV0 Hq
          go_wp2_with fail
          refine HCt.out.mono ?_
          rintro e w4 ⟨y, rfl, hny, hb4⟩
          rw [HMq.out] at hny
          obtain ⟨ya, yc, rfl, -⟩ := (New.tab hny).shape
          have hz4 := hb4.size
          have hs3 := ((HS.out.below Hb3.out (Nat.le_refl _)).new (OTab.kept 3 46).held hb4 (by omega) hny).swap
          replace HB3 := Lib.hid (HB3.out.trans (hb4.mono (by omega)))
          have HCa := Lib.hid (l19Add_c (ok := true) hs3 (by omega) (fun _ => Hsqr.out (by first | rfl | trivial)) (by omega))
          generalize M.length = ml at *
          clear hs3 hny hb4 HCt HS Hnx Hb3 HMq
          go_wp2_with fail
          refine HCa.out.mono ?_
          rintro e w5 ⟨sl', rfl, hs5, hb5⟩
          obtain ⟨la', lc', rfl, -⟩ := (New.tabs hs5.headNew).shape
          have HS5 := Lib.hid hs5
          have HB5 := Lib.hid (HB3.out.trans hb5)
          clear hs5 hb5 HCa HB3 Hsqr
          go_wp2
          go_roundg (pn - (j + 1))
          case measure => omega
          case rel => exact ⟨j + 1, _, la', lc', rfl, by go_num, by omega, by omega, HT2, HS5, HB5⟩
          | false =>
          have HM0 := Lib.hid (HV0.out (by first | rfl | trivial))
          have HM2 := Lib.hid (show M = [] from by have h := HV.out; rwa [if_neg (by simp)] at h)
          have hs3 := (HS.out.new (OTab.kept 3 46).held Hb3.out (by omega) Hnx.out).swap
          rw [HM0.out, ← HM2.out] at hs3
          have eml : M0.length = M.length := by rw [HM0.out, HM2.out]
          try rw [eml]
          try rw [eml] at hs3
          have HCa := Lib.hid (l19Add_c (ok := false) hs3 (by omega) (fun h => by cases h) (by omega))
          generalize M.length = ml at *
          clear hs3 HV HV0 Hq HS Hnx Hb3 eml HM0 HM2
          go_wp2_with fail
          refine HCa.out.mono ?_
          rintro e w5 ⟨sl', rfl, hs5, hb5⟩
          obtain ⟨la', lc', rfl, -⟩ := (New.tabs hs5.headNew).shape
          have HS5 := Lib.hid hs5
          have HB5 := Lib.hid (HB3.out.trans hb5)
          clear hs5 hb5 HCa HB3 Hsqr
          go_wp2
          go_roundg (pn - (j + 1))
          case measure => omega
          case rel => exact ⟨j + 1, _, la', lc', rfl, by go_num, by omega, by omega, HT2, HS5, HB5⟩
        · have hji : ¬ ((j : Int) < (pn : Int)) := by omega
          have HTy := Lib.hid (show overN (splI m) g (k + 1) L2 = T from by have h := HT.out; rw [drop_len (by have := Hpn.out; omega)] at h; exact h)
          have HSy := Lib.hid (show Sep lo wj (Res.tabs (.slice la L2.length lc) L2 :: Res.tab vt (turnT m m.length) :: rs) from HS.out.swap.tail)
          clear HT HS
          go_wp2
          go_roundg g
          case measure => omega
          case rel => exact ⟨k + 1, L2, la, lc, rfl, by go_num, by omega, by omega, HTy, HSy, HBk⟩
    · have hki : ¬ ((k : Int) < (n : Int)) := by omega
      have hg : gk = 0 := by omega
      have HF := Lib.hid (show L1 = T from by have h := HT.out; rw [hg] at h; exact h)
      have HSf := Lib.hid (show Sep lo wk (Res.tabs (.slice la L1.length lc) L1 :: rs) from HS.out.swap.tail)
      clear HT HS hg
      go_wp2
      go_ret
      exact ⟨_, rfl, by rw [← HF.out]; exact HSf.out, HB.out.trans HBk.out⟩
end Go.Proofs.YtlkgkfgpnnahdaaGreat
end

section
/-
  StepsFrom: the reference's joins.
-/
namespace Go.Proofs.YtlkgkfgpnnahdaaGreat
open Go.RowKit Go.Deep Go.Sd
set_option linter.unusedSimpArgs false
set_option maxHeartbeats 4000000 in
set_option maxRecDepth 100000 in
theorem l19JoiO_c {w : World} {lo : Nat} {vm sl : Value} {m : Tbl} {L : List Tbl} {rs : List Res} (hfr : ∀ w', Below lo w w' → Tab w' vm m) (hm : isMat m = true) (h4 : m.length ≤ 4) (hs : Sep lo w (Res.tabs sl L :: rs)) (hlo : lo ≤ w.heap.size) (hL : L.length ≤ 60000) :
    Calls Tryz.prog 52 #[vm, .bool false, sl] w fun e w' => ∃ sl', e = .returned sl' ∧ Sep lo w' (Res.tabs sl' (overN (joiO m) m.length 0 L) :: rs) ∧ Below lo w w' := by
  have Hfr := Lib.hid hfr
  have HS := Lib.hid hs
  have hb0 := (isMat_sq hm).2
  obtain ⟨va, vc, rfl, -⟩ := (hfr w (Below.refl _ _)).shape
  obtain ⟨la, lc, rfl, -⟩ := (New.tabs hs.headNew).shape
  obtain ⟨T, hT⟩ : ∃ T, T = overN (joiO m) m.length 0 L := ⟨_, rfl⟩
  rw [← hT]
  have HT := Lib.hid hT.symm
  clear hfr hs hT
  obtain ⟨n, hn⟩ : ∃ n, n = m.length := ⟨_, rfl⟩
  have Hn := Lib.hid hn
  have hn4 : n ≤ 4 := by omega
  have HT' := HT
  rw [← hn] at HT' ⊢
  clear HT hb0 h4 hm hn
  have HB0 := Lib.hid (Below.refl lo w)
  go_enter Tryz.func52, Tryz.ntmps52
  go_wp2
  go_loopg [2, 7] n (fun g vs i wr => ∃ (k : Nat) (L1 : List Tbl) (la : Option Addr) (lc : Nat), vs = .slice la L1.length lc ∧ i = .int .i64 k ∧ k + g = n ∧ L1.length ≤ 60000 + 4 * k ∧ Hid (overN (joiO m) g k L1 = T) ∧ Hid (Sep lo wr (Res.tabs (.slice la L1.length lc) L1 :: rs)) ∧ Hid (Below lo w wr))
  case atStart => exact ⟨0, L, _, _, rfl, rfl, by omega, by omega, HT', HS, HB0⟩
  case round =>
    clear HT' HS HB0 hL
    obtain ⟨k, L1, la, lc, rfl, rfl, hk, hL1, HT, HS, HBk⟩ := hrel
    obtain ⟨wk, rfl⟩ : ∃ x, x = wr := ⟨_, rfl⟩
    by_cases hkn : k < n
    · have hki : (k : Int) < (n : Int) := by omega
      obtain ⟨g, rfl⟩ : ∃ x, gk = x + 1 := ⟨gk - 1, by omega⟩
      have HT2 := Lib.hid (show overN (joiO m) g (k + 1) (overN (fun (j : Nat) o => addT o (joinV m k j) (joinOk m k j)) (n - (k + 1)) (k + 1) L1) = T from by have h : overN (joiO m) g (k + 1) (joiO m k L1) = T := HT.out; rw [show joiO m k L1 = overN (fun (j : Nat) o => addT o (joinV m k j) (joinOk m k j)) (n - (k + 1)) (k + 1) L1 from by unfold joiO; rw [← Hn.out]] at h; exact h)
      clear HT
      go_wp2
      go_loopg [2, 8] (n - (k + 1)) (fun g2 vs i wr => ∃ (j : Nat) (L2 : List Tbl) (la : Option Addr) (lc : Nat), vs = .slice la L2.length lc ∧ i = .int .i64 j ∧ j + g2 = n ∧ k < j ∧ L2.length ≤ 60000 + 4 * k + (j - (k + 1)) ∧ Hid (overN (joiO m) g (k + 1) (overN (fun (j : Nat) o => addT o (joinV m k j) (joinOk m k j)) g2 j L2) = T) ∧ Hid (Sep lo wr (Res.tabs (.slice la L2.length lc) L2 :: rs)) ∧ Hid (Below lo w wr))
      case atStart => exact ⟨k + 1, L1, _, _, rfl, by go_num, by omega, by omega, by omega, HT2, HS, HBk⟩
      case round =>
        clear HT2 HS HBk hL1
        obtain ⟨j, L2, la, lc, rfl, rfl, hj, hkj, hL2, HT, HS, HBk⟩ := hrel
        obtain ⟨wj, rfl⟩ : ∃ x, x = wr := ⟨_, rfl⟩
        have zj := HBk.out.size
        by_cases hjn : j < n
        · have hji : (j : Int) < (n : Int) := by omega
          obtain ⟨g2, hg2⟩ : ∃ x, gk = x + 1 := ⟨gk - 1, by omega⟩
          subst hg2
          have HT2 := Lib.hid (show overN (joiO m) g (k + 1) (overN (fun (j : Nat) o => addT o (joinV m k j) (joinOk m k j)) g2 (j + 1) (addT L2 (joinV m k j) (joinOk m k j))) = T from HT.out)
          have hadl := addT_len L2 (joinV m k j) (joinOk m k j)
          have HCs := Lib.hid (spec_JoinOut_c (i := (k : Int)) (j := (j : Int)) (show Tab wj (.slice va n vc) m from by rw [Hn.out]; exact Hfr.out wj HBk.out))
          have Hsqr := Lib.hid (fun (h : joinOk m k j = true) => joiO_sq h)
          clear HT
          generalize joinV m k j = M at HCs HT2 hadl Hsqr
          generalize joinOk m k j = ok at HCs HT2 hadl Hsqr
          go_wp2_with fail
          refine HCs.out.mono ?_
          rintro e w3 ⟨x, rfl, hnx, hb3⟩
          obtain ⟨xa, xc, rfl, -⟩ := (New.tab hnx).shape
          have hz3 := hb3.size
          have hs3 := (HS.out.new (OTab.kept 3 46).held hb3 (by omega) hnx).swap
          have HB3 := Lib.hid (HBk.out.trans (hb3.mono (by omega)))
          have HCa := Lib.hid (l19Add_c hs3 (by omega) Hsqr.out (by omega))
          generalize M.length = ml at *
          clear hs3 hnx hb3 HCs HS HBk
          go_wp2_with fail
          refine HCa.out.mono ?_
          rintro e w5 ⟨sl', rfl, hs5, hb5⟩
          obtain ⟨la', lc', rfl, -⟩ := (New.tabs hs5.headNew).shape
          have HS5 := Lib.hid hs5
          have HB5 := Lib.hid (HB3.out.trans hb5)
          clear hs5 hb5 HCa HB3 Hsqr
          go_wp2
          go_roundg g2
          case measure => omega
          case rel => exact ⟨j + 1, _, la', lc', rfl, by go_num, by omega, by omega, by omega, HT2, HS5, HB5⟩
        · have hji : ¬ ((j : Int) < (n : Int)) := by omega
          have hg2 : gk = 0 := by omega
          have HTy := Lib.hid (show overN (joiO m) g (k + 1) L2 = T from by have h := HT.out; rw [hg2] at h; exact h)
          clear HT hg2
          go_wp2
          go_roundg g
          case measure => omega
          case rel => exact ⟨k + 1, L2, la, lc, rfl, by go_num, by omega, by omega, HTy, HS, HBk⟩
    · have hki : ¬ ((k : Int) < (n : Int)) := by omega
      have hg : gk = 0 := by omega
      have HF := Lib.hid (show L1 = T from by have h := HT.out; rw [hg] at h; exact h)
      clear HT hg
      go_wp2
      go_ret
      exact ⟨_, rfl, by rw [← HF.out]; exact HS.out, HBk.out⟩
set_option maxHeartbeats 4000000 in
set_option maxRecDepth 100000 in
theorem l19JoiI_c {w : World} {lo : Nat} {vm sl : Value} {m : Tbl} {L : List Tbl} {rs : List Res} (hfr : ∀ w', Below lo w w' → Tab w' vm m) (hm : isMat m = true) (h4 : m.length ≤ 4) (hs : Sep lo w (Res.tabs sl L :: rs)) (hlo : lo ≤ w.heap.size) (hL : L.length ≤ 60000) :
    Calls Tryz.prog 52 #[vm, .bool true, sl] w fun e w' => ∃ sl', e = .returned sl' ∧ Sep lo w' (Res.tabs sl' (overN (joiI m) m.length 0 L) :: rs) ∧ Below lo w w' := by
  have Hfr := Lib.hid hfr
  have HS := Lib.hid hs
  have hb0 := (isMat_sq hm).2
  obtain ⟨va, vc, rfl, -⟩ := (hfr w (Below.refl _ _)).shape
  obtain ⟨la, lc, rfl, -⟩ := (New.tabs hs.headNew).shape
  obtain ⟨T, hT⟩ : ∃ T, T = overN (joiI m) m.length 0 L := ⟨_, rfl⟩
  rw [← hT]
  have HT := Lib.hid hT.symm
  clear hfr hs hT
  obtain ⟨n, hn⟩ : ∃ n, n = m.length := ⟨_, rfl⟩
  have Hn := Lib.hid hn
  have hn4 : n ≤ 4 := by omega
  have HT' := HT
  rw [← hn] at HT' ⊢
  clear HT hb0 h4 hm hn
  have HB0 := Lib.hid (Below.refl lo w)
  go_enter Tryz.func52, Tryz.ntmps52
  go_wp2
  go_loopg [2, 7] n (fun g vs i wr => ∃ (k : Nat) (L1 : List Tbl) (la : Option Addr) (lc : Nat), vs = .slice la L1.length lc ∧ i = .int .i64 k ∧ k + g = n ∧ L1.length ≤ 60000 + 4 * k ∧ Hid (overN (joiI m) g k L1 = T) ∧ Hid (Sep lo wr (Res.tabs (.slice la L1.length lc) L1 :: rs)) ∧ Hid (Below lo w wr))
  case atStart => exact ⟨0, L, _, _, rfl, rfl, by omega, by omega, HT', HS, HB0⟩
  case round =>
    clear HT' HS HB0 hL
    obtain ⟨k, L1, la, lc, rfl, rfl, hk, hL1, HT, HS, HBk⟩ := hrel
    obtain ⟨wk, rfl⟩ : ∃ x, x = wr := ⟨_, rfl⟩
    by_cases hkn : k < n
    · have hki : (k : Int) < (n : Int) := by omega
      obtain ⟨g, rfl⟩ : ∃ x, gk = x + 1 := ⟨gk - 1, by omega⟩
      have HT2 := Lib.hid (show overN (joiI m) g (k + 1) (overN (fun (j : Nat) o => addT o (joinInV m k j) (joinInOk m k j)) (n - (k + 1)) (k + 1) L1) = T from by have h : overN (joiI m) g (k + 1) (joiI m k L1) = T := HT.out; rw [show joiI m k L1 = overN (fun (j : Nat) o => addT o (joinInV m k j) (joinInOk m k j)) (n - (k + 1)) (k + 1) L1 from by unfold joiI; rw [← Hn.out]] at h; exact h)
      clear HT
      go_wp2
      go_loopg [2, 8] (n - (k + 1)) (fun g2 vs i wr => ∃ (j : Nat) (L2 : List Tbl) (la : Option Addr) (lc : Nat), vs = .slice la L2.length lc ∧ i = .int .i64 j ∧ j + g2 = n ∧ k < j ∧ L2.length ≤ 60000 + 4 * k + (j - (k + 1)) ∧ Hid (overN (joiI m) g (k + 1) (overN (fun (j : Nat) o => addT o (joinInV m k j) (joinInOk m k j)) g2 j L2) = T) ∧ Hid (Sep lo wr (Res.tabs (.slice la L2.length lc) L2 :: rs)) ∧ Hid (Below lo w wr))
      case atStart => exact ⟨k + 1, L1, _, _, rfl, by go_num, by omega, by omega, by omega, HT2, HS, HBk⟩
      case round =>
        clear HT2 HS HBk hL1
        obtain ⟨j, L2, la, lc, rfl, rfl, hj, hkj, hL2, HT, HS, HBk⟩ := hrel
        obtain ⟨wj, rfl⟩ : ∃ x, x = wr := ⟨_, rfl⟩
        have zj := HBk.out.size
        by_cases hjn : j < n
        · have hji : (j : Int) < (n : Int) := by omega
          obtain ⟨g2, hg2⟩ : ∃ x, gk = x + 1 := ⟨gk - 1, by omega⟩
          subst hg2
          have HT2 := Lib.hid (show overN (joiI m) g (k + 1) (overN (fun (j : Nat) o => addT o (joinInV m k j) (joinInOk m k j)) g2 (j + 1) (addT L2 (joinInV m k j) (joinInOk m k j))) = T from HT.out)
          have hadl := addT_len L2 (joinInV m k j) (joinInOk m k j)
          have HCs := Lib.hid (spec_JoinOut_c (i := (k : Int)) (j := (j : Int)) (show Tab wj (.slice va n vc) m from by rw [Hn.out]; exact Hfr.out wj HBk.out))
          have Hsqr := Lib.hid (fun (h : joinInOk m k j = true) => joiI_sq h)
          clear HT
          have HCi := Lib.hid (fun w3 (hb : Below lo w w3) => spec_JoinIn_c (i := (k : Int)) (j := (j : Int)) (show Tab w3 (.slice va n vc) m from by rw [Hn.out]; exact Hfr.out w3 hb))
          generalize joinInV m k j = M at HCi HT2 hadl Hsqr
          generalize joinInOk m k j = ok at HCi HT2 hadl Hsqr
          generalize joinV m k j = M0 at HCs
          generalize joinOk m k j = ok0 at HCs
          go_wp2_with fail
          refine HCs.out.mono ?_
          rintro e w3 ⟨x0, rfl, hnx, hb3⟩
          obtain ⟨xa0, xc0, rfl, -⟩ := (New.tab hnx).shape
          generalize M0.length = ml0
          have hz3 := hb3.size
          have HB3 := Lib.hid (HBk.out.trans (hb3.mono (by omega)))
          have HS3 := Lib.hid (HS.out.below hb3 (Nat.le_refl _))
          clear hnx hb3 HCs HS HBk
          go_wp2_with fail
          refine (HCi.out _ HB3.out).mono ?_
          rintro e w4 ⟨x, rfl, hnx, hb4⟩
          obtain ⟨xa, xc, rfl, -⟩ := (New.tab hnx).shape
          have hz4 := hb4.size
          have hs3 := (HS3.out.new (OTab.kept 3 46).held hb4 (by omega) hnx).swap
          replace HB3 := Lib.hid (HB3.out.trans (hb4.mono (by omega)))
          have HCa := Lib.hid (l19Add_c hs3 (by omega) Hsqr.out (by omega))
          generalize M.length = ml at *
          clear hs3 hnx hb4 HCi HS3
          go_wp2_with fail
          refine HCa.out.mono ?_
          rintro e w5 ⟨sl', rfl, hs5, hb5⟩
          obtain ⟨la', lc', rfl, -⟩ := (New.tabs hs5.headNew).shape
          have HS5 := Lib.hid hs5
          have HB5 := Lib.hid (HB3.out.trans hb5)
          clear hs5 hb5 HCa HB3 Hsqr
          go_wp2
          go_roundg g2
          case measure => omega
          case rel => exact ⟨j + 1, _, la', lc', rfl, by go_num, by omega, by omega, by omega, HT2, HS5, HB5⟩
        · have hji : ¬ ((j : Int) < (n : Int)) := by omega
          have hg2 : gk = 0 := by omega
          have HTy := Lib.hid (show overN (joiI m) g (k + 1) L2 = T from by have h := HT.out; rw [hg2] at h; exact h)
          clear HT hg2
          go_wp2
          go_roundg g
          case measure => omega
          case rel => exact ⟨k + 1, L2, la, lc, rfl, by go_num, by omega, by omega, HTy, HS, HBk⟩
    · have hki : ¬ ((k : Int) < (n : Int)) := by omega
      have hg : gk = 0 := by omega
      have HF := Lib.hid (show L1 = T from by have h := HT.out; rw [hg] at h; exact h)
      clear HT hg
      go_wp2
      go_ret
      exact ⟨_, rfl, by rw [← HF.out]; exact HS.out, HBk.out⟩
end Go.Proofs.YtlkgkfgpnnahdaaGreat
end

section
/-
  StepsFrom, the reference's: the whole.
-/
namespace Go.Proofs.YtlkgkfgpnnahdaaGreat
open Go.RowKit Go.Deep Go.Sd
set_option linter.unusedSimpArgs false
set_option maxHeartbeats 4000000 in
set_option maxRecDepth 100000 in
theorem spec_StepsFrom_c {w : World} {vm : Value} {m : Tbl} (h : Tab w vm m) :
    Calls Tryz.prog 13 #[vm] w (Makes (OTabs 3 46 24) w (stepsV m)) := by
  have Hfr := Lib.hid (fun w' (hb : Below w.heap.size w w') => Tab.frame _ _ _ _ h hb)
  have HI := Lib.hid (fun w' (hb : Below w.heap.size w w') => spec_IsMatrix_c (Tab.frame _ _ _ _ h hb))
  obtain ⟨va, vc, rfl, -⟩ := h.shape
  have hlen := h.len
  obtain ⟨w1, e1⟩ : ∃ x, x = w.alloc (.cells #[] 24) := ⟨_, rfl⟩
  have hb1 : Below w.heap.size w w1 := by rw [e1]; exact (Below.refl _ _).alloc (Nat.le_refl _) _
  have hn1 : New (OTabs 3 46 24) w.heap.size w1 (.slice (some ⟨w.heap.size, 0, none⟩) 0 0) [] := by rw [e1]; exact New.empty w (Nat.le_refl _)
  have hz1 := hb1.size
  have HN1 := Lib.hid hn1
  have HB1 := Lib.hid hb1
  have e1s := e1.symm
  have HI1 := Lib.hid (HI.out w1 hb1)
  have H0 := Lib.hid (fun (h : isMat m = false) => (show stepsV m = [] from by unfold stepsV; rw [if_neg (by rw [h]; simp)]))
  have H4 := Lib.hid (fun (h : 4 < m.length) => (show stepsV m = [] from by unfold stepsV; rw [if_neg (by rintro ⟨-, h2⟩; omega)]))
  have HSp := Lib.hid (fun hm h4 => stepsV_spec m hm h4)
  clear h e1 hb1 hn1 HI
  cases him : isMat m with
  | false =>
    have HF := Lib.hid (H0.out him)
    rw [him] at HI1
    clear H0 H4 HSp Hfr him
    go_enter Tryz.func13, Tryz.ntmps13
    go_wp2_with fail
    refine HI1.out.mono ?_
    rintro e w2 ⟨rfl, rfl⟩
    go_wp2
    go_ret
    exact ⟨_, rfl, by rw [HF.out]; exact HN1.out, HB1.out⟩
  | true =>
  rw [him] at HI1
  have Him := Lib.hid him
  clear him H0
  by_cases h4 : 4 < m.length
  · have HF := Lib.hid (H4.out h4)
    have h4i : (4 : Int) < (m.length : Int) := by omega
    clear H4 HSp Hfr
    go_enter Tryz.func13, Tryz.ntmps13
    go_wp2_with fail
    refine HI1.out.mono ?_
    rintro e w2 ⟨rfl, rfl⟩
    go_wp2
    go_ret
    exact ⟨_, rfl, by rw [HF.out]; exact HN1.out, HB1.out⟩
  have h4i : ¬ ((4 : Int) < (m.length : Int)) := by omega
  have HE := Lib.hid (HSp.out Him.out (by omega))
  have HS1 := Lib.hid (Sep.one (OTabs.kept 3 46 24).held HN1.out)
  have hm4 : m.length ≤ 4 := by omega
  have HJ := Lib.hid (fun (w2 : World) (hb : Below w.heap.size w w2) (sl : Value) (L : List Tbl) (hs : Sep w.heap.size w2 [Res.tabs sl L]) (hl : L.length ≤ 50000) => l19JoiO_c (fun w' hb' => Hfr.out w' (hb.trans hb')) Him.out hm4 hs hb.size (by omega))
  have HJ2 := Lib.hid (fun (w2 : World) (hb : Below w.heap.size w w2) (sl : Value) (L : List Tbl) (hs : Sep w.heap.size w2 [Res.tabs sl L]) (hl : L.length ≤ 60000) => l19JoiI_c (fun w' hb' => Hfr.out w' (hb.trans hb')) Him.out hm4 hs hb.size (by omega))
  have hj4 : ∀ L : List Tbl, (overN (joiO m) m.length 0 L).length ≤ L.length + 16 := fun L => by
    have h1 := overN_len (f := joiO m) (c := 4) (fun i o => by
      have h := overN_len (f := fun j o => addT o (joinV m i j) (joinOk m i j)) (c := 1) (fun j o => addT_len o _ _) (m.length - (i + 1)) (i + 1) o
      unfold joiO
      omega) m.length 0 L
    omega
  have Hj4 := Lib.hid hj4
  clear HSp H4 hj4 h4
  by_cases h3 : m.length < 4
  · have h3i : (m.length : Int) < 4 := by omega
    have HE2 := Lib.hid (show stepsV m = overN (joiI m) m.length 0 (overN (joiO m) m.length 0 (overN (splI m) m.length 0 (overN (splO m) m.length 0 []))) from by rw [HE.out, if_pos h3])
    have HA := Lib.hid (l19SplO_c (fun w' hb' => Hfr.out w' (HB1.out.trans hb')) Him.out hm4 HS1.out hz1 (by simp))
    have HA2 := Lib.hid (fun (w2 : World) (hb : Below w.heap.size w w2) (sl : Value) (L : List Tbl) (hs : Sep w.heap.size w2 [Res.tabs sl L]) (hl : L.length ≤ 50000) => l19SplI_c (fun w' hb' => Hfr.out w' (hb.trans hb')) Him.out hm4 hs hb.size hl)
    have hl1 := overN_len (f := splO m) (c := 256) (splO_len m) m.length 0 []
    have hl2 := overN_len (f := splI m) (c := 256) (splI_len m) m.length 0 (overN (splO m) m.length 0 [])
    simp only [List.length_nil] at hl1
    generalize overN (splO m) m.length 0 [] = L1 at HA HE2 hl1 hl2
    obtain ⟨L2, hL2⟩ : ∃ L, L = overN (splI m) m.length 0 L1 := ⟨_, rfl⟩
    rw [← hL2] at HE2 hl2
    have HL2e := Lib.hid hL2.symm
    clear hL2
    have HL1 := Lib.hid (show L1.length ≤ 4000 from by omega)
    have HL2 := Lib.hid (show L2.length ≤ 8000 from by omega)
    clear hl1 hl2 HE h3 Hfr HS1 HN1
    go_enter Tryz.func13, Tryz.ntmps13
    go_wp2_with fail
    refine HI1.out.mono ?_
    rintro e w2 ⟨rfl, rfl⟩
    go_wp2_with fail
    refine HA.out.mono ?_
    rintro e w3 ⟨s1, rfl, hs1, hb1⟩
    obtain ⟨a1, c1, rfl, -⟩ := (New.tabs hs1.headNew).shape
    have HB3 := Lib.hid (HB1.out.trans hb1)
    have HC := Lib.hid (HA2.out w3 HB3.out _ _ hs1 (by have := HL1.out; omega))
    rw [HL2e.out] at HC
    generalize L1.length = ln1 at *
    clear hs1 hb1 HA HA2
    go_wp2_with fail
    refine HC.out.mono ?_
    rintro e w4 ⟨s2, rfl, hs2, hb2⟩
    obtain ⟨a2, c2, rfl, -⟩ := (New.tabs hs2.headNew).shape
    have HB4 := Lib.hid (HB3.out.trans hb2)
    have HD := Lib.hid (HJ.out w4 HB4.out _ _ hs2 (by have := HL2.out; omega))
    clear hs2 hb2 HC HB3
    go_wp2_with fail
    refine HD.out.mono ?_
    rintro e w5 ⟨s3, rfl, hs3, hb3⟩
    obtain ⟨a3, c3, rfl, -⟩ := (New.tabs hs3.headNew).shape
    have HB5 := Lib.hid (HB4.out.trans hb3)
    have HK := Lib.hid (HJ2.out w5 HB5.out _ _ hs3 (by have := Hj4.out L2; have := HL2.out; omega))
    generalize overN (joiO m) m.length 0 L2 = L3 at HK HE2 hs3
    try generalize L3.length = ln3 at *
    clear hs3 hb3 HD HB4
    go_wp2_with fail
    refine HK.out.mono ?_
    rintro e w6 ⟨s4, rfl, hs4, hb4⟩
    obtain ⟨a4, c4, rfl, -⟩ := (New.tabs hs4.headNew).shape
    have HN6 := Lib.hid hs4.headNew
    have HB6 := Lib.hid (HB5.out.trans hb4)
    clear hs4 hb4 HK
    go_wp2
    go_ret
    exact ⟨_, rfl, by rw [HE2.out]; exact HN6.out, HB6.out⟩
  · have h3i : ¬ ((m.length : Int) < 4) := by omega
    have HE2 := Lib.hid (show stepsV m = overN (joiI m) m.length 0 (overN (joiO m) m.length 0 []) from by rw [HE.out, if_neg h3])
    have HL2 := Lib.hid (show ([] : List Tbl).length ≤ 8000 from by simp)
    obtain ⟨L2, hL2⟩ : ∃ L : List Tbl, L = [] := ⟨_, rfl⟩
    rw [← hL2] at HE2 HL2
    have HS2 := Lib.hid (show Sep w.heap.size w1 [Res.tabs (.slice (some ⟨w.heap.size, 0, none⟩) 0 0) L2] from by rw [hL2]; exact HS1.out)
    clear HE h3 Hfr HS1 HN1 hL2
    go_enter Tryz.func13, Tryz.ntmps13
    go_wp2_with fail
    refine HI1.out.mono ?_
    rintro e w2 ⟨rfl, rfl⟩
    have HB4 := HB1
    have HD := Lib.hid (HJ.out w1 HB1.out _ _ HS2.out (by have := HL2.out; omega))
    clear HS2
    go_wp2_with fail
    refine HD.out.mono ?_
    rintro e w5 ⟨s3, rfl, hs3, hb3⟩
    obtain ⟨a3, c3, rfl, -⟩ := (New.tabs hs3.headNew).shape
    have HB5 := Lib.hid (HB4.out.trans hb3)
    have HK := Lib.hid (HJ2.out w5 HB5.out _ _ hs3 (by have := Hj4.out L2; have := HL2.out; omega))
    generalize overN (joiO m) m.length 0 L2 = L3 at HK HE2 hs3
    try generalize L3.length = ln3 at *
    clear hs3 hb3 HD HB4
    go_wp2_with fail
    refine HK.out.mono ?_
    rintro e w6 ⟨s4, rfl, hs4, hb4⟩
    obtain ⟨a4, c4, rfl, -⟩ := (New.tabs hs4.headNew).shape
    have HN6 := Lib.hid hs4.headNew
    have HB6 := Lib.hid (HB5.out.trans hb4)
    clear hs4 hb4 HK
    go_wp2
    go_ret
    exact ⟨_, rfl, by rw [HE2.out]; exact HN6.out, HB6.out⟩
end Go.Proofs.YtlkgkfgpnnahdaaGreat
end

section
/-
  Slices as values: lists of tables that share what they list.
-/
namespace Go.Proofs.YtlkgkfgpnnahdaaGreat
open Go.RowKit Go.Deep Go.Sd
set_option linter.unusedSimpArgs false
abbrev Tr := Option Addr × Nat × Nat
def slV (t : Tr) : Value := .slice t.1 t.2.1 t.2.2
theorem slices_of : ∀ (us : List Value), (∀ u, u ∈ us → ∃ t, u = slV t) → ∃ ts : List Tr, us = ts.map slV
  | [], _ => ⟨[], rfl⟩
  | u :: us, h => by
    obtain ⟨t, rfl⟩ := h u (by simp)
    obtain ⟨ts, rfl⟩ := slices_of us fun u hu => h u (by simp [hu])
    exact ⟨t :: ts, rfl⟩
theorem tabs_vals {w : World} {v : Value} {xs : List Tbl} (h : Tabs w v xs) : ∃ ts : List Tr, SlOf (ValR slV) w v ts ∧ ts.length = xs.length ∧ ∀ (i : Nat) (t : Tr) (x : Tbl), ts[i]? = some t → xs[i]? = some x → Tab w (slV t) x := by
  obtain ⟨us, hsl, hl, hr⟩ := h
  obtain ⟨ts, rfl⟩ := slices_of us fun u hu => by
    obtain ⟨i, hi⟩ := List.getElem?_of_mem hu
    have h1 := (List.getElem?_eq_some_iff.1 hi).1
    obtain ⟨a, c, e, -⟩ := (hr i u xs[i] hi (List.getElem?_eq_getElem (by omega))).shape
    exact ⟨(a, xs[i].length, c), e⟩
  refine ⟨ts, ⟨ts.map slV, hsl, by simp, fun i u x hu hx => ?_⟩, by simpa using hl, fun i t x ht hx => hr i _ x (by rw [List.getElem?_map, ht]; rfl) hx⟩
  rw [List.getElem?_map, hx] at hu
  exact (Option.some.inj hu).symm
theorem vals_tabs {w : World} {v : Value} {ts : List Tr} {xs : List Tbl} (h : SlOf (ValR slV) w v ts) (hl : ts.length = xs.length) (ht : ∀ (i : Nat) (t : Tr) (x : Tbl), ts[i]? = some t → xs[i]? = some x → Tab w (slV t) x) : Tabs w v xs := by
  obtain ⟨us, hsl, hl2, hr⟩ := h
  refine ⟨us, hsl, by omega, fun i u x hu hx => ?_⟩
  have h1 := (List.getElem?_eq_some_iff.1 hu).1
  have h2 : ts[i]? = some ts[i] := List.getElem?_eq_getElem (by omega)
  have e : u = slV ts[i] := hr i u _ hu h2
  rw [e]
  exact ht i _ x h2 hx
theorem slV_kept : Kept (OValR slV) := ⟨fun _ _ _ _ _ h _ => h, fun _ _ _ _ h b hb => by rw [h.2] at hb; simp at hb, fun _ _ _ _ h => by rw [h.1]; rfl⟩
theorem own_tabs_vals {eI eR eT : TypeId} {lo : Nat} {w : World} {v : Value} {xs : List Tbl} (h : New (OTabs eI eR eT) lo w v xs) : ∃ ts : List Tr, SlOf (ValR slV) w v ts ∧ ts.length = xs.length ∧ ∀ w' : World, (∀ b, lo ≤ b → b < w.heap.size → w'.heap[b]? = w.heap[b]?) → ∀ (i : Nat) (t : Tr) (x : Tbl), ts[i]? = some t → xs[i]? = some x → Tab w' (slV t) x := by
  have hnew := h
  obtain ⟨F, hF, hnd, hge⟩ := h
  have hF' := hF
  obtain ⟨us, Fs, how, hl, hr, rfl⟩ := hF
  have hul : us.length = xs.length := by simpa using how.1
  obtain ⟨ts, rfl⟩ := slices_of us fun u hu => by
    obtain ⟨i, hi⟩ := List.getElem?_of_mem hu
    have h1 := (List.getElem?_eq_some_iff.1 hi).1
    obtain ⟨a, c, e, -⟩ := (OTab.reads (hr i u xs[i] Fs[i] hi (List.getElem?_eq_getElem (by omega)) (List.getElem?_eq_getElem (by omega)))).shape
    exact ⟨(a, xs[i].length, c), e⟩
  have htl : ts.length = xs.length := by simpa using hul
  have hown : OwnOf eT (OValR slV) w v ts (v.ownBlock.toList ++ (ts.map fun _ => ([] : List Nat)).flatten) := by
    refine ⟨ts.map slV, ts.map fun _ => [], by rw [htl]; exact how, by simp, ?_, rfl⟩
    intro i u x G hu hx hG
    rw [List.getElem?_map, hx] at hu hG
    exact ⟨(Option.some.inj hu).symm, (Option.some.inj hG).symm⟩
  refine ⟨ts, OwnOf.reads (R' := ValR slV) (fun _ _ _ _ h => h.1) hown, htl, fun w' hk i t x ht hx => ?_⟩
  have h1 := (List.getElem?_eq_some_iff.1 ht).1
  have hG : Fs[i]? = some Fs[i] := List.getElem?_eq_getElem (by omega)
  have h2 := hr i (slV t) x Fs[i] (by rw [List.getElem?_map, ht]; rfl) hx hG
  refine OTab.reads ((OTab.kept eI eR).keep _ _ _ _ _ h2 fun b hb => hk b (hge b (List.mem_append_right _ (List.mem_flatten_of_mem (List.mem_of_getElem? hG) hb))) ((OTab.kept eI eR).lt _ _ _ _ h2 b hb))
/-- A table ahead of others. -/
theorem link_tabs {lo : Nat} {w' : World} {v : Value} {e : TypeId} {t0 : Tr} {ts : List Tr} {x0 : Tbl} {xs : List Tbl} (hn : New (OwnOf e (OValR slV)) lo w' v ([t0] ++ ts)) (h0 : Tab w' (slV t0) x0) (hl : ts.length = xs.length) (ht : ∀ (i : Nat) (t : Tr) (x : Tbl), ts[i]? = some t → xs[i]? = some x → Tab w' (slV t) x) : Tabs w' v (x0 :: xs) := by
  obtain ⟨F, hF, -⟩ := hn
  refine vals_tabs (OwnOf.reads (R' := ValR slV) (fun _ _ _ _ h => h.1) hF) (by simp; omega) fun i t x hi hx => ?_
  cases i with
  | zero =>
    simp at hi hx
    subst hi hx
    exact h0
  | succ i => exact ht i t x (by simpa using hi) (by simpa using hx)
theorem _root_.Go.Sd.Tabs.tabAt {w : World} {v : Value} {L : List Tbl} (h : Tabs w v L) {i : Nat} {x : Tbl} (hx : L[i]? = some x) : ∃ b o c a' c', v = .slice (some ⟨b, o, none⟩) L.length c ∧ b < w.heap.size ∧ w.cell? ⟨b, o + i, none⟩ = some (.slice a' x.length c') ∧ Tab w (.slice a' x.length c') x := by
  obtain ⟨a, c, rfl, -, -, hc⟩ := h.shape
  have hi := (List.getElem?_eq_some_iff.1 hx).1
  obtain ⟨b, o, rfl, hb, hx'⟩ := hc (by omega)
  obtain ⟨u, hu, hru⟩ := hx' i x hx
  obtain ⟨a', c', rfl, -⟩ := hru.shape
  exact ⟨b, o, c, a', c', rfl, hb, hu, hru⟩
end Go.Proofs.YtlkgkfgpnnahdaaGreat
end

section
/-
  Pairs of tables by value: how they read, what a call owns of them, the laws' helpers on them.
-/
namespace Go.Sd
open Go.RowKit Go.Deep Go.Joins Go.ChangeShapes Go.WideShapes Go.ChangeAt

abbrev Tb := List (List Int)
def StepR (w : World) (v : Value) (x : Tb × Tb) : Prop := ∃ v1 v2, v = .agg #[v1, v2] ∧ Tab w v1 x.1 ∧ Tab w v2 x.2
theorem StepR.frame : Framed StepR := fun _ _ _ _ ⟨v1, v2, e, h1, h2⟩ hb => ⟨v1, v2, e, Tab.frame _ _ _ _ h1 hb, Tab.frame _ _ _ _ h2 hb⟩
theorem StepR.slices {w : World} {v : Value} {x : Tb × Tb} (h : StepR w v x) : ∃ a n c a' n' c', v = .agg #[.slice a n c, .slice a' n' c'] := by
  obtain ⟨v1, v2, rfl, h1, h2⟩ := h
  obtain ⟨_, _, rfl, _⟩ := h1.shape
  obtain ⟨_, _, rfl, _⟩ := h2.shape
  exact ⟨_, _, _, _, _, _, rfl⟩
def OStep (eI eR : TypeId) : OwnRel (Tb × Tb) := fun w v x F => ∃ v1 v2 F1 F2, v = .agg #[v1, v2] ∧ OTab eI eR w v1 x.1 F1 ∧ OTab eI eR w v2 x.2 F2 ∧ F = F1 ++ F2
theorem OStep.held {eI eR : TypeId} : Held (OStep eI eR) := by
  refine ⟨fun w w' v x F ⟨v1, v2, F1, F2, e, h1, h2, eF⟩ hk => ?_, fun w v x F ⟨v1, v2, F1, F2, e, h1, h2, eF⟩ b hb => ?_⟩
  · subst eF
    exact ⟨v1, v2, F1, F2, e, (OTab.kept _ _).keep _ _ _ _ _ h1 fun b hb => hk b (List.mem_append_left _ hb), (OTab.kept _ _).keep _ _ _ _ _ h2 fun b hb => hk b (List.mem_append_right _ hb), rfl⟩
  · subst eF
    rcases List.mem_append.1 hb with hb | hb
    · exact (OTab.kept _ _).lt _ _ _ _ h1 b hb
    · exact (OTab.kept _ _).lt _ _ _ _ h2 b hb
theorem New.stp {eI eR : TypeId} {lo : Nat} {w : World} {v : Value} {x : Tb × Tb} (h : New (OStep eI eR) lo w v x) : StepR w v x := by
  obtain ⟨F, ⟨v1, v2, F1, F2, e, h1, h2, _⟩, _⟩ := h
  exact ⟨v1, v2, e, h1.reads, h2.reads⟩
/-- One was made, then the other. -/
theorem New.pair {eI eR : TypeId} {lo : Nat} {w1 w : World} {v1 v2 : Value} {x1 x2 : Tb} (h1 : New (OTab eI eR) lo w1 v1 x1) (h2 : New (OTab eI eR) w1.heap.size w v2 x2) (hb : Below w1.heap.size w1 w) (hlo : lo ≤ w1.heap.size) : New (OStep eI eR) lo w (.agg #[v1, v2]) (x1, x2) := by
  obtain ⟨F, hF, hn, hge⟩ := h1
  obtain ⟨G, hG, hm, hgg⟩ := h2
  have hlt := (OTab.kept eI eR).lt _ _ _ _ hF
  refine ⟨F ++ G, ⟨v1, v2, F, G, rfl, (OTab.kept _ _).keep _ _ _ _ _ hF fun b hb' => hb.block b (hlt b hb'), hG, rfl⟩, List.nodup_append.2 ⟨hn, hm, fun a ha b hb' e => ?_⟩, fun b hb' => ?_⟩
  · subst e
    have := hlt a ha
    have := hgg a hb'
    omega
  · rcases List.mem_append.1 hb' with h | h
    · exact hge b h
    · exact Nat.le_trans hlo (hgg b h)
/-- The second was made first. -/
theorem New.pair' {eI eR : TypeId} {lo : Nat} {w1 w : World} {v1 v2 : Value} {x1 x2 : Tb} (h2 : New (OTab eI eR) lo w1 v2 x2) (h1 : New (OTab eI eR) w1.heap.size w v1 x1) (hb : Below w1.heap.size w1 w) (hlo : lo ≤ w1.heap.size) : New (OStep eI eR) lo w (.agg #[v1, v2]) (x1, x2) := by
  obtain ⟨F, hF, hn, hge⟩ := h2
  obtain ⟨G, hG, hm, hgg⟩ := h1
  have hlt := (OTab.kept eI eR).lt _ _ _ _ hF
  refine ⟨G ++ F, ⟨v1, v2, G, F, rfl, hG, (OTab.kept _ _).keep _ _ _ _ _ hF fun b hb' => hb.block b (hlt b hb'), rfl⟩, List.nodup_append.2 ⟨hm, hn, fun a ha b hb' e => ?_⟩, fun b hb' => ?_⟩
  · subst e
    have := hlt a hb'
    have := hgg a ha
    omega
  · rcases List.mem_append.1 hb' with h | h
    · exact Nat.le_trans hlo (hgg b h)
    · exact hge b h

def StpI64 (x : Tb × Tb) : Prop := (∀ r, r ∈ x.1 → ∀ y, y ∈ r → I64 y) ∧ ∀ r, r ∈ x.2 → ∀ y, y ∈ r → I64 y

section
variable {H : Type} {enc : TypeId × Value → H} {P : Program} {W : World} {base : Nat}
theorem open_Tab_any {t e q : TypeId} (ht : P.underlying t = some (.slice e)) (he : P.underlying e = some (.slice q)) (hq : P.underlying q = some (.int .i64)) (ce : P.cellsOf e = 1) (cq : P.cellsOf q = 1) {v : Value} {fuel : Nat} {x : DataW H × List MemPlace}
    (h : DataW.trod enc P W base (fun _ => true) true fuel t [v] = some x) : ∃ m, Tab W v m ∧ ∀ r, r ∈ m → ∀ x, x ∈ r → I64 x := by
  rcases open_slice1 ht ce h with ⟨hcs, _⟩ | ⟨a', l, c, mm, n, V, D, Pl, hcs, _⟩
  · simp at hcs
    subst hcs
    exact open_Tab_cells ht he hq ce cq h
  · simp at hcs
    subst hcs
    exact open_Tab_cells ht he hq ce cq h
theorem open_Step {tS t e q : TypeId} {f0 f1 : Field} (hs : P.underlying tS = some (.struct #[f0, f1])) (hone : oneCellFields P #[f0, f1] = true) (hC : P.cellsOf tS = 2) (e0 : f0.type = t) (e1 : f1.type = t)
    (ht : P.underlying t = some (.slice e)) (he : P.underlying e = some (.slice q)) (hq : P.underlying q = some (.int .i64)) (ce : P.cellsOf e = 1) (cq : P.cellsOf q = 1) {v : Value} {d : DataW H} {p : List MemPlace}
    (hv : Value.okWide P W .any base tS v) (h : DataW.Trod enc P W 0 (fun _ => true) true tS v d p) : ∃ x, StepR W v x ∧ StpI64 x := by
  obtain ⟨c0, c1, y0, y1, m, rfl, rfl, rfl, hy0, hy1⟩ := open_agg2 hs hone hC hv h
  rw [e0] at hy0
  rw [e1] at hy1
  obtain ⟨m0, h0, b0⟩ := open_Tab_any ht he hq ce cq hy0
  obtain ⟨m1, h1, b1⟩ := open_Tab_any ht he hq ce cq hy1
  exact ⟨(m0, m1), ⟨c0, c1, rfl, h0, h1⟩, b0, b1⟩
end
end Go.Sd
namespace Go.Proofs.YtlkgkfgpnnahdaaGreat
open Go.RowKit Go.Deep Go.Sd

def cntStp (x : Tb × Tb) : Int := cntSS x.1 + cntSS x.2
theorem cntStp_nn (x : Tb × Tb) : 0 ≤ cntStp x := by have := cntSS_nn x.1; have := cntSS_nn x.2; unfold cntStp; omega
def szStp (x : Tb × Tb) (l : Int) : Int := if szSS x.1 l < 0 then -1 else if szSS x.2 (szSS x.1 l) < 0 then -1 else szSS x.2 (szSS x.1 l)
theorem szStp_bd (x : Tb × Tb) (l : Int) (hl : 0 ≤ l) : -1 ≤ szStp x l ∧ szStp x l ≤ l ∧ True := by
  have h1 := szSS_bd x.1 l hl
  unfold szStp
  by_cases c1 : szSS x.1 l < 0
  · rw [if_pos c1]; exact ⟨by omega, by omega, trivial⟩
  · rw [if_neg c1]
    have h2 := szSS_bd x.2 (szSS x.1 l) (by omega)
    by_cases c2 : szSS x.2 (szSS x.1 l) < 0
    · rw [if_pos c2]; exact ⟨by omega, by omega, trivial⟩
    · rw [if_neg c2]; exact ⟨by omega, by omega, trivial⟩
theorem cntStp_le (x : Tb × Tb) (l : Int) (hl : 0 ≤ l) (h : 0 ≤ szStp x l) : cntStp x + szStp x l + x.1.length + x.2.length = l := by
  unfold szStp at h ⊢
  by_cases h1 : szSS x.1 l < 0
  · rw [if_pos h1] at h; omega
  · rw [if_neg h1] at h ⊢
    by_cases h2 : szSS x.2 (szSS x.1 l) < 0
    · rw [if_pos h2] at h; omega
    · rw [if_neg h2]
      have e1 := cntSS_le x.1 l hl (by omega)
      have e2 := cntSS_le x.2 (szSS x.1 l) (by omega) (by omega)
      unfold cntStp
      omega
def StpSz (x : Tb × Tb) : Prop := (x.1.length ≤ 1048576 ∧ ∀ r, r ∈ x.1 → r.length ≤ 1048576) ∧ x.2.length ≤ 1048576 ∧ ∀ r, r ∈ x.2 → r.length ≤ 1048576
theorem StpSz.mk' (x : Tb × Tb) {s l : Int} (h : cntStp x + s + x.1.length + x.2.length = l) (hs : 0 ≤ s) (hl : l ≤ 1048576) : StpSz x := by
  have h1 := cntSS_nn x.1
  have h2 := cntSS_nn x.2
  unfold cntStp at h
  exact ⟨⟨by omega, fun r hr => by have := len_le_cntSS hr; omega⟩, by omega, fun r hr => by have := len_le_cntSS hr; omega⟩

theorem New.setCell_low {α : Type} {R : OwnRel α} (hR : Held R) {lo : Nat} {w : World} {v : Value} {x : α} (h : New R lo w v x) {p : Addr} (hp : p.block < lo) (u : Value) : New R lo (w.setCell p u) v x := by
  obtain ⟨F, hF, hn, hge⟩ := h
  exact ⟨F, hR.keep _ _ _ _ _ hF fun b hb => Below.heap_setCell _ _ _ _ (fun e => by have := hge b hb; omega), hn, hge⟩
def markStp (x : Tb × Tb) (k : Int) : Tb × Tb := (markSS x.1 k, markSS x.2 (k + cntSS x.1))
end Go.Proofs.YtlkgkfgpnnahdaaGreat
end
