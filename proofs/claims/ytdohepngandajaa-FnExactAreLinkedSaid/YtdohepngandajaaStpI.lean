/-
  StepsFrom, the program's.
-/
import Derived.Test.YtdohepngandajaaStpC
import Derived.Test.YtdohepngandajaaTurnC
import Derived.Test.YtdohepngandajaaPartsP
import Derived.Test.YtdohepngandajaaSplitOut
import Derived.Test.YtdohepngandajaaSplitIn
import Derived.Test.YtdohepngandajaaJoinIn
import Derived.Test.YtdohepngandajaaJoin
import Derived.Deep.DeepCutAuto
namespace Go.Proofs.Ytdohepngandajaa
open Go.RowKit Go.Deep Go.Sd
set_option linter.unusedSimpArgs false
theorem joiO_len {m : Tbl} (h : m.length ≤ 4) (i : Nat) (o : List Tbl) : (joiO m i o).length ≤ o.length + 4 := by
  have h1 := overN_len (f := fun j o => addT o (joinV m i j) (joinOk m i j)) (c := 1) (fun j o => addT_len o _ _) (m.length - (i + 1)) (i + 1) o
  unfold joiO
  omega
theorem joiI_len {m : Tbl} (h : m.length ≤ 4) (i : Nat) (o : List Tbl) : (joiI m i o).length ≤ o.length + 4 := by
  have h1 := overN_len (f := fun j o => addT o (joinInV m i j) (joinInOk m i j)) (c := 1) (fun j o => addT_len o _ _) (m.length - (i + 1)) (i + 1) o
  unfold joiI
  omega
theorem joi_len4 {f : Nat → List Tbl → List Tbl} (h : ∀ i o, (f i o).length ≤ o.length + 4) {n : Nat} {o : List Tbl} (hn : n ≤ 4) : (overN f n 0 o).length ≤ o.length + 16 := by
  have h1 := overN_len h n 0 o
  omega
set_option maxHeartbeats 8000000 in
set_option maxRecDepth 100000 in
theorem impl_StepsFrom_c {w : World} {vm : Value} {m : Tbl} (h : Tab w vm m) :
    Calls Try.prog 32 #[vm] w (Makes (OTabs 3 50 41) w (stepsV m)) := by
  have HI := Lib.hid (impl_IsMatrix_c h)
  have Hfr0 := Lib.hid (fun w' (hb : Below w.heap.size w w') => Tab.frame _ _ _ _ h hb)
  obtain ⟨va, vc, rfl, -, -, hva⟩ := h.shape
  have hlen := h.len
  have H0 := Lib.hid (fun (h : isMat m = false) => (show stepsV m = [] from by unfold stepsV; rw [if_neg (by rw [h]; simp)]))
  have H4 := Lib.hid (fun (h : 4 < m.length) => (show stepsV m = [] from by unfold stepsV; rw [if_neg (by rintro ⟨-, h2⟩; omega)]))
  have HE := Lib.hid (fun (hm : isMat m = true) (h4 : m.length ≤ 4) => (show stepsV m = overN (joiI m) m.length 0 (overN (joiO m) m.length 0 (overN (splI m) m.length 0 (overN (splO m) m.length 0 []))) from by unfold stepsV; rw [if_pos ⟨hm, h4⟩]))
  clear h
  cases him : isMat m with
  | false =>
    have HF := Lib.hid (H0.out him)
    rw [him] at HI
    clear H0 H4 HE Hfr0 him hva
    go_enter Try.func32, Try.ntmps32
    go_wp2_with fail
    (with_reducible refine HI.out.mono ?_)
    rintro e w2 ⟨rfl, rfl⟩
    go_wp2
    go_ret
    exact ⟨_, rfl, by rw [HF.out]; exact New.nil _ _, Below.refl _ _⟩
  | true =>
  rw [him] at HI
  have Him := Lib.hid him
  clear him H0
  by_cases h4 : 4 < m.length
  · have HF := Lib.hid (H4.out h4)
    have h4i : (4 : Int) < (m.length : Int) := by omega
    clear H4 HE Hfr0 hva
    go_enter Try.func32, Try.ntmps32
    go_wp2_with fail
    (with_reducible refine HI.out.mono ?_)
    rintro e w2 ⟨rfl, rfl⟩
    go_wp2
    go_ret
    exact ⟨_, rfl, by rw [HF.out]; exact New.nil _ _, Below.refl _ _⟩
  have h4i : ¬ ((4 : Int) < (m.length : Int)) := by omega
  have hsq := (isMat_sq Him.out).1
  have hb0 := (isMat_sq Him.out).2
  obtain ⟨vb, vo, rfl, hvb, -⟩ := hva (by omega)
  clear hva hvb
  have HE2 := Lib.hid (HE.out Him.out (by omega))
  have Htn := Lib.hid (show Sq m.length (turnT m m.length) from turnT_sq _ _)
  have Hsq := Lib.hid hsq
  have hsep := (Sep.one (OTabs.kept 3 50 41).held (New.nil (R := OTab 3 50) (e := 41) w.heap.size w)).boxNew (Nat.le_refl _) [.slice none 0 0] 94
  obtain ⟨w1, e1⟩ : ∃ x, x = w.alloc (.cells #[.slice none 0 0] 94) := ⟨_, rfl⟩
  have HS1 := Lib.hid (show Sep w.heap.size w1 (Res.box w.heap.size [.slice none 0 0] :: Res.tabs (.slice none 0 0) [] :: []) from by rw [e1]; exact hsep)
  have hb1 : Below w.heap.size w w1 := by rw [e1]; exact (Below.refl _ _).alloc (Nat.le_refl _) _
  have hz1 := hb1.size
  have e1s := e1.symm
  have Ht := Lib.hid (turned_c (Hfr0.out w1 hb1) hsq (by omega) (by omega))
  have HB1 := Lib.hid hb1
  obtain ⟨n, hn⟩ : ∃ n, n = m.length := ⟨_, rfl⟩
  have Hn := Lib.hid hn
  have hn4 : n ≤ 4 := by omega
  have hn0 : 0 < n := by omega
  have Hfr := Lib.hid (fun w' (hb : Below w.heap.size w w') => (show Tab w' (.slice (some ⟨vb, vo, none⟩) n vc) m from by rw [Hn.out]; exact Hfr0.out w' hb))
  have h4n : ¬ ((4 : Int) < (n : Int)) := by omega
  rw [← hn] at HI Ht HE2 Htn hlen ⊢
  generalize hTT : turnT m n = TT at Ht Htn
  have HTT := Lib.hid hTT
  clear hTT
  obtain ⟨TO, hTO⟩ : ∃ T, T = overN (splO m) n 0 [] := ⟨_, rfl⟩
  obtain ⟨TI, hTI⟩ : ∃ T, T = overN (splI m) n 0 TO := ⟨_, rfl⟩
  rw [← hTO, ← hTI] at HE2
  have HTO := Lib.hid hTO.symm
  have HTIe := Lib.hid hTI.symm
  clear hTO hTI
  clear HE H4 Hfr0 hsq hb0 hsep hb1 e1 h4i h4 hn
  go_enter Try.func32, Try.ntmps32
  go_wp2_with fail
  (with_reducible refine HI.out.mono ?_)
  rintro e w0 ⟨rfl, rfl⟩
  go_wp2_with fail
  (with_reducible refine Ht.out.mono ?_)
  rintro e w2 ⟨vt, rfl, hnt, hbt⟩
  obtain ⟨ta, tc, rfl, -, -, hta⟩ := (New.tab hnt).shape
  obtain ⟨tb, to', rfl, -, -⟩ := hta (by rw [Htn.out.1]; exact hn0)
  clear hta
  have HS2 := Lib.hid (show Sep w.heap.size w2 (Res.box w.heap.size [.slice none 0 0] :: Res.tabs (.slice none 0 0) [] :: Res.tab (.slice (some ⟨tb, to', none⟩) TT.length tc) TT :: []) from (HS1.out.new (OTab.kept 3 50).held hbt hz1 hnt).back [_, _])
  have HB2 := Lib.hid (HB1.out.trans (hbt.mono hz1))
  have hz2 := HB2.out.size
  have e1 : TT.length = n := Htn.out.1
  rw [e1] at HS2 ⊢
  clear HI Ht hnt hbt HS1 HB1 e1 e1s hz1 w1
  obtain ⟨vt, hvt⟩ : ∃ v : Value, v = .slice (some ⟨tb, to', none⟩) n tc := ⟨_, rfl⟩
  rw [← hvt] at HS2
  have Hvt := Lib.hid hvt
  clear hvt
  go_wp2
  go_loopg [29] n (fun g i wr => ∃ (k : Nat) (L1 : List Tbl) (sl : Value), i = .int .i64 k ∧ k + g = n ∧ L1.length ≤ 0 + 256 * k ∧ Hid (overN (splO m) g k L1 = TO) ∧ Hid (Sep w.heap.size wr (Res.box w.heap.size [sl] :: Res.tabs sl L1 :: Res.tab vt TT :: [])) ∧ Hid (Below w.heap.size w wr))
  case atStart => exact ⟨0, [], _, rfl, by omega, by simp, HTO, HS2, HB2⟩
  case round =>
    clear HTO HS2 HB2 hz2
    obtain ⟨k, L1, sl, rfl, hk, hL1, HT, HS, HBk⟩ := hrel
    obtain ⟨wk, rfl⟩ : ∃ x, x = wr := ⟨_, rfl⟩
    have zk := HBk.out.size
    by_cases hkn : k < n
    · have hki : (k : Int) < (n : Int) := by omega
      obtain ⟨g, rfl⟩ : ∃ x, gk = x + 1 := ⟨gk - 1, by omega⟩
      have hTab := Hfr.out wk HBk.out
      obtain ⟨row, hrow, -⟩ := at_lt (xs := m) (k := k) (by have := Hn.out; omega)
      obtain ⟨b, o, c, ra, rc, hv, hbw, g1, hri⟩ := hTab.rowAt hrow
      simp at hv
      obtain ⟨⟨rfl, rfl⟩, -, rfl⟩ := hv
      have HT2 := Lib.hid (show overN (splO m) g (k + 1) (overP (fun p => (splitV m k p, splitOk m k p)) ((partsV row).drop 0) L1) = TO from by have h : overN (splO m) g (k + 1) (splO m k L1) = TO := HT.out; rw [show splO m k L1 = overP (fun p => (splitV m k p, splitOk m k p)) ((partsV row).drop 0) L1 from by unfold splO; rw [getD_of hrow]; rfl] at h; exact h)
      have HP := Lib.hid (impl_PartsOf_c hri)
      have hpb := (partsV_bd row).1
      generalize row.length = rn at *
      generalize partsV row = P at HT2 HP hpb
      clear hTab hrow hri HT
      go_wp2_with fail
      (with_reducible refine HP.out.mono ?_)
      rintro e w3 ⟨vp, rfl, hnp, hb2⟩
      obtain ⟨pa, pc, rfl, -⟩ := (New.tab hnp).shape
      obtain ⟨pn, hpn⟩ : ∃ pn, pn = P.length := ⟨_, rfl⟩
      have Hpn := Lib.hid hpn
      have HSi := Lib.hid (show Sep w.heap.size w3 (Res.box w.heap.size [sl] :: Res.tabs sl L1 :: Res.tab (.slice pa pn pc) P :: Res.tab vt TT :: []) from by rw [hpn]; exact (HS.out.new (OTab.kept 3 50).held hb2 (by omega) hnp).back [_, _])
      have HBi := Lib.hid (HBk.out.trans (hb2.mono (by omega)))
      rw [← hpn] at hpb ⊢
      clear hpn HP hnp hb2 HS HBk g1 hbw
      go_wp2
      go_loopg [38] pn (fun g2 i wr => ∃ (j : Nat) (L2 : List Tbl) (sl : Value), i = .int .i64 j ∧ j + g2 = pn ∧ L2.length ≤ 0 + 256 * k + j ∧ Hid (overN (splO m) g (k + 1) (overP (fun p => (splitV m k p, splitOk m k p)) (P.drop j) L2) = TO) ∧ Hid (Sep w.heap.size wr (Res.box w.heap.size [sl] :: Res.tabs sl L2 :: Res.tab (.slice pa pn pc) P :: Res.tab vt TT :: [])) ∧ Hid (Below w.heap.size w wr))
      case atStart => exact ⟨0, L1, _, rfl, by omega, by omega, HT2, HSi, HBi⟩
      case round =>
        clear HT2 HSi HBi hL1 zk
        obtain ⟨j, L2, sl, rfl, hj, hL2, HT, HS, HBk⟩ := hrel
        obtain ⟨wj, rfl⟩ : ∃ x, x = wr := ⟨_, rfl⟩
        have zj := HBk.out.size
        by_cases hjp : j < pn
        · have hji : (j : Int) < (pn : Int) := by omega
          have hTab := Hfr.out wj HBk.out
          obtain ⟨q, hp, -⟩ := at_lt (xs := P) (k := j) (by have := Hpn.out; omega)
          have hTp : Tab wj (.slice pa pn pc) P := by obtain ⟨G, h1, -⟩ := HS.out.get (r := Res.tab (.slice pa pn pc) P) (by simp); exact OTab.reads h1
          obtain ⟨b, o, c, ra, rc, hv, hbw, g1, hri⟩ := hTp.rowAt hp
          simp only [Value.slice.injEq] at hv
          obtain ⟨rfl, -, rfl⟩ := hv
          have HT2 := Lib.hid (show overN (splO m) g (k + 1) (overP (fun p => (splitV m k p, splitOk m k p)) (P.drop (j + 1)) (addT L2 (splitV m k q) (splitOk m k q))) = TO from by have h := HT.out; rw [overP_step hp] at h; exact h)
          have hadl := addT_len L2 (splitV m k q) (splitOk m k q)
          have HCs := Lib.hid (impl_SplitOut_c (i := (k : Int)) hTab hri)
          generalize q.length = pl at *
          clear hTp hp hri HT hTab
          have Hsqr := Lib.hid (fun (h : splitOk m k q = true) => splO_sq h)
          generalize splitV m k q = M at HCs HT2 hadl Hsqr
          generalize splitOk m k q = ok at HCs HT2 hadl Hsqr
          go_wp2_with fail
          (with_reducible refine HCs.out.mono ?_)
          rintro e w4 ⟨x, rfl, hnx, hb3⟩
          obtain ⟨xa, xc, rfl, -⟩ := (New.tab hnx).shape
          have hs3 := (HS.out.new (OTab.kept 3 50).held hb3 (by omega) hnx).back [_, _]
          have hz3 := hb3.size
          have HB3 := Lib.hid (HBk.out.trans (hb3.mono (by omega)))
          have HCa := Lib.hid (add_c hs3 (by omega) Hsqr.out (by omega))
          generalize M.length = ml at *
          clear hs3 hnx hb3 HCs HS HBk
          go_wp2_with fail
          (with_reducible refine HCa.out.mono ?_)
          rintro e w5 ⟨rfl, ⟨sl', hs5⟩, hb5⟩
          have HS5 := Lib.hid hs5
          have HB5 := Lib.hid (HB3.out.trans hb5)
          clear hs5 hb5 HCa HB3 Hsqr
          go_wp2
          go_roundg (pn - (j + 1))
          case measure => omega
          case rel => exact ⟨j + 1, _, _, by go_num, by omega, by omega, HT2, HS5, HB5⟩
        · have hji : ¬ ((j : Int) < (pn : Int)) := by omega
          have HTy := Lib.hid (show overN (splO m) g (k + 1) L2 = TO from by have h := HT.out; rw [drop_len (by have := Hpn.out; omega)] at h; exact h)
          have HSy := Lib.hid (show Sep w.heap.size wj (Res.box w.heap.size [sl] :: Res.tabs sl L2 :: Res.tab vt TT :: []) from (HS.out.front [_, _]).tail)
          clear HT HS
          go_wp2
          go_roundg g
          case measure => omega
          case rel => exact ⟨k + 1, L2, sl, by go_num, by omega, by omega, HTy, HSy, HBk⟩
    · have hki : ¬ ((k : Int) < (n : Int)) := by omega
      have hg : gk = 0 := by omega
      have HFO := Lib.hid (show L1 = TO from by have h := HT.out; rw [hg] at h; exact h)
      clear HT hg
      have hL2 : L1.length ≤ 1024 := by omega
      have HTI := Lib.hid (show overN (splI m) n 0 L1 = TI from by rw [HFO.out]; exact HTIe.out)
      clear HFO hL1
      generalize L1 = LA at *
      go_wp2
      go_loopg [54] n (fun g i wr => ∃ (k : Nat) (L1 : List Tbl) (sl : Value), i = .int .i64 k ∧ k + g = n ∧ L1.length ≤ 1024 + 256 * k ∧ Hid (overN (splI m) g k L1 = TI) ∧ Hid (Sep w.heap.size wr (Res.box w.heap.size [sl] :: Res.tabs sl L1 :: Res.tab vt TT :: [])) ∧ Hid (Below w.heap.size w wr))
      case atStart => exact ⟨0, LA, _, rfl, by omega, by omega, HTI, HS, HBk⟩
      case round =>
        clear HTI HS HBk
        obtain ⟨k, L1, sl, rfl, hk, hL1, HT, HS, HBk⟩ := hrel
        obtain ⟨wk, rfl⟩ : ∃ x, x = wr := ⟨_, rfl⟩
        have zk := HBk.out.size
        by_cases hkn : k < n
        · have hki : (k : Int) < (n : Int) := by omega
          obtain ⟨g, rfl⟩ : ∃ x, gk = x + 1 := ⟨gk - 1, by omega⟩
          have hTab := (show Tab wk (.slice (some ⟨tb, to', none⟩) n tc) TT from by obtain ⟨G, h1, -⟩ := HS.out.get (r := Res.tab vt TT) (by simp); rw [← Hvt.out]; exact OTab.reads h1)
          obtain ⟨row, hrow, -⟩ := at_lt (xs := TT) (k := k) (by have := Htn.out.1; omega)
          obtain ⟨b, o, c, ra, rc, hv, hbw, g1, hri⟩ := hTab.rowAt hrow
          simp at hv
          obtain ⟨⟨rfl, rfl⟩, -, rfl⟩ := hv
          have HT2 := Lib.hid (show overN (splI m) g (k + 1) (overP (fun p => (splitInV m k p, splitInOk m k p)) ((partsV row).drop 0) L1) = TI from by have h : overN (splI m) g (k + 1) (splI m k L1) = TI := HT.out; rw [show splI m k L1 = overP (fun p => (splitInV m k p, splitInOk m k p)) ((partsV row).drop 0) L1 from by unfold splI; rw [show turnT m m.length = TT from by rw [← Hn.out]; exact HTT.out, getD_of hrow]; rfl] at h; exact h)
          have HP := Lib.hid (impl_PartsOf_c hri)
          have hpb := (partsV_bd row).1
          generalize row.length = rn at *
          generalize partsV row = P at HT2 HP hpb
          clear hTab hrow hri HT
          go_wp2_with fail
          (with_reducible refine HP.out.mono ?_)
          rintro e w3 ⟨vp, rfl, hnp, hb2⟩
          obtain ⟨pa, pc, rfl, -⟩ := (New.tab hnp).shape
          obtain ⟨pn, hpn⟩ : ∃ pn, pn = P.length := ⟨_, rfl⟩
          have Hpn := Lib.hid hpn
          have HSi := Lib.hid (show Sep w.heap.size w3 (Res.box w.heap.size [sl] :: Res.tabs sl L1 :: Res.tab (.slice pa pn pc) P :: Res.tab vt TT :: []) from by rw [hpn]; exact (HS.out.new (OTab.kept 3 50).held hb2 (by omega) hnp).back [_, _])
          have HBi := Lib.hid (HBk.out.trans (hb2.mono (by omega)))
          rw [← hpn] at hpb ⊢
          clear hpn HP hnp hb2 HS HBk g1 hbw
          go_wp2
          go_loopg [63] pn (fun g2 i wr => ∃ (j : Nat) (L2 : List Tbl) (sl : Value), i = .int .i64 j ∧ j + g2 = pn ∧ L2.length ≤ 1024 + 256 * k + j ∧ Hid (overN (splI m) g (k + 1) (overP (fun p => (splitInV m k p, splitInOk m k p)) (P.drop j) L2) = TI) ∧ Hid (Sep w.heap.size wr (Res.box w.heap.size [sl] :: Res.tabs sl L2 :: Res.tab (.slice pa pn pc) P :: Res.tab vt TT :: [])) ∧ Hid (Below w.heap.size w wr))
          case atStart => exact ⟨0, L1, _, rfl, by omega, by omega, HT2, HSi, HBi⟩
          case round =>
            clear HT2 HSi HBi hL1 zk
            obtain ⟨j, L2, sl, rfl, hj, hL2, HT, HS, HBk⟩ := hrel
            obtain ⟨wj, rfl⟩ : ∃ x, x = wr := ⟨_, rfl⟩
            have zj := HBk.out.size
            by_cases hjp : j < pn
            · have hji : (j : Int) < (pn : Int) := by omega
              have hTab := Hfr.out wj HBk.out
              obtain ⟨q, hp, -⟩ := at_lt (xs := P) (k := j) (by have := Hpn.out; omega)
              have hTp : Tab wj (.slice pa pn pc) P := by obtain ⟨G, h1, -⟩ := HS.out.get (r := Res.tab (.slice pa pn pc) P) (by simp); exact OTab.reads h1
              obtain ⟨b, o, c, ra, rc, hv, hbw, g1, hri⟩ := hTp.rowAt hp
              simp only [Value.slice.injEq] at hv
              obtain ⟨rfl, -, rfl⟩ := hv
              have HT2 := Lib.hid (show overN (splI m) g (k + 1) (overP (fun p => (splitInV m k p, splitInOk m k p)) (P.drop (j + 1)) (addT L2 (splitInV m k q) (splitInOk m k q))) = TI from by have h := HT.out; rw [overP_step hp] at h; exact h)
              have hadl := addT_len L2 (splitInV m k q) (splitInOk m k q)
              have HCs := Lib.hid (impl_SplitIn_c (i := (k : Int)) hTab hri)
              generalize q.length = pl at *
              clear hTp hp hri HT hTab
              have Hsqr := Lib.hid (fun (h : splitInOk m k q = true) => splI_sq h)
              generalize splitInV m k q = M at HCs HT2 hadl Hsqr
              generalize splitInOk m k q = ok at HCs HT2 hadl Hsqr
              go_wp2_with fail
              (with_reducible refine HCs.out.mono ?_)
              rintro e w4 ⟨x, rfl, hnx, hb3⟩
              obtain ⟨xa, xc, rfl, -⟩ := (New.tab hnx).shape
              have hs3 := (HS.out.new (OTab.kept 3 50).held hb3 (by omega) hnx).back [_, _]
              have hz3 := hb3.size
              have HB3 := Lib.hid (HBk.out.trans (hb3.mono (by omega)))
              have HCa := Lib.hid (add_c hs3 (by omega) Hsqr.out (by omega))
              generalize M.length = ml at *
              clear hs3 hnx hb3 HCs HS HBk
              go_wp2_with fail
              (with_reducible refine HCa.out.mono ?_)
              rintro e w5 ⟨rfl, ⟨sl', hs5⟩, hb5⟩
              have HS5 := Lib.hid hs5
              have HB5 := Lib.hid (HB3.out.trans hb5)
              clear hs5 hb5 HCa HB3 Hsqr
              go_wp2
              go_roundg (pn - (j + 1))
              case measure => omega
              case rel => exact ⟨j + 1, _, _, by go_num, by omega, by omega, HT2, HS5, HB5⟩
            · have hji : ¬ ((j : Int) < (pn : Int)) := by omega
              have HTy := Lib.hid (show overN (splI m) g (k + 1) L2 = TI from by have h := HT.out; rw [drop_len (by have := Hpn.out; omega)] at h; exact h)
              have HSy := Lib.hid (show Sep w.heap.size wj (Res.box w.heap.size [sl] :: Res.tabs sl L2 :: Res.tab vt TT :: []) from (HS.out.front [_, _]).tail)
              clear HT HS
              go_wp2
              go_roundg g
              case measure => omega
              case rel => exact ⟨k + 1, L2, sl, by go_num, by omega, by omega, HTy, HSy, HBk⟩
        · have hki : ¬ ((k : Int) < (n : Int)) := by omega
          have hg : gk = 0 := by omega
          have HFI := Lib.hid (show L1 = TI from by have h := HT.out; rw [hg] at h; exact h)
          clear HT hg
          have hL3 : L1.length ≤ 3000 := by omega
          have HE3 := Lib.hid (show stepsV m = overN (joiI m) n 0 (overN (joiO m) n 0 L1) from by rw [HE2.out, ← HFI.out])
          have hsb := HS.out.boxNew zk [.func (.func 99) #[] #[], .func (.func 100) #[] #[]] 98
          obtain ⟨wq, eq⟩ : ∃ x, x = wk.alloc (.cells #[.func (.func 99) #[] #[], .func (.func 100) #[] #[]] 98) := ⟨_, rfl⟩
          obtain ⟨bq, hbq⟩ : ∃ x, x = wk.heap.size := ⟨_, rfl⟩
          have HSq := Lib.hid (show Sep w.heap.size wq (Res.box w.heap.size [sl] :: Res.tabs sl L1 :: Res.box bq [.func (.func 99) #[] #[], .func (.func 100) #[] #[]] :: Res.tab vt TT :: []) from by rw [eq, hbq]; exact hsb.back [_, _])
          have HBq := Lib.hid (show Below w.heap.size w wq from by rw [eq]; exact HBk.out.alloc zk _)
          have eqs := eq.symm
          have hbqs := hbq.symm
          clear hsb eq hbq HS HBk zk HFI HE2 hL1
          generalize L1 = LL at *
          go_wp2
          clear eqs hbqs
          go_loopg [79] 2 (fun g i wr => ∃ (LQ : List Tbl) (sl : Value), Hid (Sep w.heap.size wr (Res.box w.heap.size [sl] :: Res.tabs sl LQ :: Res.box bq [.func (.func 99) #[] #[], .func (.func 100) #[] #[]] :: Res.tab vt TT :: [])) ∧ Hid (Below w.heap.size w wr) ∧ ((i = .int .i64 0 ∧ g = 2 ∧ LQ.length ≤ 3000 ∧ Hid (overN (joiI m) n 0 (overN (joiO m) n 0 LQ) = stepsV m)) ∨ (i = .int .i64 1 ∧ g = 1 ∧ LQ.length ≤ 3100 ∧ Hid (overN (joiI m) n 0 LQ = stepsV m)) ∨ (i = .int .i64 2 ∧ g = 0 ∧ LQ.length ≤ 3200 ∧ Hid (LQ = stepsV m))))
          case atStart => exact ⟨LL, _, HSq, HBq, Or.inl ⟨rfl, rfl, by omega, Lib.hid HE3.out.symm⟩⟩
          case round =>
            clear HE3 HSq HBq hL3
            obtain ⟨LQ, sl, HSq, HBq, hcase⟩ := hrel
            obtain ⟨wq, rfl⟩ : ∃ x, x = wr := ⟨_, rfl⟩
            obtain ⟨-, mq, hcq⟩ := HSq.out.getBox (b := bq) (vs := [.func (.func 99) #[] #[], .func (.func 100) #[] #[]]) (by simp)
            rcases hcase with ⟨rfl, rfl, hLQ, HTQ⟩ | ⟨rfl, rfl, hLQ, HTQ⟩ | ⟨rfl, rfl, hLQ, HTQ⟩
            · have gq := (hcq 0 _ rfl).1
              have cq := mq
              obtain ⟨T, hT⟩ : ∃ T, T = overN (joiO m) n 0 LQ := ⟨_, rfl⟩
              have HTq := Lib.hid hT.symm
              have HTr := Lib.hid (show overN (joiI m) n 0 T = stepsV m from by rw [hT]; exact HTQ.out)
              have hTl : T.length ≤ LQ.length + 16 := by rw [hT]; exact joi_len4 (fun i o => joiO_len (by have := Hn.out; omega) i o) hn4
              have hTl2 : T.length ≤ 3100 := by omega
              clear hT hcq mq HTQ hTl
              go_wp2
              go_loopg [85] n (fun g i wr => ∃ (k : Nat) (L1 : List Tbl) (sl : Value), i = .int .i64 k ∧ k + g = n ∧ L1.length ≤ 3000 + 4 * k ∧ Hid (overN (joiO m) g k L1 = T) ∧ Hid (Sep w.heap.size wr (Res.box w.heap.size [sl] :: Res.tabs sl L1 :: Res.box bq [.func (.func 99) #[] #[], .func (.func 100) #[] #[]] :: Res.tab vt TT :: [])) ∧ Hid (Below w.heap.size w wr))
              case atStart => exact ⟨0, LQ, _, rfl, by omega, by omega, HTq, HSq, HBq⟩
              case round =>
                clear HTq HSq HBq hLQ gq cq
                obtain ⟨k, L1, sl, rfl, hk, hL1, HT, HS, HBk⟩ := hrel
                obtain ⟨wk, rfl⟩ : ∃ x, x = wr := ⟨_, rfl⟩
                by_cases hkn : k < n
                · have hki : (k : Int) < (n : Int) := by omega
                  obtain ⟨g, rfl⟩ : ∃ x, gk = x + 1 := ⟨gk - 1, by omega⟩
                  have HT2 := Lib.hid (show overN (joiO m) g (k + 1) (overN (fun (j : Nat) o => addT o (joinV m k j) (joinOk m k j)) (n - (k + 1)) (k + 1) L1) = T from by have h : overN (joiO m) g (k + 1) (joiO m k L1) = T := HT.out; rw [show joiO m k L1 = overN (fun (j : Nat) o => addT o (joinV m k j) (joinOk m k j)) (n - (k + 1)) (k + 1) L1 from by unfold joiO; rw [← Hn.out]] at h; exact h)
                  clear HT
                  go_wp2
                  go_loopg [14] (n - (k + 1)) (fun g2 i wr => ∃ (j : Nat) (L2 : List Tbl) (sl : Value), i = .int .i64 j ∧ j + g2 = n ∧ k < j ∧ L2.length ≤ 3000 + 4 * k + (j - (k + 1)) ∧ Hid (overN (joiO m) g (k + 1) (overN (fun (j : Nat) o => addT o (joinV m k j) (joinOk m k j)) g2 j L2) = T) ∧ Hid (Sep w.heap.size wr (Res.box w.heap.size [sl] :: Res.tabs sl L2 :: Res.box bq [.func (.func 99) #[] #[], .func (.func 100) #[] #[]] :: Res.tab vt TT :: [])) ∧ Hid (Below w.heap.size w wr))
                  case atStart => exact ⟨k + 1, L1, _, by go_num, by omega, by omega, by omega, HT2, HS, HBk⟩
                  case round =>
                    clear HT2 HS HBk hL1
                    obtain ⟨j, L2, sl, rfl, hj, hkj, hL2, HT, HS, HBk⟩ := hrel
                    obtain ⟨wj, rfl⟩ : ∃ x, x = wr := ⟨_, rfl⟩
                    have zj := HBk.out.size
                    by_cases hjn : j < n
                    · have hji : (j : Int) < (n : Int) := by omega
                      obtain ⟨g2, hg2⟩ : ∃ x, gk = x + 1 := ⟨gk - 1, by omega⟩
                      subst hg2
                      have HT2 := Lib.hid (show overN (joiO m) g (k + 1) (overN (fun (j : Nat) o => addT o (joinV m k j) (joinOk m k j)) g2 (j + 1) (addT L2 (joinV m k j) (joinOk m k j))) = T from HT.out)
                      have hadl := addT_len L2 (joinV m k j) (joinOk m k j)
                      have HCs := Lib.hid (impl_JoinOut_c (i := (k : Int)) (j := (j : Int)) (Hfr.out wj HBk.out))
                      have Hsqr := Lib.hid (fun (h : joinOk m k j = true) => joiO_sq h)
                      clear HT
                      generalize joinV m k j = M at HCs HT2 hadl Hsqr
                      generalize joinOk m k j = ok at HCs HT2 hadl Hsqr
                      go_wp2_with fail
                      (with_reducible refine HCs.out.mono ?_)
                      rintro e w4 ⟨x, rfl, hnx, hb3⟩
                      obtain ⟨xa, xc, rfl, -⟩ := (New.tab hnx).shape
                      have hs3 := (HS.out.new (OTab.kept 3 50).held hb3 (by omega) hnx).back [_, _]
                      have hz3 := hb3.size
                      have HB3 := Lib.hid (HBk.out.trans (hb3.mono (by omega)))
                      have HCa := Lib.hid (add_c hs3 (by omega) Hsqr.out (by omega))
                      generalize M.length = ml at *
                      clear hs3 hnx hb3 HCs HS HBk
                      go_wp2_with fail
                      (with_reducible refine HCa.out.mono ?_)
                      rintro e w5 ⟨rfl, ⟨sl', hs5⟩, hb5⟩
                      have HS5 := Lib.hid hs5
                      have HB5 := Lib.hid (HB3.out.trans hb5)
                      clear hs5 hb5 HCa HB3 Hsqr
                      go_wp2
                      go_roundg g2
                      case measure => omega
                      case rel => exact ⟨j + 1, _, _, by go_num, by omega, by omega, by omega, HT2, HS5, HB5⟩
                    · have hji : ¬ ((j : Int) < (n : Int)) := by omega
                      have hg2 : gk = 0 := by omega
                      have HTy := Lib.hid (show overN (joiO m) g (k + 1) L2 = T from by have h := HT.out; rw [hg2] at h; exact h)
                      clear HT hg2
                      go_wp2
                      go_roundg g
                      case measure => omega
                      case rel => exact ⟨k + 1, L2, sl, by go_num, by omega, by omega, HTy, HS, HBk⟩
                · have hki : ¬ ((k : Int) < (n : Int)) := by omega
                  have hg : gk = 0 := by omega
                  have HTz := Lib.hid (show L1 = T from by have h := HT.out; rw [hg] at h; exact h)
                  clear HT hg
                  go_wp2
                  go_roundg 1
                  case measure => omega
                  case rel => exact ⟨L1, sl, HS, HBk, Or.inr (Or.inl ⟨by go_num, rfl, by have := HTz.out; rw [this]; omega, Lib.hid (by rw [HTz.out]; exact HTr.out)⟩)⟩
            · have gq := (hcq 1 _ rfl).1
              have cq := mq
              obtain ⟨T, hT⟩ : ∃ T, T = overN (joiI m) n 0 LQ := ⟨_, rfl⟩
              have HTq := Lib.hid hT.symm
              have HTr := Lib.hid (show T = stepsV m from by rw [hT]; exact HTQ.out)
              have hTl : T.length ≤ LQ.length + 16 := by rw [hT]; exact joi_len4 (fun i o => joiI_len (by have := Hn.out; omega) i o) hn4
              have hTl2 : T.length ≤ 3200 := by omega
              clear hT hcq mq HTQ hTl
              go_wp2
              go_loopg [85] n (fun g i wr => ∃ (k : Nat) (L1 : List Tbl) (sl : Value), i = .int .i64 k ∧ k + g = n ∧ L1.length ≤ 3100 + 4 * k ∧ Hid (overN (joiI m) g k L1 = T) ∧ Hid (Sep w.heap.size wr (Res.box w.heap.size [sl] :: Res.tabs sl L1 :: Res.box bq [.func (.func 99) #[] #[], .func (.func 100) #[] #[]] :: Res.tab vt TT :: [])) ∧ Hid (Below w.heap.size w wr))
              case atStart => exact ⟨0, LQ, _, rfl, by omega, by omega, HTq, HSq, HBq⟩
              case round =>
                clear HTq HSq HBq hLQ gq cq
                obtain ⟨k, L1, sl, rfl, hk, hL1, HT, HS, HBk⟩ := hrel
                obtain ⟨wk, rfl⟩ : ∃ x, x = wr := ⟨_, rfl⟩
                by_cases hkn : k < n
                · have hki : (k : Int) < (n : Int) := by omega
                  obtain ⟨g, rfl⟩ : ∃ x, gk = x + 1 := ⟨gk - 1, by omega⟩
                  have HT2 := Lib.hid (show overN (joiI m) g (k + 1) (overN (fun (j : Nat) o => addT o (joinInV m k j) (joinInOk m k j)) (n - (k + 1)) (k + 1) L1) = T from by have h : overN (joiI m) g (k + 1) (joiI m k L1) = T := HT.out; rw [show joiI m k L1 = overN (fun (j : Nat) o => addT o (joinInV m k j) (joinInOk m k j)) (n - (k + 1)) (k + 1) L1 from by unfold joiI; rw [← Hn.out]] at h; exact h)
                  clear HT
                  go_wp2
                  go_loopg [14] (n - (k + 1)) (fun g2 i wr => ∃ (j : Nat) (L2 : List Tbl) (sl : Value), i = .int .i64 j ∧ j + g2 = n ∧ k < j ∧ L2.length ≤ 3100 + 4 * k + (j - (k + 1)) ∧ Hid (overN (joiI m) g (k + 1) (overN (fun (j : Nat) o => addT o (joinInV m k j) (joinInOk m k j)) g2 j L2) = T) ∧ Hid (Sep w.heap.size wr (Res.box w.heap.size [sl] :: Res.tabs sl L2 :: Res.box bq [.func (.func 99) #[] #[], .func (.func 100) #[] #[]] :: Res.tab vt TT :: [])) ∧ Hid (Below w.heap.size w wr))
                  case atStart => exact ⟨k + 1, L1, _, by go_num, by omega, by omega, by omega, HT2, HS, HBk⟩
                  case round =>
                    clear HT2 HS HBk hL1
                    obtain ⟨j, L2, sl, rfl, hj, hkj, hL2, HT, HS, HBk⟩ := hrel
                    obtain ⟨wj, rfl⟩ : ∃ x, x = wr := ⟨_, rfl⟩
                    have zj := HBk.out.size
                    by_cases hjn : j < n
                    · have hji : (j : Int) < (n : Int) := by omega
                      obtain ⟨g2, hg2⟩ : ∃ x, gk = x + 1 := ⟨gk - 1, by omega⟩
                      subst hg2
                      have HT2 := Lib.hid (show overN (joiI m) g (k + 1) (overN (fun (j : Nat) o => addT o (joinInV m k j) (joinInOk m k j)) g2 (j + 1) (addT L2 (joinInV m k j) (joinInOk m k j))) = T from HT.out)
                      have hadl := addT_len L2 (joinInV m k j) (joinInOk m k j)
                      have HCs := Lib.hid (impl_JoinIn_c (i := (k : Int)) (j := (j : Int)) (Hfr.out wj HBk.out))
                      have Hsqr := Lib.hid (fun (h : joinInOk m k j = true) => joiI_sq h)
                      clear HT
                      generalize joinInV m k j = M at HCs HT2 hadl Hsqr
                      generalize joinInOk m k j = ok at HCs HT2 hadl Hsqr
                      go_wp2_with fail
                      (with_reducible refine HCs.out.mono ?_)
                      rintro e w4 ⟨x, rfl, hnx, hb3⟩
                      obtain ⟨xa, xc, rfl, -⟩ := (New.tab hnx).shape
                      have hs3 := (HS.out.new (OTab.kept 3 50).held hb3 (by omega) hnx).back [_, _]
                      have hz3 := hb3.size
                      have HB3 := Lib.hid (HBk.out.trans (hb3.mono (by omega)))
                      have HCa := Lib.hid (add_c hs3 (by omega) Hsqr.out (by omega))
                      generalize M.length = ml at *
                      clear hs3 hnx hb3 HCs HS HBk
                      go_wp2_with fail
                      (with_reducible refine HCa.out.mono ?_)
                      rintro e w5 ⟨rfl, ⟨sl', hs5⟩, hb5⟩
                      have HS5 := Lib.hid hs5
                      have HB5 := Lib.hid (HB3.out.trans hb5)
                      clear hs5 hb5 HCa HB3 Hsqr
                      go_wp2
                      go_roundg g2
                      case measure => omega
                      case rel => exact ⟨j + 1, _, _, by go_num, by omega, by omega, by omega, HT2, HS5, HB5⟩
                    · have hji : ¬ ((j : Int) < (n : Int)) := by omega
                      have hg2 : gk = 0 := by omega
                      have HTy := Lib.hid (show overN (joiI m) g (k + 1) L2 = T from by have h := HT.out; rw [hg2] at h; exact h)
                      clear HT hg2
                      go_wp2
                      go_roundg g
                      case measure => omega
                      case rel => exact ⟨k + 1, L2, sl, by go_num, by omega, by omega, HTy, HS, HBk⟩
                · have hki : ¬ ((k : Int) < (n : Int)) := by omega
                  have hg : gk = 0 := by omega
                  have HTz := Lib.hid (show L1 = T from by have h := HT.out; rw [hg] at h; exact h)
                  clear HT hg
                  go_wp2
                  go_roundg 0
                  case measure => omega
                  case rel => exact ⟨L1, sl, HS, HBk, Or.inr (Or.inr ⟨by go_num, rfl, by have := HTz.out; rw [this]; omega, Lib.hid (by rw [HTz.out]; exact HTr.out)⟩)⟩
            · have HF := Lib.hid HTQ.out
              obtain ⟨-, mx, hcx⟩ := HSq.out.headBox
              have cx := (hcx 0 _ rfl).1
              have HN := Lib.hid HSq.out.tail.headNew
              obtain ⟨xa, xc, rfl, -⟩ := (New.tabs HN.out).shape
              generalize LQ.length = ll at *
              clear HTQ hcq mq hcx HSq hLQ
              go_wp2
              go_ret
              exact ⟨_, rfl, by rw [← HF.out]; exact HN.out, HBq.out⟩
end Go.Proofs.Ytdohepngandajaa
