/-
  Laws for this claim's walks, contracts of the functions that it reaches.
-/
import Derived.Test.YtcilgihmaaobeaaGreatDoorFnLabelsM35
set_option linter.unusedVariables false
set_option linter.unusedSimpArgs false
section
namespace Go.Proofs.YtcilgihmaaobeaaGreatDoor
open Go.RowKit Go.Deep Go.Sd
set_option linter.unusedSimpArgs false
set_option maxHeartbeats 2000000 in
set_option maxRecDepth 100000 in
theorem l3In_c {w : World} {vs vp : Value} {z : Sh} {P : List ByteArray} {s : ByteArray} (hz : ShR w vs z) (hf : ∀ f, f ∈ z.2 → f.size ≤ 1048576) (hp : TsR w vp P) (hP : ∀ p, p ∈ P → p.size ≤ 1000) (hs : s.size ≤ 1000) :
    Calls Tryz.prog 73 #[vs, vp, .string s] w fun e w' => e = .returned (.bool (inM z.2 P s)) ∧ Below w.heap.size w w' := by
  obtain ⟨L, F⟩ := z
  obtain ⟨va, rfl, ht⟩ := hz
  simp only at ht hf ⊢
  obtain ⟨w0, e0, hb0, c0, c1, m0⟩ := boxA_ex w 37 (.int .i64 L) va
  have hFr := TsR.frame _ _ _ _ ht hb0
  have hpr := TsR.frame _ _ _ _ hp hb0
  have HB := Lib.hid hb0
  have HA := Lib.hid (l3Avoids_c (s := s) hFr hs hf)
  have HH := Lib.hid (fun u => l2HasText_c (s := u) hpr)
  have HO := Lib.hid (fun (p : ByteArray) (h : p ∈ P) => (show Calls Tryz.prog 97 #[.string p, .string s] w0 _ from OccursIn_c p s (hP p h) (by omega)))
  obtain ⟨va1, va2, rfl, -⟩ := hFr.shape
  have hplen := hpr.len
  obtain ⟨pa, pc, rfl, -, -, hcell⟩ := hpr.shape
  have HT := Lib.hid (show inM F P s = (decide (P.length ≠ 0) && (avoM F s && (if 2 ≤ s.size then hasB P (s.extract 0 2) && hasB P (s.extract (s.size - 2) s.size) else P.any fun p => occB p s))) from rfl)
  generalize inM F P s = T at HT ⊢
  generalize F.length = fl at HA c1 e0 ⊢
  generalize avoM F s = av at HA HT
  obtain ⟨n, hn⟩ : ∃ n, n = P.length := ⟨_, rfl⟩
  have Hn := Lib.hid hn
  rw [← hn] at hcell hplen HH HT ⊢
  have Hcell := Lib.hid hcell
  clear hFr hpr ht hp hb0 hf hP hn hcell
  go_enter Tryz.func73, Tryz.ntmps73
  by_cases hn0 : n = 0
  · have HR := Lib.hid (show T = false from by rw [HT.out, hn0]; rfl)
    subst hn0
    clear HT
    go_wp2
    go_ret
    exact ⟨by rw [HR.out]; rfl, HB.out⟩
  · have hni : ¬ (n : Int) = 0 := by omega
    have t0 : ((n : Int) == 0) = false := by simp; omega
    have HT1 := Lib.hid (show T = (av && (if 2 ≤ s.size then hasB P (s.extract 0 2) && hasB P (s.extract (s.size - 2) s.size) else P.any fun p => occB p s)) from by rw [HT.out, decide_eq_true hn0, Bool.true_and])
    clear HT
    cases av with
    | false =>
      have HR := Lib.hid (show T = false from by rw [HT1.out]; rfl)
      clear HT1
      go_wp2_with fail
      (with_reducible refine HA.out.mono ?_)
      rintro e w9 ⟨rfl, hw9⟩
      rw [← hw9]
      clear hw9 w9
      go_wp2
      go_ret
      exact ⟨by rw [HR.out]; rfl, HB.out⟩
    | true =>
      by_cases h2 : 2 ≤ s.size
      · have HT2 := Lib.hid (show T = (hasB P (s.extract 0 2) && hasB P (s.extract (s.size - 2) s.size)) from by rw [HT1.out, if_pos h2, Bool.true_and])
        obtain ⟨d, hd⟩ : ∃ d, d = s.size - 2 := ⟨_, rfl⟩
        have h2i : (2 : Int) ≤ (s.size : Int) := by omega
        have h2a : ((s.size : Int) - 2).toNat = d := by omega
        have h2b : (0 : Int) ≤ (s.size : Int) - 2 := by omega
        have h2c : (s.size : Int) - 2 ≤ (s.size : Int) := by omega
        have hsi : (s.size : Int) ≤ 1000 := by omega
        have h2w : wrap64 ((s.size : Int) - 2) = (s.size : Int) - 2 := IntWalk.wrap64_in _ (by omega)
        rw [← hd] at HT2
        have HH1 := Lib.hid (HH.out (s.extract 0 2))
        have HH2 := Lib.hid (HH.out (s.extract d s.size))
        generalize hasB P (s.extract 0 2) = b1 at HT2 HH1
        generalize hasB P (s.extract d s.size) = b2 at HT2 HH2
        have Hd := Lib.hid hd
        clear HT1 HH hd hs
        cases b1 with
        | false =>
          have HR := Lib.hid (show T = false from by rw [HT2.out]; rfl)
          clear HT2
          go_wp2_with fail
          (with_reducible refine HA.out.mono ?_)
          rintro e w9 ⟨rfl, hw9⟩
          rw [← hw9]
          clear hw9 w9
          go_wp2_with fail
          (with_reducible refine HH1.out.mono ?_)
          rintro e w9 ⟨rfl, hw9⟩
          rw [← hw9]
          clear hw9 w9
          go_wp2
          go_ret
          exact ⟨by rw [HR.out]; rfl, HB.out⟩
        | true =>
          have HR := Lib.hid (show T = b2 from by rw [HT2.out]; rfl)
          clear HT2
          go_wp2_with fail
          (with_reducible refine HA.out.mono ?_)
          rintro e w9 ⟨rfl, hw9⟩
          rw [← hw9]
          clear hw9 w9
          go_wp2_with fail
          (with_reducible refine HH1.out.mono ?_)
          rintro e w9 ⟨rfl, hw9⟩
          rw [← hw9]
          clear hw9 w9
          go_wp2_with fail
          (with_reducible refine HH2.out.mono ?_)
          rintro e w9 ⟨rfl, hw9⟩
          rw [← hw9]
          clear hw9 w9
          go_wp2
          go_ret
          exact ⟨by rw [HR.out]; rfl, HB.out⟩
      · have HT2 := Lib.hid (show T = (P.any fun p => occB p s) from by rw [HT1.out, if_neg h2, Bool.true_and])
        have h2i : ¬ (2 : Int) ≤ (s.size : Int) := by omega
        clear HT1 HH
        go_wp2_with fail
        (with_reducible refine HA.out.mono ?_)
        rintro e w9 ⟨rfl, hw9⟩
        rw [← hw9]
        clear hw9 w9
        go_wp2
        go_loopg [7] n (fun g i wr => ∃ (j : Nat), i = .int .i64 j ∧ j + g = n ∧ Hid (∀ (k : Nat) (p : ByteArray), k < j → P[k]? = some p → occB p s = false) ∧ w0 = wr)
        case atStart => exact ⟨0, rfl, by omega, Lib.hid (fun k f hk => absurd hk (Nat.not_lt_zero _)), rfl⟩
        case round =>
          obtain ⟨j, rfl, hj, HK, rfl⟩ := hrel
          by_cases h1 : j < n
          · have h1i : (j : Int) < (n : Int) := by omega
            obtain ⟨g, rfl⟩ : ∃ x, gk = x + 1 := ⟨gk - 1, by omega⟩
            obtain ⟨b, o, rfl, -, hx⟩ := Hcell.out (by omega)
            obtain ⟨p, hp, -⟩ := at_lt (xs := P) (k := j) (by rw [← Hn.out]; exact h1)
            obtain ⟨u, hu, hu2⟩ := hx j p hp
            have hu2' : u = .string p := hu2
            subst hu2'
            have HC1 := Lib.hid (HO.out p (List.mem_of_getElem? hp))
            cases ho : occB p s with
            | true =>
              have hT := Lib.hid (show T = true from by rw [HT2.out, List.any_eq_true]; exact ⟨p, List.mem_of_getElem? hp, ho⟩)
              rw [ho] at HC1
              clear hx hp hu2 ho HT2
              go_wp2_with fail
              (with_reducible refine HC1.out.mono ?_)
              rintro e w9 ⟨rfl, hw9⟩
              rw [← hw9]
              clear hw9 w9
              go_wp2
              go_ret
              exact ⟨by rw [hT.out]; rfl, HB.out⟩
            | false =>
              have hK2 := Lib.hid (show ∀ (k : Nat) (p : ByteArray), k < j + 1 → P[k]? = some p → occB p s = false from fun k f' hk hf' => by
                by_cases e : k = j
                · rw [e, hp] at hf'
                  cases hf'
                  exact ho
                · exact HK.out k f' (by omega) hf')
              rw [ho] at HC1
              clear hx hp hu2 ho HK
              go_wp2_with fail
              (with_reducible refine HC1.out.mono ?_)
              rintro e w9 ⟨rfl, hw9⟩
              rw [← hw9]
              clear hw9 w9
              go_wp2
              go_roundg g
              case measure => omega
              case rel => exact ⟨j + 1, by go_num, by omega, hK2, rfl⟩
          · have h1i : ¬ (j : Int) < (n : Int) := by omega
            have hT := Lib.hid (show T = false from by
              rw [HT2.out, List.any_eq_false]
              intro p hp
              obtain ⟨k, hk⟩ := List.getElem?_of_mem hp
              rw [HK.out k p (by have := (List.getElem?_eq_some_iff.1 hk).1; rw [← Hn.out] at this; omega) hk]
              decide)
            clear HK HT2
            go_wp2
            go_ret
            exact ⟨by rw [hT.out]; rfl, HB.out⟩
set_option maxHeartbeats 4000000 in
set_option maxRecDepth 100000 in
theorem spec_LanguageOf_c {w : World} {vs : Value} {z : Sh} {n : Int} (hz : ShR w vs z) (hf : ∀ f, f ∈ z.2 → f.size ≤ 1048576) (hI : I64 n) :
    Calls Tryz.prog 32 #[vs, .int .i64 n] w (Makes (OStrL 9) w (lanM z n)) := by
  have HV := Lib.hid (show lanM z n = if (shiftM z && decide (0 ≤ n ∧ n ≤ 6)) = true then ((allW z.1.toNat n.toNat).filter fun wd => inM z.2 ((pairsM z.2 z.1.toNat).map wordT) (wordT wd)).map wordT else [] from rfl)
  have HIs := Lib.hid (fun w1 (hb : Below w.heap.size w w1) => spec_IsShift_c (ShR.frame _ _ _ _ hz hb) hf)
  have HOf := Lib.hid (fun (h : shiftM z = true) => shiftM_of h)
  have HPa := Lib.hid (fun (h : shiftM z = true) w1 (hb : Below w.heap.size w w1) => l3Pairs_c (w := w1) (vs := vs) (L := z.1.toNat) (F := z.2) (by
    have := (shiftM_of h).1
    obtain ⟨L, F⟩ := z
    obtain ⟨va, e, ht⟩ := hz
    refine ⟨va, ?_, TsR.frame _ _ _ _ ht hb⟩
    rw [e]
    simp only at this ⊢
    rw [Int.toNat_of_nonneg (by omega)]) (by have := (shiftM_of h).1; omega) (by have := (shiftM_of h).1; omega) hf)
  generalize lanM z n = V at HV ⊢
  generalize shiftM z = ok at HV HIs HOf HPa
  obtain ⟨L, F⟩ := z
  obtain ⟨va, rfl, ht⟩ := hz
  simp only at ht hf HV HIs HOf HPa
  obtain ⟨w0, e0, hb0, c0, c1, m0⟩ := boxA_ex w 37 (.int .i64 L) va
  have HFr := Lib.hid (TsR.frame _ _ _ _ ht hb0)
  obtain ⟨va1, va2, rfl, -⟩ := HFr.out.shape
  generalize hfl : F.length = fl at c1 e0 HFr HIs HPa ⊢
  have Hf := Lib.hid hf
  have Ht := Lib.hid (show TsR w (.slice va1 fl va2) F from by rw [← hfl]; exact ht)
  have HB0 := Lib.hid hb0
  have H0 := Lib.hid (New.empty (e := 9) (R := OValR Value.string) w0 (Nat.le_refl _))
  obtain ⟨w1, e1⟩ : ∃ x, x = w0.alloc (.cells #[] 9) := ⟨_, rfl⟩
  have B0 := Lib.hid (show Below w0.heap.size w0 w1 from by rw [e1]; exact (Below.refl _ _).alloc (Nat.le_refl _) _)
  rw [← e1] at H0
  have e1s := e1.symm
  have d0 := (B0.out.cell (p := ⟨w.heap.size, 0, none⟩) m0).trans c0
  have d1 := (B0.out.cell (p := ⟨w.heap.size, 1, none⟩) m0).trans c1
  have m1 : w.heap.size < w1.heap.size := Nat.lt_of_lt_of_le m0 B0.out.size
  have HB1 := Lib.hid (HB0.out.trans (B0.out.mono HB0.out.size))
  have HTop := Lib.hid (B0.out.mono (Nat.le_of_lt m0))
  clear e1 hfl hf ht hb0
  go_enter Tryz.func32, Tryz.ntmps32
  go_wp2_with fail
  (with_reducible refine (HIs.out _ HB1.out).mono ?_)
  rintro e w2 ⟨rfl, hb2⟩
  have d0 := (hb2.cell (p := ⟨w.heap.size, 0, none⟩) m1).trans d0
  have d1 := (hb2.cell (p := ⟨w.heap.size, 1, none⟩) m1).trans d1
  have m2 : w.heap.size < w2.heap.size := Nat.lt_of_lt_of_le m1 hb2.size
  have HB2 := Lib.hid (HB1.out.trans (hb2.mono HB1.out.size))
  have HN2 := Lib.hid ((Sep.one (OwnOf.kept OStr.kept).held H0.out).below hb2 (Nat.le_refl _))
  have HBw := Lib.hid (B0.out.trans (hb2.mono B0.out.size))
  clear hb2 H0 HIs e1s
  cases ok with
  | false =>
    have HR := Lib.hid (show V = [] from by rw [HV.out]; rfl)
    have HN := Lib.hid (show New (OStrL 9) w.heap.size w2 _ V from by rw [HR.out]; exact HN2.out.headNew.mono (Nat.le_of_lt m0))
    clear HV HN2 HPa HOf
    go_wp2
    go_ret
    exact ⟨_, rfl, HN.out, HB2.out⟩
  | true =>
    have hs := HOf.out rfl
    obtain ⟨⟨hL1, hL3⟩, -, -⟩ := hs
    replace HPa := Lib.hid (HPa.out rfl)
    by_cases hn : 0 ≤ n ∧ n ≤ 6
    · have HInT := Lib.hid (fun w1 => (show Calls Tryz.prog 57 #[.int .i64 n, .int .i64 0, .int .i64 6] w1 (fun e w' => e = .returned (.bool true) ∧ w1 = w') from l1In_yes w1 hn.1 hn.2))
      have HVT := Lib.hid (show V = ((allW L.toNat n.toNat).filter fun wd => inM F ((pairsM F L.toNat).map wordT) (wordT wd)).map wordT from by rw [HV.out, decide_eq_true hn]; rfl)
      obtain ⟨hn0, hn6⟩ := hn
      obtain ⟨q, rfl⟩ := Int.eq_ofNat_of_zero_le hn0
      obtain ⟨N, rfl⟩ := Int.eq_ofNat_of_zero_le (show 0 ≤ L by omega)
      rw [show ((N : Nat) : Int).toNat = N from rfl, show ((q : Nat) : Int).toNat = q from rfl] at HVT
      rw [show ((N : Nat) : Int).toNat = N from rfl] at HPa
      have HAl := Lib.hid (fun w1 => (show Calls Tryz.prog 58 #[.int .i64 (N : Int), .int .i64 (q : Int)] w1 _ from l2All_c (w := w1) (n := q) (by omega) (by omega) (by omega)))
      have HPs := Lib.hid (show ∀ p, p ∈ (pairsM F N).map wordT → p.size ≤ 1000 from fun p hp => by
        obtain ⟨u, hu, rfl⟩ := List.mem_map.1 hp
        obtain ⟨⟨a, b, rfl, -, -⟩, -⟩ := (avoW_iff (by omega)).1 (pairs_sub hu)
        rw [wordT_size]
        simp)
      have Hm := Lib.hid (fun wd (h : wd ∈ allW N q) => (show (wordT wd).size ≤ 1000 from by rw [wordT_size, (allW_mem (by omega) h).1]; omega))
      have hM : (allW N q).length ≤ 729 := by rw [allW_len (by omega)]; exact pow_le (by omega) (by omega)
      have HZ := Lib.hid (fun (w' : World) (hb : Below w.heap.size w w') => (show ShR w' (.agg #[.int .i64 (N : Int), .slice va1 fl va2]) ((N : Int), F) from ⟨_, rfl, TsR.frame _ _ _ _ Ht.out hb⟩))
      have HX := Lib.hid (fun (w' : World) (hb : Below w.heap.size w w') (vp : Value) (hp : TsR w' vp ((pairsM F N).map wordT)) (wd : List Nat) (h : wd ∈ allW N q) => (show Calls Tryz.prog 73 #[.agg #[.int .i64 (N : Int), .slice va1 fl va2], vp, .string (wordT wd)] w' (fun e w'' => e = .returned (.bool (inM F ((pairsM F N).map wordT) (wordT wd))) ∧ Below w'.heap.size w' w'') from l3In_c (HZ.out w' hb) Hf.out hp HPs.out (Hm.out wd h)))
      generalize hPN : (pairsM F N).map wordT = PN at HPa HPs HVT HX
      generalize allW N q = A at HAl Hm hM HVT HX
      clear HV HOf hPN
      have hN1 : (1 : Int) ≤ (N : Int) := by omega
      go_wp2_with fail
      (with_reducible refine (HInT.out _).mono ?_)
      rintro e w9 ⟨rfl, hw9⟩
      rw [← hw9]
      clear hw9 w9
      go_wp2_with fail
      (with_reducible refine (HPa.out _ HB2.out).mono ?_)
      rintro e w3 ⟨pv, rfl, hn3, hb3⟩
      have d0 := (hb3.cell (p := ⟨w.heap.size, 0, none⟩) m2).trans d0
      have d1 := (hb3.cell (p := ⟨w.heap.size, 1, none⟩) m2).trans d1
      have m3 : w.heap.size < w3.heap.size := Nat.lt_of_lt_of_le m2 hb3.size
      have z2 := HBw.out.size
      have HN3 := Lib.hid (HN2.out.new (OwnOf.kept OStr.kept).held hb3 z2 hn3)
      have HB3 := Lib.hid (HB2.out.trans (hb3.mono HB2.out.size))
      have HBw3 := Lib.hid (HBw.out.trans (hb3.mono z2))
      clear hb3 hn3 HN2 HB2 HBw HPa
      go_wp2_with fail
      (with_reducible refine (HAl.out _).mono ?_)
      rintro e w4 ⟨av, rfl, hn4, hb4⟩
      have d0 := (hb4.cell (p := ⟨w.heap.size, 0, none⟩) m3).trans d0
      have d1 := (hb4.cell (p := ⟨w.heap.size, 1, none⟩) m3).trans d1
      have m4 : w.heap.size < w4.heap.size := Nat.lt_of_lt_of_le m3 hb4.size
      have z3 := HBw3.out.size
      have hs4 := (HN3.out.new (OwnOf.kept OStr.kept).held hb4 z3 hn4)
      obtain ⟨aa, ac, ea, _⟩ := hs4.strsAt
      obtain ⟨pa, pc, ep, _⟩ := hs4.swap.strsAt
      subst ea ep
      rw [List.length_map] at hs4 ⊢
      have HN4 := Lib.hid hs4.third
      have HB4 := Lib.hid (HB3.out.trans (hb4.mono HB3.out.size))
      have HBw4 := Lib.hid (HBw3.out.trans (hb4.mono z3))
      clear hb4 hn4 HN3 HB3 HBw3 HAl hs4
      go_wp2
      go_loopg [5, 8] A.length (fun g vs i wr => ∃ (k : Nat) (a : Option Addr) (c : Nat), vs = .slice a ((A.take k).filter fun wd => inM F PN (wordT wd)).length c ∧ i = .int .i64 k ∧ k + g = A.length ∧ Hid (Sep w0.heap.size wr [Res.strs 9 (.slice a ((A.take k).filter fun wd => inM F PN (wordT wd)).length c) (((A.take k).filter fun wd => inM F PN (wordT wd)).map wordT), Res.strs 9 (.slice aa A.length ac) (A.map wordT), Res.strs 9 (.slice pa PN.length pc) PN]) ∧ Hid (Below w0.heap.size w4 wr))
      case atStart => exact ⟨0, _, _, rfl, rfl, by omega, HN4, Lib.hid (Below.refl _ _)⟩
      case round =>
        clear HN4
        obtain ⟨k, a, c, rfl, rfl, hk, HS, HB⟩ := hrel
        obtain ⟨wB, rfl⟩ : ∃ x, x = wr := ⟨_, rfl⟩
        by_cases hlt : k < A.length
        · obtain ⟨g, rfl⟩ : ∃ x, gk = x + 1 := ⟨gk - 1, by omega⟩
          obtain ⟨wd, hwd, _⟩ := at_lt hlt
          have hsw := HS.out.swap
          obtain ⟨_, _, hv, hq⟩ := hsw.strsAt
          obtain ⟨b, e1, hb, hc⟩ := hq (by simp; omega)
          simp at hv
          obtain ⟨rfl, rfl⟩ := hv
          subst e1
          have g0 := hc k (wordT wd) (by simp [hwd])
          have k0 := (HB.out.cell (p := ⟨w.heap.size, 0, none⟩) m0).trans d0
          have k1 := (HB.out.cell (p := ⟨w.heap.size, 1, none⟩) m0).trans d1
          have hTP : TsR wB (.slice pa PN.length pc) PN := by
            obtain ⟨G, hG, -⟩ := HS.out.third.headNew
            exact OwnOf.reads (fun _ _ _ _ h => h.1) hG
          have hBw : Below w.heap.size w wB := HB4.out.trans (HB.out.mono (Nat.le_of_lt m0))
          have C1 := Lib.hid (fun (w' : World) (hb' : Below wB.heap.size wB w') => HX.out w' (hBw.trans (hb'.mono hBw.size)) _ (TsR.frame _ _ _ _ hTP hb') wd (List.mem_of_getElem? hwd))
          have zB := HB.out.size
          have mB : w.heap.size < wB.heap.size := Nat.lt_of_lt_of_le m4 zB
          have z4 : w0.heap.size ≤ wB.heap.size := Nat.le_trans HBw4.out.size zB
          have hki : (k : Int) < (A.length : Int) := by omega
          have HT := Lib.hid (show (A.take (k + 1)).filter (fun wd => inM F PN (wordT wd)) = (A.take k).filter (fun wd => inM F PN (wordT wd)) ++ (if inM F PN (wordT wd) = true then [wd] else []) from by rw [← take_snoc' hwd, List.filter_append]; congr 1; simp [List.filter_cons])
          have hfl : ((A.take k).filter fun wd => inM F PN (wordT wd)).length ≤ 729 := Nat.le_trans (List.length_filter_le _ _) (by simp; omega)
          generalize hfn : ((A.take k).filter fun wd => inM F PN (wordT wd)) = fl' at HS HT hfl
          generalize inM F PN (wordT wd) = inn at C1 HT
          have HSS := Lib.hid (fun (w' : World) (hb' : Below wB.heap.size wB w') => (show w'.cell? ⟨w.heap.size, 0, none⟩ = some (.int .i64 N) ∧ w'.cell? ⟨w.heap.size, 1, none⟩ = some (.slice va1 fl va2) ∧ w'.cell? ⟨b, k, none⟩ = some (.string (wordT wd)) from ⟨(hb'.cell (p := ⟨w.heap.size, 0, none⟩) mB).trans k0, (hb'.cell (p := ⟨w.heap.size, 1, none⟩) mB).trans k1, (hb'.cell (p := ⟨b, k, none⟩) hb).trans g0⟩))
          have hS0 := HSS.out _ (Below.refl _ _)
          have B1 := (Below.refl wB.heap.size wB).drew
          have hSd := HSS.out _ B1
          clear hfn hwd hq hc hTP hBw hsw d0 d1
          go_wp2
          go_region_held3 (fun w' => w'.cell? ⟨w.heap.size, 0, none⟩ = some (.int .i64 N) ∧ w'.cell? ⟨w.heap.size, 1, none⟩ = some (.slice va1 fl va2) ∧ w'.cell? ⟨b, k, none⟩ = some (.string (wordT wd)))
            (first | with_reducible exact hS2 | with_reducible exact hSd | with_reducible exact hS0 | go_keep)
            ((first
              | (go_at_call 73; (with_reducible refine (C1.out _ B1).mono ?_); rintro e u1 ⟨rfl, q1⟩; have B2 := B1.trans (q1.mono B1.size); have hS2 := HSS.out _ B2)
              | fail))
          have hs2 := HS.out.below B2 (Nat.le_refl _)
          have hb2 := HB.out.trans (B2.mono z4)
          have g2' := (B2.cell (p := ⟨b, k, none⟩) hb).trans g0
          have hz2 := Nat.le_trans z4 B2.size
          cases inn with
          | false =>
            have HT2 := Lib.hid (show (A.take (k + 1)).filter (fun wd => inM F PN (wordT wd)) = fl' from by rw [HT.out]; simp)
            have HS2 := Lib.hid hs2
            have HB2 := Lib.hid hb2
            clear HT hs2 hb2 HS HB C1 HSS q1
            go_wp2
            go_roundg g
            case measure => omega
            case rel => exact ⟨k + 1, _, _, by rw [HT2.out], by go_num, by omega, by rw [HT2.out]; exact HS2, HB2⟩
          | true =>
            have HT2 := Lib.hid (show (A.take (k + 1)).filter (fun wd => inM F PN (wordT wd)) = fl' ++ [wd] from by rw [HT.out]; simp)
            obtain ⟨v', w5, hr, hs3, hb3⟩ := Sep.push (P := Tryz.prog) OStr.kept 29 29 (.string ⟨#[]⟩) 16 Tryz.underlying29 infoStr rfl hs2 hz2 (w1 := u1.alloc (.cells #[.string (wordT wd)] 9)) ((Below.refl _ _).alloc (Nat.le_refl _) _) (q := .string (wordT wd)) (x := wordT wd) ⟨[], ⟨rfl, rfl⟩, by simp [Fresh]⟩ (bb := u1.heap.size) (c := 1) (World.cell?_alloc_at _ _ _ 0 rfl) (by simp; omega) (by simp; omega)
            obtain ⟨a', c', ev, _⟩ := hs3.strsAt
            subst ev
            have e5 : (fl'.map wordT ++ [wordT wd]).length = (fl' ++ [wd]).length := by simp
            have e6 : fl'.map wordT ++ [wordT wd] = (fl' ++ [wd]).map wordT := by simp
            rw [e5, e6] at hs3
            rw [e5] at hr
            have e7 : (fl' ++ [wd]).length = fl'.length + 1 := by simp
            rw [e7] at hs3 hr
            have HS3 := Lib.hid hs3
            have HB3 := Lib.hid (hb2.trans hb3)
            have Hr := Lib.hid hr
            have E7 := Lib.hid e7
            clear HT hs3 hr hb3 e5 e6 e7 hs2 hb2 HS HB C1 HSS q1 B1 B2
            go_wp2_with (first
              | (at_builtin; refine wpl_append_run rfl (.tmp 38) (.tmp 43) 29 rfl rfl rfl Hr.out ?_)
              | fail)
            go_roundg g
            case measure => omega
            case rel => exact ⟨k + 1, _, _, by rw [HT2.out, E7.out], by go_num, by omega, by rw [HT2.out, E7.out]; exact HS3, HB3⟩
        · have HR := Lib.hid (show New (OStrL 9) w0.heap.size wB (.slice a ((A.take k).filter fun wd => inM F PN (wordT wd)).length c) V from by have h := HS.out.headNew; rw [HVT.out]; rw [List.take_of_length_le (by omega)] at h ⊢; exact h)
          have hki : ¬ ((k : Int) < (A.length : Int)) := by omega
          have HBf := Lib.hid (HB4.out.trans (HB.out.mono (Nat.le_of_lt m0)))
          have HR2 := Lib.hid (HR.out.mono (Nat.le_of_lt m0))
          generalize ((A.take k).filter fun wd => inM F PN (wordT wd)).length = fl' at HR2
          clear HS HR HB
          go_wp2
          go_ret
          exact ⟨_, rfl, HR2.out, HBf.out⟩
    · have HInF := Lib.hid (fun w1 => (show Calls Tryz.prog 57 #[.int .i64 n, .int .i64 0, .int .i64 6] w1 (fun e w' => e = .returned (.bool false) ∧ w1 = w') from l1In_no w1 (by omega)))
      have HR := Lib.hid (show V = [] from by rw [HV.out, decide_eq_false hn]; rfl)
      have HN := Lib.hid (show New (OStrL 9) w.heap.size w2 _ V from by rw [HR.out]; exact HN2.out.headNew.mono (Nat.le_of_lt m0))
      clear HV HN2 HPa HOf hn
      go_wp2_with fail
      (with_reducible refine (HInF.out _).mono ?_)
      rintro e w9 ⟨rfl, hw9⟩
      rw [← hw9]
      clear hw9 w9
      go_wp2
      go_ret
      exact ⟨_, rfl, HN.out, HB2.out⟩
theorem spec_StatesOf_c {w : World} {vs : Value} {z : Sh} (hz : ShR w vs z) (hf : ∀ f, f ∈ z.2 → f.size ≤ 1048576) :
    Calls Tryz.prog 51 #[vs] w (Makes (OStrL 9) w (lanM z 2)) := by
  have HL := Lib.hid (fun w1 (hb : Below w.heap.size w w1) => spec_LanguageOf_c (ShR.frame _ _ _ _ hz hb) hf (n := 2) (by unfold I64; omega))
  obtain ⟨L, F⟩ := z
  obtain ⟨va, rfl, ht⟩ := hz
  simp only at ht hf HL
  obtain ⟨w0, e0, hb0, c0, c1, m0⟩ := boxA_ex w 37 (.int .i64 L) va
  obtain ⟨va1, va2, rfl, -⟩ := ht.shape
  generalize F.length = fl at c1 e0 HL ⊢
  generalize lanM (L, F) 2 = V at HL ⊢
  have HB0 := Lib.hid hb0
  clear hf ht
  go_enter Tryz.func51, Tryz.ntmps51
  go_wp2_with fail
  (with_reducible refine (HL.out _ HB0.out).mono ?_)
  rintro e w2 ⟨r, rfl, hn, hb⟩
  have HN := Lib.hid (hn.mono (Nat.le_of_lt m0))
  have HB := Lib.hid (HB0.out.trans (hb.mono HB0.out.size))
  clear hn hb
  go_wp2
  go_ret
  exact ⟨_, rfl, HN.out, HB.out⟩
end Go.Proofs.YtcilgihmaaobeaaGreatDoor
end
