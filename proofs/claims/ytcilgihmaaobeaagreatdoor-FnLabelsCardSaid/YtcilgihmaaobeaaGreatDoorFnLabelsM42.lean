/-
  Laws for this claim's walks, contracts of the functions that it reaches.
-/
import Derived.Test.YtcilgihmaaobeaaGreatDoorFnLabelsM36
import Derived.Test.YtcilgihmaaobeaaGreatDoorFnLabelsM40
set_option linter.unusedVariables false
set_option linter.unusedSimpArgs false
section
namespace Go.Proofs.YtcilgihmaaobeaaGreatDoor
open Go.RowKit Go.Deep Go.Sd
set_option linter.unusedSimpArgs false
/-- The program's test of a word. -/
def hasM (F P : List ByteArray) (s : ByteArray) : Bool := if 2 ≤ s.size then avoM F s && (hasB P (s.extract 0 2) && hasB P (s.extract (s.size - 2) s.size)) else P.any fun p => occB p s
theorem has_in {F : List ByteArray} {L : Nat} (h0 : 0 < L) (s : ByteArray) : hasM F ((pairsM F L).map wordT) s = inM F ((pairsM F L).map wordT) s := by
  unfold hasM inM
  by_cases h2 : 2 ≤ s.size
  · rw [if_pos h2, if_pos h2]
    cases hb : hasB ((pairsM F L).map wordT) (s.extract 0 2) with
    | false => simp
    | true =>
      have : ((pairsM F L).map wordT).length ≠ 0 := by
        intro h0
        rw [List.length_eq_zero_iff] at h0
        rw [h0] at hb
        cases hb
      rw [decide_eq_true this]
      simp
  · rw [if_neg h2, if_neg h2]
    cases ha : ((pairsM F L).map wordT).any fun p => occB p s with
    | false => simp
    | true =>
      obtain ⟨p, hp, ho⟩ := List.any_eq_true.1 ha
      have : ((pairsM F L).map wordT).length ≠ 0 := by
        intro h0
        rw [List.length_eq_zero_iff] at h0
        rw [h0] at hp
        cases hp
      obtain ⟨u, hu, rfl⟩ := List.mem_map.1 hp
      have h1 := ((avoW_iff h0).1 (pairs_sub hu)).2
      rw [decide_eq_true this, (avoM_iff F s).2 (h1.sub ((occB_infix _ _).1 ho))]
      rfl
theorem hasB_take {P : List ByteArray} {k : Nat} {p : ByteArray} (h : P[k]? = some p) (s : ByteArray) : hasB (P.take (k + 1)) s = (hasB (P.take k) s || (p.toList == s.toList)) := by
  rw [← take_snoc' h]
  unfold hasB
  rw [List.any_append]
  simp
set_option maxHeartbeats 4000000 in
set_option maxRecDepth 100000 in
theorem has_c {w : World} {vs vp : Value} {z : Sh} {P : List ByteArray} {s : ByteArray} (hz : ShR w vs z) (hM : MaxOk w) (hp : TsR w vp P) (hP : ∀ p, p ∈ P → p.size ≤ 1000) (hs : s.size ≤ 1000) :
    Calls Tryz.prog 124 #[vs, vp, .string s] w fun e w' => e = .returned (.bool (hasM z.2 P s)) ∧ Below w.heap.size w w' := by
  have HA := Lib.hid (fun w1 (hb : Below w.heap.size w w1) => avoids_c (s := s) (ShR.frame _ _ _ _ hz hb) (hM.below hb) hs)
  have HT := Lib.hid (show hasM z.2 P s = if 2 ≤ s.size then avoM z.2 s && (hasB P (s.extract 0 2) && hasB P (s.extract (s.size - 2) s.size)) else P.any fun p => occB p s from rfl)
  generalize hasM z.2 P s = T at HT ⊢
  generalize avoM z.2 s = av at HA HT
  obtain ⟨L, F⟩ := z
  obtain ⟨va, rfl, ht⟩ := hz
  simp only at ht HA HT
  obtain ⟨w0, e0, hb0, c0, c1, m0⟩ := boxA_ex w 37 (.int .i64 L) va
  have hpr := TsR.frame _ _ _ _ hp hb0
  obtain ⟨va1, va2, rfl, -⟩ := ht.shape
  generalize F.length = fl at HA c1 e0 ⊢
  have HB := Lib.hid hb0
  have HC := Lib.hid (fun (p : ByteArray) (h : p ∈ P) => Contains_c (hM.below hb0) p s (hP p h))
  have hplen := hpr.len
  have HPr := Lib.hid hpr
  obtain ⟨pa, pc, rfl, -, -, hcell⟩ := hpr.shape
  obtain ⟨n, hn⟩ : ∃ n, n = P.length := ⟨_, rfl⟩
  have Hn := Lib.hid hn
  rw [← hn] at hcell hplen HPr ⊢
  have Hcell := Lib.hid hcell
  clear ht hp hb0 hP hn hcell hM hpr
  go_enter Tryz.func124, Tryz.ntmps124
  by_cases h2 : 2 ≤ s.size
  · have h2i : ¬ (s.size : Int) < 2 := by omega
    have HT1 := Lib.hid (show T = (av && (hasB P (s.extract 0 2) && hasB P (s.extract (s.size - 2) s.size))) from by rw [HT.out, if_pos h2])
    clear HT HC Hcell
    cases av with
    | false =>
      have HR := Lib.hid (show T = false from by rw [HT1.out]; rfl)
      clear HT1
      go_wp2_with fail
      (with_reducible refine (HA.out _ HB.out).mono ?_)
      rintro e w2 ⟨rfl, hb2⟩
      have HBf := Lib.hid (HB.out.trans (hb2.mono HB.out.size))
      clear hb2
      go_wp2
      go_ret
      exact ⟨by rw [HR.out]; rfl, HBf.out⟩
    | true =>
      obtain ⟨d, hd⟩ : ∃ d, d = s.size - 2 := ⟨_, rfl⟩
      have h2j : (2 : Int) ≤ (s.size : Int) := by omega
      have h2a : ((s.size : Int) - 2).toNat = d := by omega
      have h2b : (0 : Int) ≤ (s.size : Int) - 2 := by omega
      have h2c : (s.size : Int) - 2 ≤ (s.size : Int) := by omega
      have hsi : (s.size : Int) ≤ 1000 := by omega
      have h2w : wrap64 ((s.size : Int) - 2) = (s.size : Int) - 2 := IntWalk.wrap64_in _ (by omega)
      rw [← hd] at HT1
      have HT2 := Lib.hid (show T = (hasB P (s.extract 0 2) && hasB P (s.extract d s.size)) from by rw [HT1.out]; rfl)
      have Hd := Lib.hid hd
      clear HT1 hd
      go_wp2_with fail
      (with_reducible refine (HA.out _ HB.out).mono ?_)
      rintro e w2 ⟨rfl, hb2⟩
      have HBf := Lib.hid (HB.out.trans (hb2.mono HB.out.size))
      have hpr2 := TsR.frame _ _ _ _ HPr.out hb2
      obtain ⟨_, _, hv, -, -, hcell⟩ := hpr2.shape
      simp at hv
      obtain ⟨rfl, hvl, rfl⟩ := hv
      rw [← Hn.out] at hcell
      have Hcell := Lib.hid hcell
      clear hb2 hpr2 hcell HA hvl
      go_wp2
      go_loopg [9, 10, 32] n (fun g v1 v2 i wr => ∃ (j : Nat) (a b : Bool), v1 = .bool a ∧ v2 = .bool b ∧ i = .int .i64 j ∧ j + g = n ∧ Hid (a = hasB (P.take j) (s.extract 0 2) ∧ b = hasB (P.take j) (s.extract d s.size)) ∧ w2 = wr)
      case atStart => exact ⟨0, false, false, rfl, rfl, rfl, by omega, Lib.hid ⟨rfl, rfl⟩, rfl⟩
      case round =>
        obtain ⟨j, a, b, rfl, rfl, rfl, hj, HK, rfl⟩ := hrel
        by_cases h1 : j < n
        · have h1i : (j : Int) < (n : Int) := by omega
          obtain ⟨g, rfl⟩ : ∃ x, gk = x + 1 := ⟨gk - 1, by omega⟩
          obtain ⟨bp, o, rfl, -, hx⟩ := Hcell.out (by omega)
          obtain ⟨p, hp, -⟩ := at_lt (xs := P) (k := j) (by rw [← Hn.out]; exact h1)
          obtain ⟨u, hu, hu2⟩ := hx j p hp
          have hu2' : u = .string p := hu2
          subst hu2'
          have HX := Lib.hid (show hasB (P.take (j + 1)) (s.extract 0 2) = (a || (p.toList == (s.extract 0 2).toList)) ∧ hasB (P.take (j + 1)) (s.extract d s.size) = (b || (p.toList == (s.extract d s.size).toList)) from ⟨by rw [hasB_take hp, ← HK.out.1], by rw [hasB_take hp, ← HK.out.2]⟩)
          generalize hx1 : (p.toList == (s.extract 0 2).toList) = x1 at HX
          generalize hx2 : (p.toList == (s.extract d s.size).toList) = x2 at HX
          clear hx hp hu2 HK
          cases a with
          | false =>
            cases b with
            | false =>
              go_wp2
              go_roundg g
              case measure => omega
              case rel => exact ⟨j + 1, x1, x2, rfl, rfl, by go_num, by omega, Lib.hid ⟨by rw [HX.out.1]; rfl, by rw [HX.out.2]; rfl⟩, rfl⟩
            | true =>
              go_wp2
              go_roundg g
              case measure => omega
              case rel => exact ⟨j + 1, x1, true, rfl, rfl, by go_num, by omega, Lib.hid ⟨by rw [HX.out.1]; rfl, by rw [HX.out.2]; rfl⟩, rfl⟩
          | true =>
            cases b with
            | false =>
              go_wp2
              go_roundg g
              case measure => omega
              case rel => exact ⟨j + 1, true, x2, rfl, rfl, by go_num, by omega, Lib.hid ⟨by rw [HX.out.1]; rfl, by rw [HX.out.2]; rfl⟩, rfl⟩
            | true =>
              go_wp2
              go_roundg g
              case measure => omega
              case rel => exact ⟨j + 1, true, true, rfl, rfl, by go_num, by omega, Lib.hid ⟨by rw [HX.out.1]; rfl, by rw [HX.out.2]; rfl⟩, rfl⟩
        · have h1i : ¬ (j : Int) < (n : Int) := by omega
          have hT := Lib.hid (show T = (a && b) from by
            have h := HK.out
            rw [List.take_of_length_le (by rw [← Hn.out]; omega)] at h
            rw [HT2.out, ← h.1, ← h.2])
          clear HK HT2
          cases a with
          | false =>
            go_wp2
            go_ret
            exact ⟨by rw [hT.out]; rfl, HBf.out⟩
          | true =>
            go_wp2
            go_ret
            exact ⟨by rw [hT.out]; rfl, HBf.out⟩
  · have h2i : (s.size : Int) < 2 := by omega
    have HT2 := Lib.hid (show T = (P.any fun p => occB p s) from by rw [HT.out, if_neg h2])
    clear HT HA HPr
    go_wp2
    go_loopg [18] n (fun g i wr => ∃ (j : Nat), i = .int .i64 j ∧ j + g = n ∧ Hid (∀ (k : Nat) (p : ByteArray), k < j → P[k]? = some p → occB p s = false) ∧ w0 = wr)
    case atStart => exact ⟨0, rfl, by omega, Lib.hid (fun k f hk => absurd hk (Nat.not_lt_zero _)), rfl⟩
    case round =>
      obtain ⟨j, rfl, hj, HK, rfl⟩ := hrel
      by_cases h1 : j < n
      · have h1i : (j : Int) < (n : Int) := by omega
        obtain ⟨g, rfl⟩ : ∃ x, gk = x + 1 := ⟨gk - 1, by omega⟩
        obtain ⟨b, o, rfl, -, hx⟩ := Hcell.out (by omega)
        obtain ⟨p, hp, -⟩ := at_lt (xs := P) (k := j) (by rw [← Hn.out]; exact h1)
        obtain ⟨u, hu, hu2⟩ := hx j p hp
        have hu2' : u = .string p := hu2
        subst hu2'
        have HC1 := Lib.hid (HC.out p (List.mem_of_getElem? hp))
        cases ho : occB p s with
        | true =>
          have hT := Lib.hid (show T = true from by rw [HT2.out, List.any_eq_true]; exact ⟨p, List.mem_of_getElem? hp, ho⟩)
          rw [ho] at HC1
          clear hx hp hu2 ho HT2
          go_wp2_with fail
          (with_reducible refine HC1.out.mono ?_)
          rintro e w9 ⟨rfl, hw9⟩
          rw [← hw9]
          clear hw9 w9
          go_wp2
          go_ret
          exact ⟨by rw [hT.out]; rfl, HB.out⟩
        | false =>
          have hK2 := Lib.hid (show ∀ (k : Nat) (p : ByteArray), k < j + 1 → P[k]? = some p → occB p s = false from fun k f' hk hf' => by
            by_cases e : k = j
            · rw [e, hp] at hf'
              cases hf'
              exact ho
            · exact HK.out k f' (by omega) hf')
          rw [ho] at HC1
          clear hx hp hu2 ho HK
          go_wp2_with fail
          (with_reducible refine HC1.out.mono ?_)
          rintro e w9 ⟨rfl, hw9⟩
          rw [← hw9]
          clear hw9 w9
          go_wp2
          go_roundg g
          case measure => omega
          case rel => exact ⟨j + 1, by go_num, by omega, hK2, rfl⟩
      · have h1i : ¬ (j : Int) < (n : Int) := by omega
        have hT := Lib.hid (show T = false from by
          rw [HT2.out, List.any_eq_false]
          intro p hp
          obtain ⟨k, hk⟩ := List.getElem?_of_mem hp
          rw [HK.out k p (by have := (List.getElem?_eq_some_iff.1 hk).1; rw [← Hn.out] at this; omega) hk]
          decide)
        clear HK HT2
        go_wp2
        go_ret
        exact ⟨by rw [hT.out]; rfl, HB.out⟩
set_option maxHeartbeats 1000000 in
theorem langclo_c {w : World} {bs bt : Nat} {z : Sh} {va1 pa : Option Addr} {fl va2 pn pc : Nat} {P : List ByteArray} {s : ByteArray} (c0 : w.cell? ⟨bs, 0, none⟩ = some (.int .i64 z.1)) (c1 : w.cell? ⟨bs, 1, none⟩ = some (.slice va1 fl va2)) (ct : w.cell? ⟨bt, 0, none⟩ = some (.slice pa pn pc))
    (hz : ShR w (.agg #[.int .i64 z.1, .slice va1 fl va2]) z) (hM : MaxOk w) (hp : TsR w (.slice pa pn pc) P) (hP : ∀ p, p ∈ P → p.size ≤ 1000) (hs : s.size ≤ 1000) :
    Calls Tryz.prog 123 #[.string s, .pointer (some ⟨bs, 0, none⟩), .pointer (some ⟨bt, 0, none⟩)] w fun e w' => e = .returned (.bool (hasM z.2 P s)) ∧ Below w.heap.size w w' := by
  have HH := Lib.hid (has_c hz hM hp hP hs)
  generalize hasM z.2 P s = T at HH ⊢
  clear hz hM hp hP hs
  go_enter Tryz.func123, Tryz.ntmps123
  go_wp2_with fail
  (with_reducible refine HH.out.mono ?_)
  rintro e w2 ⟨rfl, hb2⟩
  have HB := Lib.hid hb2
  clear hb2
  go_wp2
  go_ret
  exact ⟨rfl, HB.out⟩
set_option maxHeartbeats 2000000 in
set_option maxRecDepth 100000 in
theorem language_c {w : World} {vs : Value} {L n : Nat} {F : List ByteArray} (hz : ShR w vs ((L : Int), F)) (h0 : 0 < L) (h3 : L ≤ 3) (hn : n ≤ 6) (hM : MaxOk w) :
    Calls Tryz.prog 104 #[vs, .int .i64 (n : Int)] w (Makes (OStrL 9) w (((allW L n).filter fun wd => inM F ((pairsM F L).map wordT) (wordT wd)).map wordT)) := by
  have HSt := Lib.hid (fun w1 (hb : Below w.heap.size w w1) => states_c (ShR.frame _ _ _ _ hz hb) h0 h3 (hM.below hb))
  have HZ := Lib.hid (fun w1 (hb : Below w.heap.size w w1) => ShR.frame _ _ _ _ hz hb)
  have HM := Lib.hid (fun w1 (hb : Below w.heap.size w w1) => hM.below hb)
  have HI := Lib.hid (fun wd : List Nat => has_in (F := F) h0 (wordT wd))
  have HPs := Lib.hid (show ∀ p, p ∈ (pairsM F L).map wordT → p.size ≤ 1000 from fun p hp => by
    obtain ⟨u, hu, rfl⟩ := List.mem_map.1 hp
    obtain ⟨⟨a, b, rfl, -, -⟩, -⟩ := (avoW_iff h0).1 (pairs_sub hu)
    rw [wordT_size]
    simp)
  generalize (pairsM F L).map wordT = PN at HSt HI HPs ⊢
  obtain ⟨va, rfl, ht⟩ := hz
  simp only at ht HSt HZ
  obtain ⟨w0, e0, hb0, c0, c1, m0⟩ := boxA_ex w 37 (.int .i64 L) va
  obtain ⟨va1, va2, rfl, -⟩ := ht.shape
  generalize F.length = fl at c1 e0 HSt HZ ⊢
  have HB0 := Lib.hid hb0
  have hmf : ∀ (fn : Fn) (first cap : Array Value) (w : World), (Instr.makeFunc fn first cap).run Tryz.prog w = .ok (.func fn first cap) w := fun _ _ _ _ => rfl
  clear ht hb0 hM
  go_enter Tryz.func104, Tryz.ntmps104
  go_wp2_with fail
  (with_reducible refine (HSt.out _ HB0.out).mono ?_)
  rintro e w1 ⟨pv, rfl, hn1, hb1⟩
  have hs1 := Sep.one (OwnOf.kept OStr.kept).held hn1
  have htr : TsR w1 pv PN := by
    obtain ⟨G, hG, -⟩ := hn1
    exact OwnOf.reads (fun _ _ _ _ h => h.1) hG
  obtain ⟨pa, pc, ep, -⟩ := hs1.strsAt
  subst ep
  generalize PN.length = pn at htr ⊢
  have c0 := (hb1.cell (p := ⟨w.heap.size, 0, none⟩) m0).trans c0
  have c1 := (hb1.cell (p := ⟨w.heap.size, 1, none⟩) m0).trans c1
  have m1 : w.heap.size < w1.heap.size := Nat.lt_of_lt_of_le m0 hb1.size
  obtain ⟨w2, e2⟩ : ∃ x, x = w1.alloc (.cells #[.slice pa pn pc] 29) := ⟨_, rfl⟩
  have hb2 : Below w1.heap.size w1 w2 := by rw [e2]; exact (Below.refl _ _).alloc (Nat.le_refl _) _
  have ct : w2.cell? ⟨w1.heap.size, 0, none⟩ = some (.slice pa pn pc) := by rw [e2]; simp [go_sem]
  have m2 : w1.heap.size < w2.heap.size := by rw [e2]; simp
  have c0 := (hb2.cell (p := ⟨w.heap.size, 0, none⟩) m1).trans c0
  have c1 := (hb2.cell (p := ⟨w.heap.size, 1, none⟩) m1).trans c1
  have HB2 := Lib.hid ((HB0.out.trans (hb1.mono HB0.out.size)).trans (hb2.mono (Nat.le_of_lt m1)))
  have HT2 := Lib.hid (TsR.frame _ _ _ _ htr hb2)
  have m2w : w.heap.size < w2.heap.size := Nat.lt_trans m1 m2
  have HFi := Lib.hid (show Calls Tryz.prog 37 #[.int .i64 (L : Int), .int .i64 (n : Int), .func (.func 123) #[] #[.pointer (some ⟨w.heap.size, 0, none⟩), .pointer (some ⟨w1.heap.size, 0, none⟩)]] w2 _ from
    filtered_c (w := w2) (n := n) h0 h3 hn (F := 123) (caps := #[.pointer (some ⟨w.heap.size, 0, none⟩), .pointer (some ⟨w1.heap.size, 0, none⟩)]) (f := fun wd => inM F PN (wordT wd)) (fun _ _ => rfl) fun w3 wd hb3 hl _ => by
      have hB3 := HB2.out.trans (hb3.mono (Nat.le_of_lt m2w))
      have h := langclo_c (z := ((L : Int), F)) (s := wordT wd) ((hb3.cell (p := ⟨w.heap.size, 0, none⟩) m2w).trans c0) ((hb3.cell (p := ⟨w.heap.size, 1, none⟩) m2w).trans c1) ((hb3.cell (p := ⟨w1.heap.size, 0, none⟩) m2).trans ct) (HZ.out w3 hB3) (HM.out w3 hB3) (TsR.frame _ _ _ _ HT2.out hb3) HPs.out (by rw [wordT_size, hl]; omega)
      rw [show hasM ((L : Int), F).2 PN (wordT wd) = inM F PN (wordT wd) from HI.out wd] at h
      exact h)
  have e2s := e2.symm
  clear hb1 hn1 hs1 hb2 htr HSt HZ HM HI HPs e2
  go_wp2_with fail
  (with_reducible refine HFi.out.mono ?_)
  rintro e w3 ⟨r, rfl, hn3, hb3⟩
  have HN := Lib.hid (hn3.mono (Nat.le_of_lt m2w))
  have HBf := Lib.hid (HB2.out.trans (hb3.mono (Nat.le_of_lt m2w)))
  clear hn3 hb3 HFi
  go_wp2
  go_ret
  exact ⟨_, rfl, HN.out, HBf.out⟩
set_option maxHeartbeats 2000000 in
theorem impl_LanguageOf_c {w : World} {vs : Value} {z : Sh} {n : Int} (hz : ShR w vs z) (hf : ∀ f, f ∈ z.2 → f.size ≤ 1048576) (hM : MaxOk w) :
    Calls Tryz.prog 82 #[vs, .int .i64 n] w (Makes (OStrL 9) w (lanM z n)) := by
  have HV := Lib.hid (show lanM z n = if (shiftM z && decide (0 ≤ n ∧ n ≤ 6)) = true then ((allW z.1.toNat n.toNat).filter fun wd => inM z.2 ((pairsM z.2 z.1.toNat).map wordT) (wordT wd)).map wordT else [] from rfl)
  have HIs := Lib.hid (fun w1 (hb : Below w.heap.size w w1) => impl_IsShift_c (ShR.frame _ _ _ _ hz hb) hf)
  have HLa := Lib.hid (fun (h : shiftM z = true) (h2 : 0 ≤ n ∧ n ≤ 6) w1 (hb : Below w.heap.size w w1) => (show Calls Tryz.prog 104 #[vs, .int .i64 n] w1 (Makes (OStrL 9) w1 (((allW z.1.toNat n.toNat).filter fun wd => inM z.2 ((pairsM z.2 z.1.toNat).map wordT) (wordT wd)).map wordT)) from by
    have h1 := (shiftM_of h).1
    have h3 := language_c (w := w1) (vs := vs) (L := z.1.toNat) (F := z.2) (n := n.toNat) (by rw [Int.toNat_of_nonneg (by omega)]; exact ShR.frame _ _ _ _ hz hb) (by omega) (by omega) (by omega) (hM.below hb)
    rw [Int.toNat_of_nonneg h2.1] at h3
    exact h3))
  generalize lanM z n = V at HV ⊢
  generalize shiftM z = ok at HV HIs HLa
  obtain ⟨L, F⟩ := z
  obtain ⟨va, rfl, ht⟩ := hz
  simp only at ht hf HV HIs HLa
  obtain ⟨w0, e0, hb0, c0, c1, m0⟩ := boxA_ex w 37 (.int .i64 L) va
  obtain ⟨va1, va2, rfl, -⟩ := ht.shape
  generalize F.length = fl at c1 e0 HIs HLa ⊢
  have HB0 := Lib.hid hb0
  generalize ((allW L.toNat n.toNat).filter fun wd => inM F ((pairsM F L.toNat).map wordT) (wordT wd)).map wordT = V2 at HV HLa
  clear hf ht hb0 hM
  go_enter Tryz.func82, Tryz.ntmps82
  go_wp2_with fail
  (with_reducible refine (HIs.out _ HB0.out).mono ?_)
  rintro e w1 ⟨rfl, hb1⟩
  have c0 := (hb1.cell (p := ⟨w.heap.size, 0, none⟩) m0).trans c0
  have c1 := (hb1.cell (p := ⟨w.heap.size, 1, none⟩) m0).trans c1
  have m1 : w.heap.size < w1.heap.size := Nat.lt_of_lt_of_le m0 hb1.size
  have HB1 := Lib.hid (HB0.out.trans (hb1.mono HB0.out.size))
  clear hb1 HIs
  by_cases hk : ok = true ∧ 0 ≤ n ∧ n ≤ 6
  · obtain ⟨rfl, hn0, hn6⟩ := hk
    have HR := Lib.hid (show V = V2 from by rw [HV.out, decide_eq_true ⟨hn0, hn6⟩]; rfl)
    have t1 : ¬ n < 0 := by omega
    have t2 : ¬ 6 < n := by omega
    have HL := Lib.hid (HLa.out rfl ⟨hn0, hn6⟩ _ HB1.out)
    clear HV HLa
    go_wp2_with fail
    (with_reducible refine HL.out.mono ?_)
    rintro e w3 ⟨r, rfl, hn3, hb3⟩
    have HN := Lib.hid (hn3.mono (Nat.le_of_lt m1))
    have HBf := Lib.hid (HB1.out.trans (hb3.mono (Nat.le_of_lt m1)))
    clear hn3 hb3 HL
    go_wp2
    go_ret
    exact ⟨_, rfl, by rw [HR.out]; exact HN.out, HBf.out⟩
  · have HR := Lib.hid (show V = [] from by
      rw [HV.out, if_neg]
      intro h
      rw [Bool.and_eq_true, decide_eq_true_eq] at h
      exact hk h)
    clear HV HLa
    cases ok with
    | false =>
      clear hk
      go_wp2
      go_ret
      exact ⟨_, rfl, by rw [HR.out]; exact New.nil _ _, HB1.out⟩
    | true =>
      by_cases hn0 : n < 0
      · clear hk
        go_wp2
        go_ret
        exact ⟨_, rfl, by rw [HR.out]; exact New.nil _ _, HB1.out⟩
      · have hn6 : 6 < n := by
          apply Classical.byContradiction
          intro h
          exact hk ⟨rfl, by omega, by omega⟩
        clear hk
        go_wp2
        go_ret
        exact ⟨_, rfl, by rw [HR.out]; exact New.nil _ _, HB1.out⟩
theorem impl_StatesOf_c {w : World} {vs : Value} {z : Sh} (hz : ShR w vs z) (hf : ∀ f, f ∈ z.2 → f.size ≤ 1048576) (hM : MaxOk w) :
    Calls Tryz.prog 47 #[vs] w (Makes (OStrL 9) w (lanM z 2)) := by
  have HL := Lib.hid (fun w1 (hb : Below w.heap.size w w1) => impl_LanguageOf_c (ShR.frame _ _ _ _ hz hb) hf (n := 2) (hM.below hb))
  obtain ⟨L, F⟩ := z
  obtain ⟨va, rfl, ht⟩ := hz
  simp only at ht hf HL
  obtain ⟨w0, e0, hb0, c0, c1, m0⟩ := boxA_ex w 37 (.int .i64 L) va
  obtain ⟨va1, va2, rfl, -⟩ := ht.shape
  generalize F.length = fl at c1 e0 HL ⊢
  generalize lanM (L, F) 2 = V at HL ⊢
  have HB0 := Lib.hid hb0
  clear hf ht
  go_enter Tryz.func47, Tryz.ntmps47
  go_wp2_with fail
  (with_reducible refine (HL.out _ HB0.out).mono ?_)
  rintro e w2 ⟨r, rfl, hn, hb⟩
  have HN := Lib.hid (hn.mono (Nat.le_of_lt m0))
  have HB := Lib.hid (HB0.out.trans (hb.mono HB0.out.size))
  clear hn hb
  go_wp2
  go_ret
  exact ⟨_, rfl, HN.out, HB.out⟩
end Go.Proofs.YtcilgihmaaobeaaGreatDoor
end

section
namespace Go.Proofs.YtcilgihmaaobeaaGreatDoor
open Go.RowKit Go.Deep Go.Sd
set_option linter.unusedSimpArgs false
set_option maxHeartbeats 4000000 in
set_option maxRecDepth 100000 in
theorem impl_GraphOf_c {w : World} {vs : Value} {z : Sh} (hz : ShR w vs z) (hf : ∀ f, f ∈ z.2 → f.size ≤ 1048576) (hM : MaxOk w) :
    Calls Tryz.prog 46 #[vs] w (Makes2 (OTab 3 61) w (gmV z) (lofOk z)) := by
  have HV := Lib.hid (show gmV z = tabOf (stW z).length (stW z).length (gent z.2 (stW z)) from rfl)
  have HO := Lib.hid (lofOk_eq z)
  have HSt := Lib.hid (fun w1 (hb : Below w.heap.size w w1) => impl_StatesOf_c (ShR.frame _ _ _ _ hz hb) hf (hM.below hb))
  have HAv := Lib.hid (fun w1 (hb : Below w.heap.size w w1) (s : ByteArray) (hs : s.size ≤ 1000) => avoids_c (s := s) (ShR.frame _ _ _ _ hz hb) (hM.below hb) hs)
  have HTw := Lib.hid (fun v (h : v ∈ stW z) => stW_two h)
  have h9 := stW_len z
  rw [lan2 z] at HSt
  generalize gmV z = V at HV ⊢
  generalize lofOk z = ok at HO ⊢
  generalize stW z = W at HV HO HSt HTw h9
  obtain ⟨L, F⟩ := z
  obtain ⟨va, rfl, ht⟩ := hz
  simp only at ht hf HSt HV HAv
  obtain ⟨w0, e0, hb0, c0, c1, m0⟩ := boxA_ex w 37 (.int .i64 L) va
  have HFr := Lib.hid (TsR.frame _ _ _ _ ht hb0)
  obtain ⟨va1, va2, rfl, -⟩ := HFr.out.shape
  generalize hfl : F.length = fl at c1 e0 HFr HSt HAv ⊢
  have Hf := Lib.hid hf
  have HB0 := Lib.hid hb0
  have Hfl := Lib.hid hfl
  clear hfl hf ht hb0 hM
  obtain ⟨n, hn⟩ : ∃ n, n = W.length := ⟨_, rfl⟩
  have Hn := Lib.hid hn
  rw [← hn] at HV HO h9
  go_enter Tryz.func46, Tryz.ntmps46
  go_wp2_with fail
  (with_reducible refine (HSt.out _ HB0.out).mono ?_)
  rintro e w2 ⟨sv, rfl, hn2, hb2⟩
  have hs2 := Sep.one (OwnOf.kept OStr.kept).held hn2
  obtain ⟨sa, sc, es, hq⟩ := hs2.strsAt
  subst es
  rw [List.length_map, ← hn] at hq ⊢
  have c0 := (hb2.cell (p := ⟨w.heap.size, 0, none⟩) m0).trans c0
  have c1 := (hb2.cell (p := ⟨w.heap.size, 1, none⟩) m0).trans c1
  have m2 : w.heap.size < w2.heap.size := Nat.lt_of_lt_of_le m0 hb2.size
  have HB2 := Lib.hid (HB0.out.trans (hb2.mono HB0.out.size))
  have HFr2 := Lib.hid (TsR.frame _ _ _ _ HFr.out hb2)
  have z2 : w.heap.size ≤ w2.heap.size := Nat.le_of_lt m2
  clear hb2 hn2 hs2 HSt hn HFr HB0 e0 m0
  by_cases hn0 : n = 0
  · have HR := Lib.hid (show V = [] from by rw [HV.out, hn0]; rfl)
    have HF := Lib.hid (show ok = false from by rw [HO.out, hn0]; rfl)
    have t0 : ((n : Int) == 0) = true := by rw [hn0]; rfl
    clear hq HV HO
    go_wp2
    go_ret2
    exact ⟨_, by rw [HF.out]; rfl, by rw [HR.out]; exact New.nil _ _, HB2.out⟩
  · have t0 : ((n : Int) == 0) = false := by simp; omega
    have HF := Lib.hid (show ok = true from by rw [HO.out, decide_eq_true hn0])
    obtain ⟨b, e1, hb, hc⟩ := hq (by omega)
    subst e1
    have Hc := Lib.hid hc
    have Hz := Lib.hid (fun w1 => zeros_c (w := w1) (p := n) (by omega))
    have hni : ¬ (n : Int) = 0 := by omega
    clear hq HO hc
    go_wp2_with fail
    (with_reducible refine (Hz.out _).mono ?_)
    rintro e w3 ⟨tv, rfl, hn3, hb3⟩
    obtain ⟨tb, tc, _, _, et, _, htb, htb2, _⟩ := hn3.tab_at (i := 0) (j := 0) ((Sq.zeros n).row (by omega)).1 ((Sq.zeros n).entry (by omega) (by omega))
    subst et
    rw [(Sq.zeros n).1] at hn3 ⊢
    rw [gF_start F W n] at hn3
    have HN3 := Lib.hid hn3
    have HB3 := Lib.hid hb3
    clear hn3 hb3 Hz htb2
    go_wp2
    go_loopg [20] n (fun g i wr => ∃ (k : Nat), i = .int .i64 k ∧ k + g = n ∧ Hid (New (OTab 3 61) w2.heap.size wr (.slice (some ⟨tb, 0, none⟩) n tc) (tabOf n n (gF F W k 0))) ∧ Hid (Below w2.heap.size w2 wr))
    case atStart => exact ⟨0, rfl, by omega, HN3, HB3⟩
    case round =>
      clear HN3 HB3
      obtain ⟨i, rfl, hi, HN, HB⟩ := hrel
      by_cases hlt : i < n
      · have hii : (i : Int) < (n : Int) := by omega
        obtain ⟨u, hu, _⟩ := at_lt (xs := W) (k := i) (by rw [← Hn.out]; exact hlt)
        have gu := Hc.out i (wordT u) (by rw [List.getElem?_map, hu]; rfl)
        have gu := (HB.out.cell (p := ⟨b, i, none⟩) hb).trans gu
        obtain ⟨hus, -, hu1, -, -⟩ := (HTw.out u (List.mem_of_getElem? hu)).facts
        obtain ⟨ui, hui⟩ : ∃ x, x = 97 + u.getD 1 0 := ⟨_, rfl⟩
        rw [← hui] at hu1
        obtain ⟨su, hsu⟩ : ∃ x, x = wordT u := ⟨_, rfl⟩
        rw [← hsu] at gu hus hu1
        have Hsu := Lib.hid hsu
        have Hui := Lib.hid hui
        have Hu := Lib.hid hu
        clear hu hsu hui
        go_wp2
        go_loopg [27] n (fun g j wr => ∃ (k : Nat), j = .int .i64 k ∧ k + g = n ∧ Hid (New (OTab 3 61) w2.heap.size wr (.slice (some ⟨tb, 0, none⟩) n tc) (tabOf n n (gF F W i k))) ∧ Hid (Below w2.heap.size w2 wr))
        case atStart => exact ⟨0, rfl, by omega, HN, HB⟩
        case round =>
          clear HN HB
          obtain ⟨j, rfl, hj, HN, HB⟩ := hrel
          obtain ⟨wB, rfl⟩ : ∃ x, x = wr := ⟨_, rfl⟩
          by_cases hltj : j < n
          · have hji : (j : Int) < (n : Int) := by omega
            obtain ⟨g, rfl⟩ : ∃ x, gk = x + 1 := ⟨gk - 1, by omega⟩
            obtain ⟨v, hv, _⟩ := at_lt (xs := W) (k := j) (by rw [← Hn.out]; exact hltj)
            have gv := Hc.out j (wordT v) (by rw [List.getElem?_map, hv]; rfl)
            have gv := (HB.out.cell (p := ⟨b, j, none⟩) hb).trans gv
            have k0 := (HB.out.cell (p := ⟨w.heap.size, 0, none⟩) m2).trans c0
            have k1 := (HB.out.cell (p := ⟨w.heap.size, 1, none⟩) m2).trans c1
            obtain ⟨hvs, hv0, hv1, hve, -⟩ := (HTw.out v (List.mem_of_getElem? hv)).facts
            have HgT := Lib.hid (fun (h : goesB F u v = true) => gF_take (n := n) (F := F) (W := W) (i := i) (j := j) (by rw [getD_of Hu.out, getD_of hv]; exact h))
            have HgF := Lib.hid (fun (h : goesB F u v = false) => gF_skip (n := n) (F := F) (W := W) (i := i) (j := j) (by rw [getD_of Hu.out, getD_of hv]; exact h))
            have hgo : goesB F u v = (decide (u.getD 1 0 = v.getD 0 0) && avoM F (wordT (u ++ v.drop 1))) := rfl
            have hex : (wordT v).extract 1 (wordT v).size = (wordT v).extract 1 2 := by rw [hvs]
            have hes : ((wordT v).extract 1 2).size = 1 := by rw [ByteArray.size_extract, hvs]; rfl
            have hs0 : ¬ su.size + ((wordT v).extract 1 2).size > 9223372036854775807 := two_add' hus hes
            have hcat : su ++ (wordT v).extract 1 2 = wordT (u ++ v.drop 1) := by rw [hve, Hsu.out, wordT_append]
            have hBw : Below w.heap.size w wB := HB2.out.trans (HB.out.mono z2)
            have HA := Lib.hid (fun w' (hb' : Below wB.heap.size wB w') => HAv.out w' (hBw.trans (hb'.mono hBw.size)) (su ++ (wordT v).extract 1 2) (by rw [ByteArray.size_append, hes, hus]; decide))
            have mB : w.heap.size < wB.heap.size := Nat.lt_of_lt_of_le m2 HB.out.size
            have zB := HB.out.size
            obtain ⟨b', c'', sb, sc', hvt, _, _, _, hcl1, _, hsb, hsb2, hcl2, hfr, hst⟩ := HN.out.tab_at (tabOf_at hlt) (rowOf_at hltj)
            obtain rfl : b' = tb := by simp at hvt; exact hvt.1.symm
            rw [rowOf_len] at hcl1
            have Hst := Lib.hid (hst 1)
            have HNw := HN
            obtain ⟨vi, hvi⟩ : ∃ x, x = 97 + v.getD 0 0 := ⟨_, rfl⟩
            rw [← hvi] at hv0
            have Huv := Lib.hid (show (vi = ui ↔ u.getD 1 0 = v.getD 0 0) from by rw [Hui.out, hvi]; omega)
            have Hgo := Lib.hid hgo
            have Hcat := Lib.hid hcat
            clear hvi hv hgo hst hvt HN hve hcat hv1 hBw
            obtain ⟨sv, hsv⟩ : ∃ x, x = wordT v := ⟨_, rfl⟩
            rw [← hsv] at gv hvs hv0 hex hes hs0 HA Hcat
            clear hsv
            by_cases hq : u.getD 1 0 = v.getD 0 0
            · have t0' : vi = ui := Huv.out.2 hq
              have t1 : ((ui : Int) == (vi : Int)) = true := by rw [t0']; simp
              have HgA := Lib.hid (show goesB F u v = avoM F (su ++ sv.extract 1 2) from by rw [Hgo.out, decide_eq_true hq, Bool.true_and, Hcat.out])
              generalize avoM F (su ++ sv.extract 1 2) = av at HA HgA
              clear t0' Hgo Huv hq Hcat
              have HSS := Lib.hid (fun (w' : World) (hb' : Below wB.heap.size wB w') => (show w'.cell? ⟨w.heap.size, 0, none⟩ = some (.int .i64 L) ∧ w'.cell? ⟨w.heap.size, 1, none⟩ = some (.slice va1 fl va2) from ⟨(hb'.cell (p := ⟨w.heap.size, 0, none⟩) mB).trans k0, (hb'.cell (p := ⟨w.heap.size, 1, none⟩) mB).trans k1⟩))
              have hS0 := HSS.out _ (Below.refl _ _)
              have B1 := (Below.refl wB.heap.size wB).drew
              have hSd := HSS.out _ B1
              clear Hst hcl1 hcl2 hfr hsb hsb2
              go_wp2
              go_region_held3 (fun w' => w'.cell? ⟨w.heap.size, 0, none⟩ = some (.int .i64 L) ∧ w'.cell? ⟨w.heap.size, 1, none⟩ = some (.slice va1 fl va2))
                (first | with_reducible exact hS2 | with_reducible exact hSd | with_reducible exact hS0 | go_keep)
                ((first
                  | (go_at_call 81; (with_reducible refine (HA.out _ B1).mono ?_); rintro e u1 ⟨rfl, q1⟩; have B2 := B1.trans (q1.mono B1.size); have hS2 := HSS.out _ B2)
                  | fail))
              all_goals
                have HN9 := Lib.hid (HNw.out.keep (OTab.kept _ _) B2 (Nat.le_refl _))
                have HB9 := Lib.hid (HB.out.trans (B2.mono zB))
                clear HA HSS B1 B2 q1 HNw HB
                cases av with
                | true =>
                  have HS2 := Lib.hid (HgT.out HgA.out)
                  obtain ⟨b'', c3, sb, sc', hvt, _, _, _, hcl1, _, hsb, hsb2, hcl2, hfr, hst⟩ := HN9.out.tab_at (tabOf_at hlt) (rowOf_at hltj)
                  obtain rfl : b'' = b' := by simp at hvt; exact hvt.1.symm
                  rw [rowOf_len] at hcl1
                  have Hst := Lib.hid (hst 1)
                  have HBs := Lib.hid (HB9.out.setCell (p := ⟨sb, j, none⟩) hsb (.int .i64 1))
                  clear HgT HgF HgA hst hvt HN9
                  go_wp2
                  go_roundg g
                  case measure => omega
                  case rel => exact ⟨j + 1, by go_num, by omega, by rw [← HS2.out]; exact Lib.hid (New.heap (OTab.kept _ _) Hst.out rfl), HBs⟩
                | false =>
                  have HS2 := Lib.hid (HgF.out HgA.out)
                  have HN2 := Lib.hid (show New (OTab 3 61) w2.heap.size u1 (.slice (some ⟨b', 0, none⟩) n tc) (tabOf n n (gF F W i (j + 1))) from by rw [← HS2.out]; exact HN9.out)
                  clear HgT HgF HgA HN9
                  go_wp2
                  go_roundg g
                  case measure => omega
                  case rel => exact ⟨j + 1, by go_num, by omega, HN2, HB9⟩
            · have t1 : ((ui : Int) == (vi : Int)) = false := by
                have : ¬ vi = ui := fun h => hq (Huv.out.1 h)
                simp; omega
              have HS2 := Lib.hid (HgF.out (by rw [Hgo.out, decide_eq_false hq, Bool.false_and]))
              have HN2 := Lib.hid (show New (OTab 3 61) w2.heap.size wB (.slice (some ⟨b', 0, none⟩) n tc) (tabOf n n (gF F W i (j + 1))) from by rw [← HS2.out]; exact HNw.out)
              clear HgT HgF Hst HNw Hgo Huv hq Hcat HA
              go_wp2
              go_quiet (fail)
              rename_i nq
              go_wp2
              go_roundg g
              case measure => omega
              case rel => exact ⟨j + 1, by go_num, by omega, Lib.hid (New.heap (OTab.kept _ _) HN2.out rfl), Lib.hid (below_drewN HB.out nq)⟩
          · obtain rfl : j = n := by omega
            have hji : ¬ ((j : Int) < (j : Int)) := by omega
            have HN2 := Lib.hid (show New (OTab 3 61) w2.heap.size wB (.slice (some ⟨tb, 0, none⟩) j tc) (tabOf j j (gF F W (i + 1) 0)) from by rw [← gF_row]; exact HN.out)
            clear HN
            go_wp2
            go_roundg (j - (i + 1))
            case measure => omega
            case rel => exact ⟨i + 1, by go_num, by omega, HN2, HB⟩
      · obtain rfl : i = n := by omega
        have hii : ¬ ((i : Int) < (i : Int)) := by omega
        have HR := Lib.hid (show New (OTab 3 61) w.heap.size wr (.slice (some ⟨tb, 0, none⟩) i tc) V from by rw [HV.out, ← gF_end]; exact HN.out.mono z2)
        have HBf := Lib.hid (HB2.out.trans (HB.out.mono z2))
        clear HN HB
        go_wp2
        go_ret2
        exact ⟨_, by rw [HF.out]; rfl, HR.out, HBf.out⟩
end Go.Proofs.YtcilgihmaaobeaaGreatDoor
end
