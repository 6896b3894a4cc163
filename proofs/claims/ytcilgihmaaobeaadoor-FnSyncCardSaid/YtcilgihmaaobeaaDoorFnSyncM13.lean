/-
  Texts of this claim joined: laws for its walks, contracts of the functions that the law reaches.
-/
import Derived.Test.YtcilgihmaaobeaaDoorRows
import Derived.Test.YtcilgihmaaobeaaDoorFnSyncM1
import Derived.Test.YtcilgihmaaobeaaDoorFnSyncM8
import Derived.Test.YtcilgihmaaobeaaDoorFnSyncM10
import Derived.Test.YtcilgihmaaobeaaDoorFnSyncM11
import Derived.Test.YtcilgihmaaobeaaDoorFnSyncM12
import Derived.Test.YtcilgihmaaobeaaDoorFnSyncM2
import Derived.IntWalk
import Derived.BigQuiet
import Derived.Test.YtcilgihmaaobeaaDoorFnSyncM9
import Derived.StillTailTactics
import Derived.Test.YtcilgihmaaobeaaDoorFnSyncM4
import Derived.Test.YtcilgihmaaobeaaDoorFnSyncM5
set_option linter.unusedVariables false
set_option linter.unusedSimpArgs false
section
namespace Go.Proofs.YtcilgihmaaobeaaDoor
open Go.RowKit Go.Deep Go.Sd
set_option linter.unusedSimpArgs false
/-- The states of a shift; none of what is no shift. -/
noncomputable def stW (z : Sh) : List (List Nat) := if shiftM z = true then statesM z.2 z.1.toNat else []
theorem stW_two {z : Sh} {v : List Nat} (h : v ∈ stW z) : Two v := by
  unfold stW at h
  by_cases e : shiftM z = true
  · rw [if_pos e] at h
    have := (shiftM_of e).1
    obtain ⟨a, b, rfl, ha, hb⟩ := states_let (by omega) h
    exact ⟨a, b, rfl, by omega, by omega⟩
  · rw [if_neg e] at h; cases h
theorem stW_len (z : Sh) : (stW z).length ≤ 9 := by
  unfold stW
  by_cases e : shiftM z = true
  · rw [if_pos e]
    have := (shiftM_of e).1
    exact states_len _ (by omega) (by omega)
  · rw [if_neg e]; simp
theorem lofOk_eq (z : Sh) : lofOk z = decide ((stW z).length ≠ 0) := by
  unfold lofOk stW
  by_cases e : shiftM z = true
  · rw [if_pos e, e, Bool.true_and]
  · rw [if_neg e]
    rw [show shiftM z = false by simpa using e]
    rfl
theorem stW_of {z : Sh} (h : lofOk z = true) : shiftM z = true ∧ stW z = statesM z.2 z.1.toNat := by
  unfold lofOk at h
  rw [Bool.and_eq_true] at h
  exact ⟨h.1, by unfold stW; rw [if_pos h.1]⟩
theorem lan2 (z : Sh) : lanM z 2 = (stW z).map wordT := by
  unfold lanM stW
  by_cases e : shiftM z = true
  · rw [if_pos (by rw [e]; decide), if_pos e]
    have hL := (shiftM_of e).1
    congr 1
    refine List.filter_congr fun wd hw => ?_
    obtain ⟨h1, h2⟩ := allW_mem (by omega) hw
    have h1 : wd.length = 2 := h1
    have hsz : (wordT wd).size = 2 := by rw [wordT_size, h1]
    have hex : (wordT wd).extract 0 2 = wordT wd := by
      apply ByteArray.ext
      apply Array.toList_inj.1
      rw [extract_list, bl_data]
      unfold bl
      rw [List.drop_zero, List.take_of_length_le (by simp [h1])]
    unfold inM
    rw [if_pos (by omega), hsz, hex, Bool.and_self]
    cases hb : hasB ((pairsM z.2 z.1.toNat).map wordT) (wordT wd) with
    | false => simp
    | true =>
      have : ((pairsM z.2 z.1.toNat).map wordT).length ≠ 0 := by
        intro h0
        rw [List.length_eq_zero_iff] at h0
        rw [h0] at hb
        cases hb
      rw [decide_eq_true this]
      simp
  · rw [if_neg (by simp [show shiftM z = false by simpa using e]), if_neg e]
    rfl
def gent (F : List ByteArray) (W : List (List Nat)) (a b : Nat) : Int := if goesB F (W.getD a []) (W.getD b []) = true then 1 else 0
/-- What is filled up to row i, column j. -/
def gF (F : List ByteArray) (W : List (List Nat)) (i j a b : Nat) : Int := if a < i ∨ (a = i ∧ b < j) then gent F W a b else 0
theorem gF_start (F : List ByteArray) (W : List (List Nat)) (n : Nat) : List.replicate n (List.replicate n 0) = tabOf n n (gF F W 0 0) := by
  rw [← tabOf_const]
  exact tabOf_congr fun a _ b _ => by unfold gF; rw [if_neg (by omega)]
theorem gF_end (F : List ByteArray) (W : List (List Nat)) (n : Nat) : tabOf n n (gF F W n 0) = tabOf n n (gent F W) :=
  tabOf_congr fun a ha b _ => by unfold gF; rw [if_pos (by omega)]
theorem gF_row (F : List ByteArray) (W : List (List Nat)) (n i : Nat) : tabOf n n (gF F W i n) = tabOf n n (gF F W (i + 1) 0) :=
  tabOf_congr fun a _ b hb => by
    unfold gF
    by_cases e : a < i ∨ (a = i ∧ b < n)
    · rw [if_pos e, if_pos (by omega)]
    · rw [if_neg e, if_neg (by omega)]
theorem gF_skip {F : List ByteArray} {W : List (List Nat)} {n i j : Nat} (h : goesB F (W.getD i []) (W.getD j []) = false) : tabOf n n (gF F W i j) = tabOf n n (gF F W i (j + 1)) :=
  tabOf_congr fun a _ b _ => by
    unfold gF
    by_cases e : a < i ∨ (a = i ∧ b < j)
    · rw [if_pos e, if_pos (by omega)]
    · rw [if_neg e]
      by_cases e2 : a = i ∧ b = j
      · rw [if_pos (by omega), e2.1, e2.2]
        unfold gent
        rw [h]
        rfl
      · rw [if_neg (by omega)]
theorem gF_take {F : List ByteArray} {W : List (List Nat)} {n i j : Nat} (h : goesB F (W.getD i []) (W.getD j []) = true) : (tabOf n n (gF F W i j)).set i ((rowOf' n (gF F W i j i)).set j 1) = tabOf n n (gF F W i (j + 1)) := by
  rw [tabOf_set2]
  refine tabOf_congr fun a _ b _ => ?_
  by_cases e2 : a = i ∧ b = j
  · rw [if_pos e2]
    unfold gF
    rw [if_pos (by omega), e2.1, e2.2]
    unfold gent
    rw [if_pos h]
  · rw [if_neg e2]
    unfold gF
    by_cases e : a < i ∨ (a = i ∧ b < j)
    · rw [if_pos e, if_pos (by omega)]
    · rw [if_neg e, if_neg (by omega)]
noncomputable def gmV (z : Sh) : List (List Int) := tabOf (stW z).length (stW z).length (gent z.2 (stW z))
set_option maxHeartbeats 4000000 in
set_option maxRecDepth 100000 in
theorem spec_GraphOf_c {w : World} {vs : Value} {z : Sh} (hz : ShR w vs z) (hf : ∀ f, f ∈ z.2 → f.size ≤ 1048576) :
    Calls Tryd.prog 81 #[vs] w (Makes2 (OTab 3 47) w (gmV z) (lofOk z)) := by
  have HV := Lib.hid (show gmV z = tabOf (stW z).length (stW z).length (gent z.2 (stW z)) from rfl)
  have HO := Lib.hid (lofOk_eq z)
  have HSt := Lib.hid (fun w1 (hb : Below w.heap.size w w1) => spec_StatesOf_c (ShR.frame _ _ _ _ hz hb) hf)
  have HTw := Lib.hid (fun v (h : v ∈ stW z) => stW_two h)
  have h9 := stW_len z
  rw [lan2 z] at HSt
  generalize gmV z = V at HV ⊢
  generalize lofOk z = ok at HO ⊢
  generalize stW z = W at HV HO HSt HTw h9
  obtain ⟨L, F⟩ := z
  obtain ⟨va, rfl, ht⟩ := hz
  simp only at ht hf HSt HV
  obtain ⟨w0, e0, hb0, c0, c1, m0⟩ := boxA_ex w 92 (.int .i64 L) va
  have HFr := Lib.hid (TsR.frame _ _ _ _ ht hb0)
  obtain ⟨va1, va2, rfl, -⟩ := HFr.out.shape
  generalize hfl : F.length = fl at c1 e0 HFr HSt ⊢
  have Hf := Lib.hid hf
  have HB0 := Lib.hid hb0
  have Hfl := Lib.hid hfl
  clear hfl hf ht hb0
  obtain ⟨n, hn⟩ : ∃ n, n = W.length := ⟨_, rfl⟩
  have Hn := Lib.hid hn
  rw [← hn] at HV HO h9
  go_enter Tryd.func81, Tryd.ntmps81
  go_wp2_with fail
  (with_reducible refine (HSt.out _ HB0.out).mono ?_)
  rintro e w2 ⟨sv, rfl, hn2, hb2⟩
  have hs2 := Sep.one (OwnOf.kept OStr.kept).held hn2
  obtain ⟨sa, sc, es, hq⟩ := hs2.strsAt
  subst es
  rw [List.length_map, ← hn] at hq ⊢
  have c0 := (hb2.cell (p := ⟨w.heap.size, 0, none⟩) m0).trans c0
  have c1 := (hb2.cell (p := ⟨w.heap.size, 1, none⟩) m0).trans c1
  have m2 : w.heap.size < w2.heap.size := Nat.lt_of_lt_of_le m0 hb2.size
  have HB2 := Lib.hid (HB0.out.trans (hb2.mono HB0.out.size))
  have HFr2 := Lib.hid (TsR.frame _ _ _ _ HFr.out hb2)
  have z2 : w.heap.size ≤ w2.heap.size := Nat.le_of_lt m2
  clear hb2 hn2 hs2 HSt hn HFr HB0 e0 m0
  by_cases hn0 : n = 0
  · have HR := Lib.hid (show V = [] from by rw [HV.out, hn0]; rfl)
    have HF := Lib.hid (show ok = false from by rw [HO.out, hn0]; rfl)
    have t0 : ((n : Int) == 0) = true := by rw [hn0]; rfl
    have HN := Lib.hid (show New (OTab 3 47) w.heap.size (w2.alloc (.cells #[] 47)) _ [] from New.empty (e := 47) (R := OInts 3) w2 z2)
    have HBz := Lib.hid (HB2.out.alloc z2 (.cells #[] 47))
    clear hq HV HO
    go_wp2
    go_ret2
    exact ⟨_, by rw [HF.out]; rfl, by rw [HR.out]; exact HN.out, HBz.out⟩
  · have t0 : ((n : Int) == 0) = false := by simp; omega
    have HF := Lib.hid (show ok = true from by rw [HO.out, decide_eq_true hn0])
    obtain ⟨b, e1, hb, hc⟩ := hq (by omega)
    subst e1
    have Hc := Lib.hid hc
    have Hz := Lib.hid (fun w1 => l4Zero_c (w := w1) (p := n) (r := n) (by omega) (by omega))
    have hni : ¬ (n : Int) = 0 := by omega
    clear hq HO hc
    go_wp2_with fail
    (with_reducible refine (Hz.out _).mono ?_)
    rintro e w3 ⟨tv, rfl, hn3, hb3⟩
    obtain ⟨tb, tc, _, _, et, _, htb, htb2, _⟩ := hn3.tab_at (i := 0) (j := 0) ((Sq.zeros n).row (by omega)).1 ((Sq.zeros n).entry (by omega) (by omega))
    subst et
    rw [(Sq.zeros n).1] at hn3 ⊢
    rw [gF_start F W n] at hn3
    have HN3 := Lib.hid hn3
    have HB3 := Lib.hid hb3
    clear hn3 hb3 Hz htb2
    go_wp2
    go_loopg [6] n (fun g i wr => ∃ (k : Nat), i = .int .i64 k ∧ k + g = n ∧ Hid (New (OTab 3 47) w2.heap.size wr (.slice (some ⟨tb, 0, none⟩) n tc) (tabOf n n (gF F W k 0))) ∧ Hid (Below w2.heap.size w2 wr))
    case atStart => exact ⟨0, rfl, by omega, HN3, HB3⟩
    case round =>
      clear HN3 HB3
      obtain ⟨i, rfl, hi, HN, HB⟩ := hrel
      by_cases hlt : i < n
      · have hii : (i : Int) < (n : Int) := by omega
        go_wp2
        go_loopg [7] n (fun g j wr => ∃ (k : Nat), j = .int .i64 k ∧ k + g = n ∧ Hid (New (OTab 3 47) w2.heap.size wr (.slice (some ⟨tb, 0, none⟩) n tc) (tabOf n n (gF F W i k))) ∧ Hid (Below w2.heap.size w2 wr))
        case atStart => exact ⟨0, rfl, by omega, HN, HB⟩
        case round =>
          clear HN HB
          obtain ⟨j, rfl, hj, HN, HB⟩ := hrel
          obtain ⟨wB, rfl⟩ : ∃ x, x = wr := ⟨_, rfl⟩
          by_cases hltj : j < n
          · have hji : (j : Int) < (n : Int) := by omega
            obtain ⟨g, rfl⟩ : ∃ x, gk = x + 1 := ⟨gk - 1, by omega⟩
            obtain ⟨u, hu, _⟩ := at_lt (xs := W) (k := i) (by rw [← Hn.out]; exact hlt)
            obtain ⟨v, hv, _⟩ := at_lt (xs := W) (k := j) (by rw [← Hn.out]; exact hltj)
            have gu := Hc.out i (wordT u) (by rw [List.getElem?_map, hu]; rfl)
            have gv := Hc.out j (wordT v) (by rw [List.getElem?_map, hv]; rfl)
            have gu := (HB.out.cell (p := ⟨b, i, none⟩) hb).trans gu
            have gv := (HB.out.cell (p := ⟨b, j, none⟩) hb).trans gv
            have k0 := (HB.out.cell (p := ⟨w.heap.size, 0, none⟩) m2).trans c0
            have k1 := (HB.out.cell (p := ⟨w.heap.size, 1, none⟩) m2).trans c1
            obtain ⟨hus, hu0, hu1, -, -⟩ := (HTw.out u (List.mem_of_getElem? hu)).facts
            obtain ⟨hvs, hv0, hv1, hve, -⟩ := (HTw.out v (List.mem_of_getElem? hv)).facts
            have HgT := Lib.hid (fun (h : goesB F u v = true) => gF_take (n := n) (F := F) (W := W) (i := i) (j := j) (by rw [getD_of hu, getD_of hv]; exact h))
            have HgF := Lib.hid (fun (h : goesB F u v = false) => gF_skip (n := n) (F := F) (W := W) (i := i) (j := j) (by rw [getD_of hu, getD_of hv]; exact h))
            have hgo : goesB F u v = (decide (u.getD 1 0 = v.getD 0 0) && avoM F (wordT (u ++ v.drop 1))) := rfl
            have hex : (wordT v).extract 1 (wordT v).size = (wordT v).extract 1 2 := by rw [hvs]
            have hes : ((wordT v).extract 1 2).size = 1 := by rw [ByteArray.size_extract, hvs]; rfl
            have hs0 : ¬ (wordT u).size + ((wordT v).extract 1 2).size > 9223372036854775807 := two_add' hus hes
            have hcat : wordT u ++ (wordT v).extract 1 2 = wordT (u ++ v.drop 1) := by rw [hve, wordT_append]
            have HA := Lib.hid (fun m => Reads.quiet (avo_q (s := wordT u ++ (wordT v).extract 1 2) ((TsR.frame _ _ _ _ HFr2.out HB.out).dn' m) (by rw [ByteArray.size_append, hes, hus]; omega) Hf.out))
            rw [hcat] at HA
            rw [← hcat] at HA
            obtain ⟨b', c'', sb, sc', hvt, _, _, _, hcl1, _, hsb, hsb2, hcl2, hfr, hst⟩ := HN.out.tab_at (tabOf_at hlt) (rowOf_at hltj)
            obtain rfl : b' = tb := by simp at hvt; exact hvt.1.symm
            rw [rowOf_len] at hcl1
            have Hst := Lib.hid (hst 1)
            have HNw := HN
            obtain ⟨ui, hui⟩ : ∃ x, x = 97 + u.getD 1 0 := ⟨_, rfl⟩
            obtain ⟨vi, hvi⟩ : ∃ x, x = 97 + v.getD 0 0 := ⟨_, rfl⟩
            rw [← hui] at hu1
            rw [← hvi] at hv0
            have Huv := Lib.hid (show (vi = ui ↔ u.getD 1 0 = v.getD 0 0) from by rw [hui, hvi]; omega)
            have Hgo := Lib.hid hgo
            have Hcat := Lib.hid hcat
            clear hui hvi hu hv hgo hst hvt HN hve hcat hu0 hv1
            obtain ⟨su, hsu⟩ : ∃ x, x = wordT u := ⟨_, rfl⟩
            obtain ⟨sv, hsv⟩ : ∃ x, x = wordT v := ⟨_, rfl⟩
            rw [← hsu] at gu hus hu1 hs0 HA Hcat
            rw [← hsv] at gv hvs hv0 hex hes hs0 HA Hcat
            clear hsu hsv
            by_cases hq : u.getD 1 0 = v.getD 0 0
            · have t0' : vi = ui := Huv.out.2 hq
              have t1 : ((ui : Int) == (vi : Int)) = true := by rw [t0']; simp
              have HgA := Lib.hid (show goesB F u v = avoM F (su ++ sv.extract 1 2) from by rw [Hgo.out, decide_eq_true hq, Bool.true_and, Hcat.out])
              generalize avoM F (su ++ sv.extract 1 2) = av at HA HgA
              clear t0' Hgo Huv hq Hcat
              cases av with
              | true =>
                have HS2 := Lib.hid (HgT.out HgA.out)
                clear HgT HgF HgA
                go_wp2
                go_quiet ((go_at_call 88; exact HA.out _))
                rename_i nq
                go_wp2
                go_roundg g
                case measure => omega
                case rel => exact ⟨j + 1, by go_num, by omega, by rw [← HS2.out]; exact Lib.hid (New.heap (OTab.kept _ _) Hst.out rfl), Lib.hid ((below_drewN HB.out nq).setCell (p := ⟨sb, j, none⟩) hsb (.int .i64 1))⟩
              | false =>
                have HS2 := Lib.hid (HgF.out HgA.out)
                have HN2 := Lib.hid (show New (OTab 3 47) w2.heap.size wB (.slice (some ⟨b', 0, none⟩) n tc) (tabOf n n (gF F W i (j + 1))) from by rw [← HS2.out]; exact HNw.out)
                clear HgT HgF HgA Hst HNw
                go_wp2
                go_quiet ((go_at_call 88; exact HA.out _))
                rename_i nq
                go_wp2
                go_roundg g
                case measure => omega
                case rel => exact ⟨j + 1, by go_num, by omega, Lib.hid (New.heap (OTab.kept _ _) HN2.out rfl), Lib.hid (below_drewN HB.out nq)⟩
            · have t1 : ((ui : Int) == (vi : Int)) = false := by
                have : ¬ vi = ui := fun h => hq (Huv.out.1 h)
                simp; omega
              have HS2 := Lib.hid (HgF.out (by rw [Hgo.out, decide_eq_false hq, Bool.false_and]))
              have HN2 := Lib.hid (show New (OTab 3 47) w2.heap.size wB (.slice (some ⟨b', 0, none⟩) n tc) (tabOf n n (gF F W i (j + 1))) from by rw [← HS2.out]; exact HNw.out)
              clear HgT HgF Hst HNw Hgo Huv hq Hcat HA
              go_wp2
              go_quiet (fail)
              rename_i nq
              go_wp2
              go_roundg g
              case measure => omega
              case rel => exact ⟨j + 1, by go_num, by omega, Lib.hid (New.heap (OTab.kept _ _) HN2.out rfl), Lib.hid (below_drewN HB.out nq)⟩
          · obtain rfl : j = n := by omega
            have hji : ¬ ((j : Int) < (j : Int)) := by omega
            have HN2 := Lib.hid (show New (OTab 3 47) w2.heap.size wB (.slice (some ⟨tb, 0, none⟩) j tc) (tabOf j j (gF F W (i + 1) 0)) from by rw [← gF_row]; exact HN.out)
            clear HN
            go_wp2
            go_roundg (j - (i + 1))
            case measure => omega
            case rel => exact ⟨i + 1, by go_num, by omega, HN2, HB⟩
      · obtain rfl : i = n := by omega
        have hii : ¬ ((i : Int) < (i : Int)) := by omega
        have HR := Lib.hid (show New (OTab 3 47) w.heap.size wr (.slice (some ⟨tb, 0, none⟩) i tc) V from by rw [HV.out, ← gF_end]; exact HN.out.mono z2)
        have HBf := Lib.hid (HB2.out.trans (HB.out.mono z2))
        clear HN HB
        go_wp2
        go_ret2
        exact ⟨_, by rw [HF.out]; rfl, HR.out, HBf.out⟩
end Go.Proofs.YtcilgihmaaobeaaDoor
end

section
namespace Go.Proofs.YtcilgihmaaobeaaDoor
open Go.RowKit Go.Deep Go.Sd
theorem lofV_eq (z : Sh) : lofV z = if lofOk z = true then (z.1, ((stW z).length : Int), garcs z.2 (stW z) (stW z).length) else (0, 0, []) := by
  by_cases h : lofOk z = true
  · have e := (stW_of h).2
    unfold lofV
    rw [if_pos h, if_pos h, e]
  · unfold lofV
    rw [if_neg h, if_neg h]
theorem garcs_sorted {z : Sh} (h : lofOk z = true) : (garcs z.2 (stW z) (stW z).length).Pairwise fun a b => before b a = false ∧ a ≠ b := by
  obtain ⟨hs, e⟩ := stW_of h
  rw [e]
  have hL := (shiftM_of hs).1
  have h1 := garcs_sort (F := z.2) (states_lex z.2 (L := z.1.toNat) (by omega)) (fun p hp => by
    obtain ⟨a, b, rfl, -, hb⟩ := states_let (by omega) hp
    simp
    omega) (statesM z.2 z.1.toNat).length
  refine List.Pairwise.imp_of_mem (fun {a b} ha hb hab => ?_) h1
  have oa := garcs_ok (by omega) a ha
  have ob := garcs_ok (by omega) b hb
  unfold okArc at oa ob
  unfold akey at hab
  refine ⟨?_, fun e => by subst e; omega⟩
  unfold before
  by_cases e1 : b.1 = a.1
  · rw [if_neg (by simp [e1]), if_pos (by omega)]
    exact decide_eq_false (by omega)
  · rw [if_pos e1]
    exact decide_eq_false (by omega)
theorem garcs_pos {z : Sh} (h : lofOk z = true) : 0 < (garcs z.2 (stW z) (stW z).length).length := by
  obtain ⟨hs, e⟩ := stW_of h
  have hsp := shiftM_of hs
  have hL := hsp.1
  rw [lofOk_eq, decide_eq_true_eq] at h
  rw [e] at h ⊢
  have hp := at_of (W := statesM z.2 z.1.toNat) (i := 0) (by omega)
  obtain ⟨q, hq, hg⟩ := pairs_succ ((states_iff (by omega) (by omega)).1 (List.mem_of_getElem? hp))
  obtain ⟨j, hj, hjl⟩ := idx_of hsp.short (by omega) (by omega) hq
  exact List.length_pos_of_mem (garcs_mem.2 ⟨0, j, by omega, hjl, by rw [getD_of hj]; exact hg, rfl⟩)
theorem garcR_le (F : List ByteArray) (W : List (List Nat)) (i m : Nat) : (garcR F W i m).length ≤ m := by
  unfold garcR
  rw [List.length_map]
  exact Nat.le_trans (List.length_filter_le _ _) (by simp)
theorem garcs_le (F : List ByteArray) (W : List (List Nat)) (h9 : W.length ≤ 9) : ∀ k, (garcs F W k).length ≤ 9 * k
  | 0 => by simp [garcs]
  | k + 1 => by
    have h1 := garcs_le F W h9 k
    have h2 := garcR_le F W k W.length
    rw [garcs_succ, List.length_append]
    omega
theorem lw_i64 {lv : Nat} (h : lv < 3) : IntKind.i64.wrap (IntKind.i64.wrap (97 + (lv : Int)) - 97) = (lv : Int) := by
  rw [IntKind.wrap_i64, IntKind.wrap_i64]; omega
theorem garcR_zero (F : List ByteArray) (W : List (List Nat)) (i : Nat) : garcR F W i 0 = [] := rfl
end Go.Proofs.YtcilgihmaaobeaaDoor
end

section
namespace Go.Proofs.YtcilgihmaaobeaaDoor
open Go.RowKit Go.Deep Go.Sd

theorem infoB : (Tryd.prog.info? 4).map (fun i => (i.zero, i.size, i.bytes)) = some (some (.bool false), 1, 1) := by kernel_rfl



end Go.Proofs.YtcilgihmaaobeaaDoor
end

section
namespace Go.Proofs.YtcilgihmaaobeaaDoor
open Go.RowKit Go.Deep Go.Sd

def EB (B : Int) (m : List (List Int)) : Prop := ∀ i j, 0 ≤ ent m i j ∧ ent m i j ≤ B
theorem EB.zeros (n : Nat) : EB 0 (List.replicate n (List.replicate n 0)) := by
  intro i j
  have h : ent (List.replicate n (List.replicate n 0)) i j = 0 := by
    unfold ent
    simp only [List.getD_eq_getElem?_getD, List.getElem?_replicate]
    split
    · simp only [Option.getD_some, List.getElem?_replicate]; split <;> rfl
    · rfl
  rw [h]; omega
end Go.Proofs.YtcilgihmaaobeaaDoor
end

section
namespace Go.Proofs.YtcilgihmaaobeaaDoor
open Go.RowKit Go.Deep Go.Sd

def fillT (n k : Nat) : List Bool := List.replicate k true ++ List.replicate (n - k) false
theorem fillT_at {n k : Nat} (h : k < n) : (fillT n k)[k]? = some false := by
  unfold fillT
  rw [List.getElem?_append_right (by simp), List.getElem?_replicate, if_pos (by simp; omega)]
theorem fillT_set {n k : Nat} (h : k < n) : (fillT n k).set k true = fillT n (k + 1) := by
  unfold fillT
  rw [List.set_append_right _ _ (by simp), show n - k = (n - (k + 1)) + 1 from by omega, List.replicate_succ, List.replicate_succ']
  simp
/-- One of the first k places of l has it. -/
def anyN (l : List Bool) (f : Nat → Bool) : Nat → Bool
  | 0 => false
  | k + 1 => anyN l f k || (l.getD k false && f k)
theorem anyN_iff {l : List Bool} {f : Nat → Bool} : ∀ {k : Nat}, anyN l f k = true ↔ ∃ j, j < k ∧ On l j ∧ f j = true
  | 0 => by simp [anyN]
  | k + 1 => by
    unfold anyN
    rw [Bool.or_eq_true, Bool.and_eq_true, anyN_iff (k := k)]
    have hg : l.getD k false = true ↔ On l k := by
      unfold On
      rw [List.getD_eq_getElem?_getD]
      cases h : l[k]? <;> simp
    rw [hg]
    constructor
    · rintro (⟨j, hj, h⟩ | h)
      · exact ⟨j, by omega, h⟩
      · exact ⟨k, by omega, h⟩
    · rintro ⟨j, hj, h⟩
      by_cases e : j = k
      · subst e; exact .inr h
      · exact .inl ⟨j, by omega, h⟩
def entP (m : List (List Int)) (i j : Nat) : Bool := decide (0 < ent m i j)
def EntP (m : List (List Int)) (i j : Nat) : Prop := entP m i j = true
theorem both_iff {m : List (List Int)} {l : List Bool} {n i : Nat} (hl : l.length = n) : Both (EntP m) l i ↔ anyN l (entP m i) n = true ∧ anyN l (fun j => entP m j i) n = true := by
  rw [anyN_iff, anyN_iff]
  constructor
  · rintro ⟨⟨j, hj, he⟩, k, hk, hf⟩
    exact ⟨⟨j, by rw [← hl]; exact hj.lt, hj, he⟩, k, by rw [← hl]; exact hk.lt, hk, hf⟩
  · rintro ⟨⟨j, _, hj, he⟩, k, _, hk, hf⟩
    exact ⟨⟨j, hj, he⟩, k, hk, hf⟩
set_option maxHeartbeats 4000000 in
set_option maxRecDepth 10000 in
theorem l5Live_c {w : World} {v : Value} {m : List (List Int)} {n : Nat} (h : Tab w v m) (hsq : Sq n m) (hn0 : 0 < n) (hn : n ≤ 16) :
    Calls Tryd.prog 86 #[v] w (Makes (OwnOf 4 (OValR Value.bool)) w (liveL (EntP m) n)) := by
  obtain ⟨ab, ao, ac, rfl, hab, hae⟩ := h.entAt hsq.1 hsq.2 hn0
  clear h hsq
  have hmk := run_make_row' (P := Tryd.prog) 96 4 (.bool false) 1 Tryd.underlying96 infoB rfl .i64 .i64 n (by omega) (by omega)
  go_enter Tryd.func86, Tryd.ntmps86
  go_wp2
  go_loopg [4] n (fun g i wr => ∃ (k : Nat), i = .int .i64 k ∧ k + g = n ∧ Hid (New (OwnOf 4 (OValR Value.bool)) w.heap.size wr (.slice (some ⟨w.heap.size, 0, none⟩) n n) (fillT n k)) ∧ Hid (Below w.heap.size w wr))
  case atStart => exact ⟨0, rfl, by omega, Lib.hid (New.made 4 w (.bool false) false n (Nat.le_refl _) (by omega) (fun _ => ⟨rfl, rfl⟩)), Lib.hid ((Below.refl _ _).alloc (Nat.le_refl _) _)⟩
  case round =>
    obtain ⟨k, rfl, hk, hnew, hbel⟩ := hrel
    clear hmk
    by_cases hlt : k < n
    · obtain ⟨b', c', hv, _, _, hblt, hcl, hfr, hst⟩ := hnew.out.val_at (fun _ => rfl) (fillT_at hlt)
      obtain rfl : b' = w.heap.size := by simp at hv; exact hv.1.symm
      have Hst := Lib.hid (by have := hst true; rw [fillT_set hlt] at this; exact this)
      have Hb := Lib.hid (hbel.out.setCell (p := ⟨w.heap.size, k, none⟩) (Nat.le_refl _) (.bool true))
      have hkI : (k : Int) < (n : Int) := Int.ofNat_lt.2 hlt
      clear hv hst hnew hbel hae
      go_wp2
      go_roundg (n - (k + 1))
      case measure => omega
      case rel => exact ⟨k + 1, by go_num, by omega, Hst, Hb⟩
    · obtain rfl : k = n := by omega
      have HL0 := Lib.hid (show New (OwnOf 4 (OValR Value.bool)) w.heap.size wr (.slice (some ⟨w.heap.size, 0, none⟩) k k) (List.replicate k true) from by have h := hnew.out; unfold fillT at h; simpa using h)
      have HS0 := Lib.hid (Sup.start (E := EntP m) (n := k))
      clear hnew
      go_wp2
      go_loopg [5] (k + 1) (fun g c wr => ∃ (l : List Bool) (ch : Bool) (q : Nat), c = .bool ch ∧ q = g ∧ q = (if ch = true then cntT l + 1 else 0) ∧ Hid (Sup (EntP m) k l) ∧ Hid (ch = false → l = liveL (EntP m) k) ∧ Hid (New (OwnOf 4 (OValR Value.bool)) w.heap.size wr (.slice (some ⟨w.heap.size, 0, none⟩) k k) l) ∧ Hid (Below w.heap.size w wr))
      case atStart => exact ⟨List.replicate k true, true, k + 1, rfl, rfl, by rw [cntT_replicate]; rfl, HS0, Lib.hid (fun h => by cases h), HL0, hbel⟩
      case round =>
        clear HS0 HL0 hbel
        obtain ⟨l0, ch, q, rfl, rfl, hg, hsup, hend, hnew, hbel⟩ := hrel
        cases ch with
        | false =>
          have HF := Lib.hid (show New (OwnOf 4 (OValR Value.bool)) w.heap.size wr (.slice (some ⟨w.heap.size, 0, none⟩) k k) (liveL (EntP m) k) from by have h := hnew.out; rw [hend.out rfl] at h; exact h)
          clear hg hnew hend
          go_wp2
          go_ret
          exact ⟨_, rfl, HF.out, hbel.out⟩
        | true =>
          have hg' : q = cntT l0 + 1 := hg
          have HP0 := Lib.hid (Pas.start (E := EntP m) (n := k) hsup.out)
          clear hg hend
          go_wp2
          go_loopg [5, 6] k (fun g2 c i wr => ∃ (i' : Nat) (l : List Bool) (ch : Bool), c = .bool ch ∧ i = .int .i64 i' ∧ i' + g2 = k ∧ Hid (Pas (EntP m) k l0 i' l ch) ∧ Hid (New (OwnOf 4 (OValR Value.bool)) w.heap.size wr (.slice (some ⟨w.heap.size, 0, none⟩) k k) l) ∧ Hid (Below w.heap.size w wr))
          case atStart => exact ⟨0, l0, false, rfl, rfl, by omega, HP0, hnew, hbel⟩
          case round =>
            clear HP0 hnew hbel
            obtain ⟨i, l, ch, rfl, rfl, hi, hpas, hnew, hbel⟩ := hrel
            by_cases hlti : i < k
            · have hiI : (i : Int) < (k : Int) := Int.ofNat_lt.2 hlti
              have hll : l.length = k := hpas.out.1.1
              obtain ⟨wi, rfl⟩ : ∃ x, x = wr := ⟨_, rfl⟩
              have HA0 := Lib.hid (show anyN l (entP m i) 0 = false ∧ anyN l (fun j => entP m j i) 0 = false from ⟨rfl, rfl⟩)
              go_wp2
              go_loopg [7, 8, 9] k (fun g3 fv tv j wr => ∃ (j' : Nat) (f t : Bool), fv = .bool f ∧ tv = .bool t ∧ j = .int .i64 j' ∧ j' + g3 = k ∧ Hid (anyN l (entP m i) j' = f ∧ anyN l (fun j => entP m j i) j' = t) ∧ wi = wr)
              case atStart => exact ⟨0, false, false, rfl, rfl, rfl, by omega, HA0, rfl⟩
              case round =>
                clear HA0
                obtain ⟨j, f, t, rfl, rfl, rfl, hj, HA, rfl⟩ := hrel
                by_cases hltj : j < k
                · have hjI : (j : Int) < (k : Int) := Int.ofNat_lt.2 hltj
                  have hae1 := hae.frame hab hbel.out
                  obtain ⟨rb, ro, rc, hA1, _, _, hA2⟩ := hae1.at hlti hn0
                  obtain ⟨zb, zo, zc, hB1, _, _, hB2⟩ := hae1.at hltj hn0
                  have hA3 := hA2 j hltj
                  have hB3 := hB2 i hlti
                  have hlj : l[j]? = some (l[j]'(by omega)) := List.getElem?_eq_getElem (by omega)
                  obtain ⟨b', c', hv, _, _, hblt, hcl, hfr, _⟩ := hnew.out.val_at (fun _ => rfl) hlj
                  obtain rfl : b' = w.heap.size := by simp at hv; exact hv.1.symm
                  have HA1 := Lib.hid (show anyN l (entP m i) (j + 1) = (f || (l[j]'(by omega) && decide (0 < ent m i j))) ∧ anyN l (fun j => entP m j i) (j + 1) = (t || (l[j]'(by omega) && decide (0 < ent m j i))) from by
                    unfold anyN
                    rw [HA.out.1, HA.out.2, List.getD_eq_getElem?_getD, hlj]
                    exact ⟨rfl, rfl⟩)
                  generalize l[j]'(by omega) = lj at *
                  generalize ent m i j = X at *
                  generalize ent m j i = Y at *
                  generalize hda : decide (0 < X) = da at *
                  generalize hdb : decide (0 < Y) = db at *
                  clear hae1 hA2 hB2 hv hlj HA
                  cases f <;> cases t <;> cases lj <;> cases da <;> cases db <;> (go_wp2; go_roundg (k - (j + 1)); (case measure => omega); (case rel => exact ⟨j + 1, _, _, rfl, rfl, by go_num, by omega, HA1, rfl⟩))
                · obtain rfl : j = k := by omega
                  have hbi := both_iff (m := m) (i := i) hll
                  rw [HA.out.1, HA.out.2] at hbi
                  have hli : l[i]? = some (l[i]'(by omega)) := List.getElem?_eq_getElem (by omega)
                  obtain ⟨b', c', hv, _, _, hblt, hcl, hfr, hst⟩ := hnew.out.val_at (fun _ => rfl) hli
                  obtain rfl : b' = w.heap.size := by simp at hv; exact hv.1.symm
                  have Hst := Lib.hid (hst false)
                  have Hbs := Lib.hid (hbel.out.setCell (p := ⟨w.heap.size, i, none⟩) (Nat.le_refl _) (.bool false))
                  have hon : On l i ↔ l[i]'(by omega) = true := by unfold On; rw [hli]; simp
                  generalize l[i]'(by omega) = li at *
                  have HK := Lib.hid (fun (hk : li = true → f = true ∧ t = true) => hpas.out.keep (fun h => hbi.2 (hk (hon.1 h))))
                  have HU := Lib.hid (fun (h1 : li = true) (h2 : ¬ (f = true ∧ t = true)) => hpas.out.unset (hon.2 h1) (fun h => h2 (hbi.1 h)))
                  clear hbi hli hv hst hon HA hae hpas
                  cases li with
                  | false =>
                    have R := Lib.hid (HK.out (fun h => by cases h))
                    clear HK HU Hst Hbs
                    go_wp2
                    go_roundg (j - (i + 1))
                    case measure => omega
                    case rel => exact ⟨i + 1, l, ch, rfl, by go_num, by omega, R, hnew, hbel⟩
                  | true =>
                    by_cases hft : f = true ∧ t = true
                    · obtain ⟨rfl, rfl⟩ := hft
                      have R := Lib.hid (HK.out (fun _ => ⟨rfl, rfl⟩))
                      clear HK HU Hst Hbs
                      go_wp2
                      go_roundg (j - (i + 1))
                      case measure => omega
                      case rel => exact ⟨i + 1, l, ch, rfl, by go_num, by omega, R, hnew, hbel⟩
                    · have R := Lib.hid (HU.out rfl hft)
                      clear HK HU
                      cases f with
                      | false =>
                        clear hft
                        go_wp2
                        go_roundg (j - (i + 1))
                        case measure => omega
                        case rel => exact ⟨i + 1, l.set i false, true, rfl, by go_num, by omega, R, Hst, Hbs⟩
                      | true =>
                        cases t with
                        | true => exact absurd ⟨rfl, rfl⟩ hft
                        | false =>
                          clear hft
                          go_wp2
                          go_roundg (j - (i + 1))
                          case measure => omega
                          case rel => exact ⟨i + 1, l.set i false, true, rfl, by go_num, by omega, R, Hst, Hbs⟩
            · obtain rfl : i = k := by omega
              have HS := Lib.hid hpas.out.1
              cases ch with
              | false =>
                have HE := Lib.hid (show l = liveL (EntP m) i from hpas.out.end)
                clear hpas
                go_wp2
                go_roundg 0
                case measure => omega
                case rel => exact ⟨l, false, 0, rfl, rfl, rfl, HS, Lib.hid (fun _ => HE.out), hnew, hbel⟩
              | true =>
                have hless := hpas.out.less.2
                clear hpas
                go_wp2
                go_roundg (cntT l + 1)
                case measure => omega
                case rel => exact ⟨l, true, cntT l + 1, rfl, rfl, rfl, HS, Lib.hid (fun h => by cases h), hnew, hbel⟩
end Go.Proofs.YtcilgihmaaobeaaDoor
end

section
namespace Go.Sd
open Go.RowKit Go.Deep
theorem Clos.congr {E E' : Nat → Nat → Prop} {n : Nat} (h : ∀ i j, i < n → j < n → (E i j ↔ E' i j)) {S : Nat → Prop} (hc : Clos E n S) : Clos E' n S := fun i hi => by
  obtain ⟨h1, ⟨j, hj, he⟩, k, hk, hf⟩ := hc i hi
  exact ⟨h1, ⟨j, hj, (h i j h1 (hc j hj).1).1 he⟩, k, hk, (h k i (hc k hk).1 h1).1 hf⟩
theorem liveL_congr {E E' : Nat → Nat → Prop} {n : Nat} (h : ∀ i j, i < n → j < n → (E i j ↔ E' i j)) : liveL E n = liveL E' n := by
  have hg : ∀ i, Gr E n i ↔ Gr E' n i := fun i => ⟨fun ⟨S, hS, hi⟩ => ⟨S, hS.congr h, hi⟩, fun ⟨S, hS, hi⟩ => ⟨S, hS.congr (fun i j a b => (h i j a b).symm), hi⟩⟩
  unfold liveL
  exact List.map_congr_left fun i _ => decide_eq_decide.2 (hg i)
end Go.Sd
namespace Go.Proofs.YtcilgihmaaobeaaDoor
open Go.RowKit Go.Deep Go.Sd
/-- Some arc leads from i to j. -/
def ArcP (xs : List Arc3) (i j : Nat) : Prop := ∃ a, a ∈ xs ∧ a.1 = (i : Int) ∧ a.2.1 = (j : Int)
def MatA (p : Nat) (m : List (List Int)) (xs : List Arc3) : Prop := Sq p m ∧ ∀ i j, i < p → j < p → (0 < ent m i j ↔ ArcP xs i j)
theorem MatA.start (p : Nat) : MatA p (List.replicate p (List.replicate p 0)) [] := by
  refine ⟨Sq.zeros p, fun i j hi hj => ?_⟩
  have := EB.zeros p i j
  constructor
  · intro h; omega
  · rintro ⟨a, ha, _⟩; simp at ha
theorem ent_set1 {p : Nat} {m : List (List Int)} (h : Sq p m) {p0 p1 : Nat} (h0 : p0 < p) (h1 : p1 < p) (i j : Nat) : ent (m.set p0 ((m.getD p0 []).set p1 1)) i j = if i = p0 ∧ j = p1 then 1 else ent m i j := by
  have hr := h.row h0
  unfold ent
  simp only [List.getD_eq_getElem?_getD, List.getElem?_set] at hr ⊢
  by_cases e : p0 = i
  · subst e
    have hl : p0 < m.length := by rw [h.1]; exact h0
    rw [if_pos rfl, if_pos hl]
    simp only [Option.getD_some, List.getElem?_set]
    by_cases e2 : p1 = j
    · subst e2
      simp [hr.2, h1]
    · rw [if_neg e2, if_neg (fun h => e2 h.2.symm)]
  · rw [if_neg e, if_neg (fun h => e h.1.symm)]
theorem MatA.step {p : Nat} {m : List (List Int)} {xs : List Arc3} (h : MatA p m xs) {p0 p1 : Nat} {y2 : Int} (h0 : p0 < p) (h1 : p1 < p) : MatA p (m.set p0 ((m.getD p0 []).set p1 1)) (xs ++ [((p0 : Int), (p1 : Int), y2)]) := by
  refine ⟨h.1.set h0 _ _, fun i j hi hj => ?_⟩
  rw [ent_set1 h.1 h0 h1]
  by_cases e : i = p0 ∧ j = p1
  · rw [if_pos e]
    obtain ⟨rfl, rfl⟩ := e
    exact ⟨fun _ => ⟨((i : Int), (j : Int), y2), by simp, rfl, rfl⟩, fun _ => by omega⟩
  · rw [if_neg e, h.2 i j hi hj]
    constructor
    · rintro ⟨a, ha, b⟩; exact ⟨a, by simp [ha], b⟩
    · rintro ⟨a, ha, b1, b2⟩
      rcases List.mem_append.1 ha with ha | ha
      · exact ⟨a, ha, b1, b2⟩
      · simp at ha
        subst ha
        simp at b1 b2
        exact absurd ⟨by omega, by omega⟩ e
theorem MatA.live {p : Nat} {m : List (List Int)} {xs : List Arc3} (h : MatA p m xs) : liveL (EntP m) p = liveL (ArcP xs) p :=
  liveL_congr fun i j hi hj => by rw [← h.2 i j hi hj]; unfold EntP entP; simp
set_option maxHeartbeats 4000000 in
set_option maxRecDepth 100000 in
theorem l14Live_c {w : World} {v : Value} {l : Lb} (h : LabR w v l) (hok : isLab l = true) :
    Calls Tryd.prog 78 #[v] w (Makes (OwnOf 4 (OValR Value.bool)) w (liveL (ArcP l.2.2) l.2.1.toNat)) := by
  obtain ⟨ho, hS1, hS2, _, _⟩ := isLab_ok hok
  clear hok
  obtain ⟨L, S, xs⟩ := l
  obtain ⟨va, rfl, hlen, a, c, rfl, _, _, _, hcell⟩ := h
  simp only at *
  obtain ⟨p, rfl⟩ := Int.eq_ofNat_of_zero_le (show 0 ≤ S by omega)
  generalize hn : xs.length = n at *
  have Hn := Lib.hid hn.symm
  clear hn
  have hp12 : p ≤ 12 := by omega
  have hp0 : 0 < p := by omega
  have Hz := Lib.hid (fun w1 => l4Zero_c (w := w1) (p := p) (r := p) (by omega) (by omega))
  have Ho := Lib.hid ho
  rw [show ((p : Int)).toNat = p from rfl]
  clear ho hS1 hS2
  go_enter Tryd.func78, Tryd.ntmps78
  go_wp2_with fail
  obtain ⟨w1, ex, A0, c0, c1, c2, m1⟩ := boxA3_ex w 26 (.int .i64 L) (.int .i64 p) (.slice a n c)
  change Calls Tryd.prog _ _ (w.alloc (.cells #[.int .i64 L, .int .i64 p, .slice a n c] 26)) _
  rw [ex]
  clear ex
  (with_reducible refine (Hz.out _).mono ?_)
  rintro e w3 ⟨tv, rfl, hnew, hb⟩
  obtain ⟨gb, gc, _, _, rfl, _, hgb, hgb2, _⟩ := hnew.tab_at (i := 0) (j := 0) ((Sq.zeros p).row hp0).1 ((Sq.zeros p).entry hp0 hp0)
  rw [(Sq.zeros p).1] at hnew ⊢
  replace hnew := hnew.mono (Nat.succ_le_of_lt m1)
  replace hgb := Nat.le_trans A0.size hgb
  replace c2 := (hb.cell (p := ⟨w.heap.size, 2, none⟩) m1).trans c2
  replace m1 := Nat.lt_of_lt_of_le m1 hb.size
  replace A0 := A0.trans (hb.mono A0.size)
  clear hb c0 c1
  have Hnew := Lib.hid hnew
  have HA0 := Lib.hid A0
  have HM0 := Lib.hid (show MatA p (List.replicate p (List.replicate p 0)) (xs.take 0) from MatA.start p)
  clear hnew A0 Hz
  go_wp2
  go_loopg [4] n (fun g i wr => ∃ (k : Nat) (m : List (List Int)), i = .int .i64 k ∧ k + g = n ∧ Hid (MatA p m (xs.take k)) ∧ Hid (New (OTab 3 47) (w.heap.size + 1) wr (.slice (some ⟨gb, 0, none⟩) p gc) m) ∧ wr.cell? ⟨w.heap.size, 2, none⟩ = some (.slice a n c) ∧ w.heap.size < wr.heap.size ∧ gb < wr.heap.size ∧ Hid (Below w.heap.size w wr))
  case atStart => exact ⟨0, _, rfl, by omega, HM0, Hnew, c2, m1, hgb2, HA0⟩
  case round =>
    obtain ⟨k, m, rfl, hk, hma, hnew, r2, hwr, hgb3, hbel⟩ := hrel
    clear HM0 Hnew HA0
    by_cases hlt : k < n
    · obtain ⟨b, o, rfl, hb, hx0⟩ := hcell (by omega)
      obtain ⟨y, hy, _⟩ := at_lt (xs := xs) (k := k) (by have := Hn.out; omega)
      obtain ⟨f0, f1, f2⟩ := hx0 k y hy
      obtain ⟨i0, i1, i2, i3⟩ := okArcs_at Ho.out hy
      have g0 : wr.cell? ⟨b, o + k * 3, none⟩ = some (.int .i64 y.1) := (hbel.out.cell (p := ⟨b, o + k * 3, none⟩) hb).trans f0
      have g1 : wr.cell? ⟨b, o + k * 3 + 1, none⟩ = some (.int .i64 y.2.1) := (hbel.out.cell (p := ⟨b, o + k * 3 + 1, none⟩) hb).trans f1
      have HT := Lib.hid (show xs.take (k + 1) = xs.take k ++ [y] from (take_snoc' hy).symm)
      obtain ⟨y0, y1, y2⟩ := y
      simp only at g0 g1 i0 i1 i2 i3
      obtain ⟨p0, rfl⟩ := Int.eq_ofNat_of_zero_le i0
      obtain ⟨p1, rfl⟩ := Int.eq_ofNat_of_zero_le i2
      have hq0 : p0 < p := by omega
      have hq1 : p1 < p := by omega
      obtain ⟨b', c'', sb, sc, hv, _, _, _, hcl1, _, hsb, hsb2, hcl2, hfr, hst⟩ := hnew.out.tab_at (hma.out.1.row hq0).1 (hma.out.1.entry hq0 hq1)
      obtain rfl : b' = gb := by simp at hv; exact hv.1.symm
      rw [(hma.out.1.row hq0).2] at hcl1
      have HM := Lib.hid (show MatA p (m.set p0 ((m.getD p0 []).set p1 1)) (xs.take (k + 1)) from by rw [HT.out]; exact hma.out.step hq0 hq1)
      have Hst := Lib.hid (hst 1)
      have Hb3 := Lib.hid (hbel.out.setCell (p := ⟨sb, p1, none⟩) (Nat.le_of_succ_le hsb) (.int .i64 1))
      have Hc2 := Lib.hid ((World.cell?_setCell_other wr ⟨sb, p1, none⟩ ⟨w.heap.size, 2, none⟩ (.int .i64 1) (by simp <;> omega)).trans r2)
      have hj0 : (p0 : Int) < (p : Int) := by omega
      have hj1 : (p1 : Int) < (p : Int) := by omega
      have hkn : (k : Int) < (n : Int) := by omega
      have Hlt := Lib.hid (show w.heap.size < wr.heap.size ∧ b' < wr.heap.size from ⟨hwr, hgb3⟩)
      generalize m.set p0 ((m.getD p0 []).set p1 1) = m' at *
      generalize ent m p0 p1 = X at *
      clear hx0 hcell hy f0 f1 f2 hv hst hnew hbel hma HT
      go_wp2
      go_still_tail 16, (by kernel_rfl)
      go_wp2
      go_roundg (n - (k + 1))
      case measure => omega
      case rel => exact ⟨k + 1, m', by go_num, by omega, HM, Lib.hid (New.heap (OTab.kept _ _) Hst.out rfl), Hc2.out, by simp; exact Hlt.out.1, by simp; exact Hlt.out.2, Lib.hid Hb3.out.drew⟩
    · have HF := Lib.hid (show liveL (EntP m) p = liveL (ArcP xs) p from by have h := hma.out; rw [List.take_of_length_le (by have := Hn.out; omega)] at h; exact h.live)
      have H5 := Lib.hid (l5Live_c hnew.out.tab hma.out.1 hp0 (by omega))
      rw [HF.out] at H5
      clear hcell hma hnew
      go_wp2_with fail
      refine H5.out.mono ?_
      rintro e w5 ⟨r, rfl, hn5, hb5⟩
      have HN := Lib.hid (hn5.mono (Nat.le_of_lt hwr))
      have HB := Lib.hid (hbel.out.trans (hb5.mono (Nat.le_of_lt hwr)))
      clear hn5 hb5 H5
      go_wp2
      go_ret
      exact ⟨_, rfl, HN.out, HB.out⟩
end Go.Proofs.YtcilgihmaaobeaaDoor
end

section
namespace Go.Proofs.YtcilgihmaaobeaaDoor
open Go.RowKit Go.Deep Go.Sd

/-! Names. -/
def nm (l : List Bool) (i : Nat) : Nat := cntT (l.take i)
theorem nm_zero (l : List Bool) : nm l 0 = 0 := by simp [nm, cntT]
theorem nm_succ {l : List Bool} {i : Nat} {b : Bool} (h : l[i]? = some b) : nm l (i + 1) = nm l i + (if b = true then 1 else 0) := by
  unfold nm cntT
  rw [List.take_add_one, h, List.countP_append]
  cases b <;> simp
theorem nm_le (l : List Bool) (i : Nat) : nm l i ≤ cntT l := by
  unfold nm cntT
  exact List.Sublist.countP_le (List.take_sublist _ _)
theorem nm_all (l : List Bool) : nm l l.length = cntT l := by unfold nm; rw [List.take_length]
/-! Arcs kept. -/
def kept (l : List Bool) (a : Arc3) : Bool := l.getD a.1.toNat false && l.getD a.2.1.toNat false
def renA (l : List Bool) (a : Arc3) : Arc3 := ((nm l a.1.toNat : Int), (nm l a.2.1.toNat : Int), a.2.2)
def trimA (l : List Bool) (xs : List Arc3) : List Arc3 := (xs.filter (kept l)).map (renA l)
theorem trimA_len (l : List Bool) (xs : List Arc3) : (trimA l xs).length ≤ xs.length := by
  unfold trimA; rw [List.length_map]; exact List.length_filter_le _ _
theorem trimA_snoc (l : List Bool) (xs : List Arc3) (a : Arc3) : trimA l (xs ++ [a]) = if kept l a = true then trimA l xs ++ [renA l a] else trimA l xs := by
  unfold trimA
  rw [List.filter_append, List.map_append]
  by_cases h : kept l a = true
  · rw [if_pos h]; simp [h]
  · rw [if_neg h]; simp [h]
noncomputable def liveO (l : Lb) : List Bool := liveL (ArcP l.2.2) l.2.1.toNat
theorem liveO_len (l : Lb) : (liveO l).length = l.2.1.toNat := liveL_len
open Classical in
noncomputable def trimOk (l : Lb) : Bool := isLab l && decide (cntT (liveO l) ≠ 0)
noncomputable def keepV (l : Lb) (b : List Bool) : Lb := (l.1, (cntT b : Int), trimA b l.2.2)
noncomputable def trimV (l : Lb) : Lb := if trimOk l = true then keepV l (liveO l) else (0, 0, [])
theorem trimV_len (l : Lb) : (trimV l).2.2.length ≤ l.2.2.length := by
  unfold trimV
  split
  · exact trimA_len _ _
  · simp
end Go.Proofs.YtcilgihmaaobeaaDoor
end
