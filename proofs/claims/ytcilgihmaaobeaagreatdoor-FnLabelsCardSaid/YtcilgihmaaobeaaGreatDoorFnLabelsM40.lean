/-
  Laws for this claim's walks, contracts of the functions that it reaches.
-/
import Derived.Test.YtcilgihmaaobeaaGreatDoorFnLabelsM37
import Derived.Test.YtcilgihmaaobeaaGreatDoorFnLabelsM39
set_option linter.unusedVariables false
set_option linter.unusedSimpArgs false
section
namespace Go.Proofs.YtcilgihmaaobeaaGreatDoor
open Go.RowKit Go.Deep Go.Sd
set_option linter.unusedSimpArgs false
/-- The states of a shift; none of what is no shift. -/
noncomputable def stW (z : Sh) : List (List Nat) := if shiftM z = true then statesM z.2 z.1.toNat else []
theorem stW_two {z : Sh} {v : List Nat} (h : v ∈ stW z) : Two v := by
  unfold stW at h
  by_cases e : shiftM z = true
  · rw [if_pos e] at h
    have := (shiftM_of e).1
    obtain ⟨a, b, rfl, ha, hb⟩ := states_let (by omega) h
    exact ⟨a, b, rfl, by omega, by omega⟩
  · rw [if_neg e] at h; cases h
theorem stW_len (z : Sh) : (stW z).length ≤ 9 := by
  unfold stW
  by_cases e : shiftM z = true
  · rw [if_pos e]
    have := (shiftM_of e).1
    exact states_len _ (by omega) (by omega)
  · rw [if_neg e]; simp
theorem lofOk_eq (z : Sh) : lofOk z = decide ((stW z).length ≠ 0) := by
  unfold lofOk stW
  by_cases e : shiftM z = true
  · rw [if_pos e, e, Bool.true_and]
  · rw [if_neg e]
    rw [show shiftM z = false by simpa using e]
    rfl
theorem stW_of {z : Sh} (h : lofOk z = true) : shiftM z = true ∧ stW z = statesM z.2 z.1.toNat := by
  unfold lofOk at h
  rw [Bool.and_eq_true] at h
  exact ⟨h.1, by unfold stW; rw [if_pos h.1]⟩
theorem lan2 (z : Sh) : lanM z 2 = (stW z).map wordT := by
  unfold lanM stW
  by_cases e : shiftM z = true
  · rw [if_pos (by rw [e]; decide), if_pos e]
    have hL := (shiftM_of e).1
    congr 1
    refine List.filter_congr fun wd hw => ?_
    obtain ⟨h1, h2⟩ := allW_mem (by omega) hw
    have h1 : wd.length = 2 := h1
    have hsz : (wordT wd).size = 2 := by rw [wordT_size, h1]
    have hex : (wordT wd).extract 0 2 = wordT wd := by
      apply ByteArray.ext
      apply Array.toList_inj.1
      rw [extract_list, bl_data]
      unfold bl
      rw [List.drop_zero, List.take_of_length_le (by simp [h1])]
    unfold inM
    rw [if_pos (by omega), hsz, hex, Bool.and_self]
    cases hb : hasB ((pairsM z.2 z.1.toNat).map wordT) (wordT wd) with
    | false => simp
    | true =>
      have : ((pairsM z.2 z.1.toNat).map wordT).length ≠ 0 := by
        intro h0
        rw [List.length_eq_zero_iff] at h0
        rw [h0] at hb
        cases hb
      rw [decide_eq_true this]
      simp
  · rw [if_neg (by simp [show shiftM z = false by simpa using e]), if_neg e]
    rfl
def gent (F : List ByteArray) (W : List (List Nat)) (a b : Nat) : Int := if goesB F (W.getD a []) (W.getD b []) = true then 1 else 0
/-- What is filled up to row i, column j. -/
def gF (F : List ByteArray) (W : List (List Nat)) (i j a b : Nat) : Int := if a < i ∨ (a = i ∧ b < j) then gent F W a b else 0
theorem gF_start (F : List ByteArray) (W : List (List Nat)) (n : Nat) : List.replicate n (List.replicate n 0) = tabOf n n (gF F W 0 0) := by
  rw [← tabOf_const]
  exact tabOf_congr fun a _ b _ => by unfold gF; rw [if_neg (by omega)]
theorem gF_end (F : List ByteArray) (W : List (List Nat)) (n : Nat) : tabOf n n (gF F W n 0) = tabOf n n (gent F W) :=
  tabOf_congr fun a ha b _ => by unfold gF; rw [if_pos (by omega)]
theorem gF_row (F : List ByteArray) (W : List (List Nat)) (n i : Nat) : tabOf n n (gF F W i n) = tabOf n n (gF F W (i + 1) 0) :=
  tabOf_congr fun a _ b hb => by
    unfold gF
    by_cases e : a < i ∨ (a = i ∧ b < n)
    · rw [if_pos e, if_pos (by omega)]
    · rw [if_neg e, if_neg (by omega)]
theorem gF_skip {F : List ByteArray} {W : List (List Nat)} {n i j : Nat} (h : goesB F (W.getD i []) (W.getD j []) = false) : tabOf n n (gF F W i j) = tabOf n n (gF F W i (j + 1)) :=
  tabOf_congr fun a _ b _ => by
    unfold gF
    by_cases e : a < i ∨ (a = i ∧ b < j)
    · rw [if_pos e, if_pos (by omega)]
    · rw [if_neg e]
      by_cases e2 : a = i ∧ b = j
      · rw [if_pos (by omega), e2.1, e2.2]
        unfold gent
        rw [h]
        rfl
      · rw [if_neg (by omega)]
theorem gF_take {F : List ByteArray} {W : List (List Nat)} {n i j : Nat} (h : goesB F (W.getD i []) (W.getD j []) = true) : (tabOf n n (gF F W i j)).set i ((rowOf' n (gF F W i j i)).set j 1) = tabOf n n (gF F W i (j + 1)) := by
  rw [tabOf_set2]
  refine tabOf_congr fun a _ b _ => ?_
  by_cases e2 : a = i ∧ b = j
  · rw [if_pos e2]
    unfold gF
    rw [if_pos (by omega), e2.1, e2.2]
    unfold gent
    rw [if_pos h]
  · rw [if_neg e2]
    unfold gF
    by_cases e : a < i ∨ (a = i ∧ b < j)
    · rw [if_pos e, if_pos (by omega)]
    · rw [if_neg e, if_neg (by omega)]
noncomputable def gmV (z : Sh) : List (List Int) := tabOf (stW z).length (stW z).length (gent z.2 (stW z))
set_option maxHeartbeats 4000000 in
set_option maxRecDepth 100000 in
theorem spec_GraphOf_c {w : World} {vs : Value} {z : Sh} (hz : ShR w vs z) (hf : ∀ f, f ∈ z.2 → f.size ≤ 1048576) :
    Calls Tryz.prog 50 #[vs] w (Makes2 (OTab 3 61) w (gmV z) (lofOk z)) := by
  have HV := Lib.hid (show gmV z = tabOf (stW z).length (stW z).length (gent z.2 (stW z)) from rfl)
  have HO := Lib.hid (lofOk_eq z)
  have HSt := Lib.hid (fun w1 (hb : Below w.heap.size w w1) => spec_StatesOf_c (ShR.frame _ _ _ _ hz hb) hf)
  have HTw := Lib.hid (fun v (h : v ∈ stW z) => stW_two h)
  have h9 := stW_len z
  rw [lan2 z] at HSt
  generalize gmV z = V at HV ⊢
  generalize lofOk z = ok at HO ⊢
  generalize stW z = W at HV HO HSt HTw h9
  obtain ⟨L, F⟩ := z
  obtain ⟨va, rfl, ht⟩ := hz
  simp only at ht hf HSt HV
  obtain ⟨w0, e0, hb0, c0, c1, m0⟩ := boxA_ex w 37 (.int .i64 L) va
  have HFr := Lib.hid (TsR.frame _ _ _ _ ht hb0)
  obtain ⟨va1, va2, rfl, -⟩ := HFr.out.shape
  generalize hfl : F.length = fl at c1 e0 HFr HSt ⊢
  have Hf := Lib.hid hf
  have HB0 := Lib.hid hb0
  have Hfl := Lib.hid hfl
  clear hfl hf ht hb0
  obtain ⟨n, hn⟩ : ∃ n, n = W.length := ⟨_, rfl⟩
  have Hn := Lib.hid hn
  rw [← hn] at HV HO h9
  go_enter Tryz.func50, Tryz.ntmps50
  go_wp2_with fail
  (with_reducible refine (HSt.out _ HB0.out).mono ?_)
  rintro e w2 ⟨sv, rfl, hn2, hb2⟩
  have hs2 := Sep.one (OwnOf.kept OStr.kept).held hn2
  obtain ⟨sa, sc, es, hq⟩ := hs2.strsAt
  subst es
  rw [List.length_map, ← hn] at hq ⊢
  have c0 := (hb2.cell (p := ⟨w.heap.size, 0, none⟩) m0).trans c0
  have c1 := (hb2.cell (p := ⟨w.heap.size, 1, none⟩) m0).trans c1
  have m2 : w.heap.size < w2.heap.size := Nat.lt_of_lt_of_le m0 hb2.size
  have HB2 := Lib.hid (HB0.out.trans (hb2.mono HB0.out.size))
  have HFr2 := Lib.hid (TsR.frame _ _ _ _ HFr.out hb2)
  have z2 : w.heap.size ≤ w2.heap.size := Nat.le_of_lt m2
  clear hb2 hn2 hs2 HSt hn HFr HB0 e0 m0
  by_cases hn0 : n = 0
  · have HR := Lib.hid (show V = [] from by rw [HV.out, hn0]; rfl)
    have HF := Lib.hid (show ok = false from by rw [HO.out, hn0]; rfl)
    have t0 : ((n : Int) == 0) = true := by rw [hn0]; rfl
    have HN := Lib.hid (show New (OTab 3 61) w.heap.size (w2.alloc (.cells #[] 61)) _ [] from New.empty (e := 61) (R := OInts 3) w2 z2)
    have HBz := Lib.hid (HB2.out.alloc z2 (.cells #[] 61))
    clear hq HV HO
    go_wp2
    go_ret2
    exact ⟨_, by rw [HF.out]; rfl, by rw [HR.out]; exact HN.out, HBz.out⟩
  · have t0 : ((n : Int) == 0) = false := by simp; omega
    have HF := Lib.hid (show ok = true from by rw [HO.out, decide_eq_true hn0])
    obtain ⟨b, e1, hb, hc⟩ := hq (by omega)
    subst e1
    have Hc := Lib.hid hc
    have Hz := Lib.hid (fun w1 => l4Zero_c (w := w1) (p := n) (r := n) (by omega) (by omega))
    have hni : ¬ (n : Int) = 0 := by omega
    clear hq HO hc
    go_wp2_with fail
    (with_reducible refine (Hz.out _).mono ?_)
    rintro e w3 ⟨tv, rfl, hn3, hb3⟩
    obtain ⟨tb, tc, _, _, et, _, htb, htb2, _⟩ := hn3.tab_at (i := 0) (j := 0) ((Sq.zeros n).row (by omega)).1 ((Sq.zeros n).entry (by omega) (by omega))
    subst et
    rw [(Sq.zeros n).1] at hn3 ⊢
    rw [gF_start F W n] at hn3
    have HN3 := Lib.hid hn3
    have HB3 := Lib.hid hb3
    clear hn3 hb3 Hz htb2
    go_wp2
    go_loopg [6] n (fun g i wr => ∃ (k : Nat), i = .int .i64 k ∧ k + g = n ∧ Hid (New (OTab 3 61) w2.heap.size wr (.slice (some ⟨tb, 0, none⟩) n tc) (tabOf n n (gF F W k 0))) ∧ Hid (Below w2.heap.size w2 wr))
    case atStart => exact ⟨0, rfl, by omega, HN3, HB3⟩
    case round =>
      clear HN3 HB3
      obtain ⟨i, rfl, hi, HN, HB⟩ := hrel
      by_cases hlt : i < n
      · have hii : (i : Int) < (n : Int) := by omega
        go_wp2
        go_loopg [7] n (fun g j wr => ∃ (k : Nat), j = .int .i64 k ∧ k + g = n ∧ Hid (New (OTab 3 61) w2.heap.size wr (.slice (some ⟨tb, 0, none⟩) n tc) (tabOf n n (gF F W i k))) ∧ Hid (Below w2.heap.size w2 wr))
        case atStart => exact ⟨0, rfl, by omega, HN, HB⟩
        case round =>
          clear HN HB
          obtain ⟨j, rfl, hj, HN, HB⟩ := hrel
          obtain ⟨wB, rfl⟩ : ∃ x, x = wr := ⟨_, rfl⟩
          by_cases hltj : j < n
          · have hji : (j : Int) < (n : Int) := by omega
            obtain ⟨g, rfl⟩ : ∃ x, gk = x + 1 := ⟨gk - 1, by omega⟩
            obtain ⟨u, hu, _⟩ := at_lt (xs := W) (k := i) (by rw [← Hn.out]; exact hlt)
            obtain ⟨v, hv, _⟩ := at_lt (xs := W) (k := j) (by rw [← Hn.out]; exact hltj)
            have gu := Hc.out i (wordT u) (by rw [List.getElem?_map, hu]; rfl)
            have gv := Hc.out j (wordT v) (by rw [List.getElem?_map, hv]; rfl)
            have gu := (HB.out.cell (p := ⟨b, i, none⟩) hb).trans gu
            have gv := (HB.out.cell (p := ⟨b, j, none⟩) hb).trans gv
            have k0 := (HB.out.cell (p := ⟨w.heap.size, 0, none⟩) m2).trans c0
            have k1 := (HB.out.cell (p := ⟨w.heap.size, 1, none⟩) m2).trans c1
            obtain ⟨hus, hu0, hu1, -, -⟩ := (HTw.out u (List.mem_of_getElem? hu)).facts
            obtain ⟨hvs, hv0, hv1, hve, -⟩ := (HTw.out v (List.mem_of_getElem? hv)).facts
            have HgT := Lib.hid (fun (h : goesB F u v = true) => gF_take (n := n) (F := F) (W := W) (i := i) (j := j) (by rw [getD_of hu, getD_of hv]; exact h))
            have HgF := Lib.hid (fun (h : goesB F u v = false) => gF_skip (n := n) (F := F) (W := W) (i := i) (j := j) (by rw [getD_of hu, getD_of hv]; exact h))
            have hgo : goesB F u v = (decide (u.getD 1 0 = v.getD 0 0) && avoM F (wordT (u ++ v.drop 1))) := rfl
            have hex : (wordT v).extract 1 (wordT v).size = (wordT v).extract 1 2 := by rw [hvs]
            have hes : ((wordT v).extract 1 2).size = 1 := by rw [ByteArray.size_extract, hvs]; rfl
            have hs0 : ¬ (wordT u).size + ((wordT v).extract 1 2).size > 9223372036854775807 := two_add' hus hes
            have hcat : wordT u ++ (wordT v).extract 1 2 = wordT (u ++ v.drop 1) := by rw [hve, wordT_append]
            have HA := Lib.hid (fun m => Reads.quiet (avo_q (s := wordT u ++ (wordT v).extract 1 2) ((TsR.frame _ _ _ _ HFr2.out HB.out).dn' m) (by rw [ByteArray.size_append, hes, hus]; omega) Hf.out))
            rw [hcat] at HA
            rw [← hcat] at HA
            obtain ⟨b', c'', sb, sc', hvt, _, _, _, hcl1, _, hsb, hsb2, hcl2, hfr, hst⟩ := HN.out.tab_at (tabOf_at hlt) (rowOf_at hltj)
            obtain rfl : b' = tb := by simp at hvt; exact hvt.1.symm
            rw [rowOf_len] at hcl1
            have Hst := Lib.hid (hst 1)
            have HNw := HN
            obtain ⟨ui, hui⟩ : ∃ x, x = 97 + u.getD 1 0 := ⟨_, rfl⟩
            obtain ⟨vi, hvi⟩ : ∃ x, x = 97 + v.getD 0 0 := ⟨_, rfl⟩
            rw [← hui] at hu1
            rw [← hvi] at hv0
            have Huv := Lib.hid (show (vi = ui ↔ u.getD 1 0 = v.getD 0 0) from by rw [hui, hvi]; omega)
            have Hgo := Lib.hid hgo
            have Hcat := Lib.hid hcat
            clear hui hvi hu hv hgo hst hvt HN hve hcat hu0 hv1
            obtain ⟨su, hsu⟩ : ∃ x, x = wordT u := ⟨_, rfl⟩
            obtain ⟨sv, hsv⟩ : ∃ x, x = wordT v := ⟨_, rfl⟩
            rw [← hsu] at gu hus hu1 hs0 HA Hcat
            rw [← hsv] at gv hvs hv0 hex hes hs0 HA Hcat
            clear hsu hsv
            by_cases hq : u.getD 1 0 = v.getD 0 0
            · have t0' : vi = ui := Huv.out.2 hq
              have t1 : ((ui : Int) == (vi : Int)) = true := by rw [t0']; simp
              have HgA := Lib.hid (show goesB F u v = avoM F (su ++ sv.extract 1 2) from by rw [Hgo.out, decide_eq_true hq, Bool.true_and, Hcat.out])
              generalize avoM F (su ++ sv.extract 1 2) = av at HA HgA
              clear t0' Hgo Huv hq Hcat
              cases av with
              | true =>
                have HS2 := Lib.hid (HgT.out HgA.out)
                clear HgT HgF HgA
                go_wp2
                go_quiet ((go_at_call 87; exact HA.out _))
                rename_i nq
                go_wp2
                go_roundg g
                case measure => omega
                case rel => exact ⟨j + 1, by go_num, by omega, by rw [← HS2.out]; exact Lib.hid (New.heap (OTab.kept _ _) Hst.out rfl), Lib.hid ((below_drewN HB.out nq).setCell (p := ⟨sb, j, none⟩) hsb (.int .i64 1))⟩
              | false =>
                have HS2 := Lib.hid (HgF.out HgA.out)
                have HN2 := Lib.hid (show New (OTab 3 61) w2.heap.size wB (.slice (some ⟨b', 0, none⟩) n tc) (tabOf n n (gF F W i (j + 1))) from by rw [← HS2.out]; exact HNw.out)
                clear HgT HgF HgA Hst HNw
                go_wp2
                go_quiet ((go_at_call 87; exact HA.out _))
                rename_i nq
                go_wp2
                go_roundg g
                case measure => omega
                case rel => exact ⟨j + 1, by go_num, by omega, Lib.hid (New.heap (OTab.kept _ _) HN2.out rfl), Lib.hid (below_drewN HB.out nq)⟩
            · have t1 : ((ui : Int) == (vi : Int)) = false := by
                have : ¬ vi = ui := fun h => hq (Huv.out.1 h)
                simp; omega
              have HS2 := Lib.hid (HgF.out (by rw [Hgo.out, decide_eq_false hq, Bool.false_and]))
              have HN2 := Lib.hid (show New (OTab 3 61) w2.heap.size wB (.slice (some ⟨b', 0, none⟩) n tc) (tabOf n n (gF F W i (j + 1))) from by rw [← HS2.out]; exact HNw.out)
              clear HgT HgF Hst HNw Hgo Huv hq Hcat HA
              go_wp2
              go_quiet (fail)
              rename_i nq
              go_wp2
              go_roundg g
              case measure => omega
              case rel => exact ⟨j + 1, by go_num, by omega, Lib.hid (New.heap (OTab.kept _ _) HN2.out rfl), Lib.hid (below_drewN HB.out nq)⟩
          · obtain rfl : j = n := by omega
            have hji : ¬ ((j : Int) < (j : Int)) := by omega
            have HN2 := Lib.hid (show New (OTab 3 61) w2.heap.size wB (.slice (some ⟨tb, 0, none⟩) j tc) (tabOf j j (gF F W (i + 1) 0)) from by rw [← gF_row]; exact HN.out)
            clear HN
            go_wp2
            go_roundg (j - (i + 1))
            case measure => omega
            case rel => exact ⟨i + 1, by go_num, by omega, HN2, HB⟩
      · obtain rfl : i = n := by omega
        have hii : ¬ ((i : Int) < (i : Int)) := by omega
        have HR := Lib.hid (show New (OTab 3 61) w.heap.size wr (.slice (some ⟨tb, 0, none⟩) i tc) V from by rw [HV.out, ← gF_end]; exact HN.out.mono z2)
        have HBf := Lib.hid (HB2.out.trans (HB.out.mono z2))
        clear HN HB
        go_wp2
        go_ret2
        exact ⟨_, by rw [HF.out]; rfl, HR.out, HBf.out⟩
end Go.Proofs.YtcilgihmaaobeaaGreatDoor
end

section
namespace Go.Proofs.YtcilgihmaaobeaaGreatDoor
open Go.RowKit Go.Deep Go.Sd
def OLabG : OwnRel Lb := fun w v x F => ∃ va, v = .agg #[.int .i64 x.1, .int .i64 x.2.1, va] ∧ RowA 68 w va x.2.2 F
theorem OLabG.held : Held OLabG :=
  ⟨fun _ _ _ _ _ ⟨va, e, h⟩ hk => ⟨va, e, RowG.held.keep _ _ _ _ _ h hk⟩, fun _ _ _ _ ⟨_, _, h⟩ b hb => RowG.held.lt _ _ _ _ h b hb⟩
theorem OLabG.lab {w : World} {v : Value} {x : Lb} {F : List Nat} (h : OLabG w v x F) : OLab w v x F := by
  obtain ⟨va, e, h⟩ := h
  exact ⟨va, e, RowG.arcs h⟩
theorem New.labG {lo : Nat} {w : World} {v : Value} {x : Lb} (h : New OLabG lo w v x) : New OLab lo w v x := by
  obtain ⟨F, h, hf⟩ := h
  exact ⟨F, h.lab, hf⟩
theorem New.lab0G {lo : Nat} {w : World} : New OLabG lo w (.agg #[.int .i64 0, .int .i64 0, .slice none 0 0]) (0, 0, []) := by
  obtain ⟨F, h, hf⟩ := (RowG.nil (e := 68) (sz := 3) (f := acell) (w := w) (lo := lo))
  exact ⟨F, ⟨_, rfl, h⟩, hf⟩
theorem OLabG.slice {w : World} {v : Value} {x : Lb} {F : List Nat} (h : OLabG w v x F) : ∃ a c, v = .agg #[.int .i64 x.1, .int .i64 x.2.1, .slice a x.2.2.length c] := by
  obtain ⟨va, rfl, h⟩ := h
  obtain ⟨a, c, rfl⟩ := RowG.slice h
  exact ⟨a, c, rfl⟩
abbrev ResLg (v : Value) (x : Lb) : Res := Res.of OLabG OLabG.held v x
abbrev ResLb (v : Value) (x : Lb) : Res := Res.of OLab OLab.held v x
/-- A row laid at once. -/
theorem New.rowLit {α : Type} {sz : Nat} {f : α → List Value} (L : Lay sz f) (e : TypeId) (w : World) (xs : List α) (cs : Array Value) (hcs : cs = (xs.flatMap f).toArray) (h0 : 0 < xs.length) (hl : xs.length ≤ 1000) : New (RowG e sz f) w.heap.size (w.alloc (.cells cs e)) (.slice (some ⟨w.heap.size, 0, none⟩) xs.length xs.length) xs := by
  have hz := flatMap_len L xs
  subst hcs
  exact ⟨[w.heap.size], ⟨⟨by rw [hz], .inr ⟨w.heap.size, xs.length, _, rfl, Nat.zero_le _, heap_alloc_new w _, Nat.le_refl _, (by unfold maxLen; omega), by simp [hz], List.take_of_length_le (by simp only [hz]; exact Nat.le_refl _)⟩⟩, rfl⟩, by simp [Fresh]⟩
end Go.Proofs.YtcilgihmaaobeaaGreatDoor
end

section
namespace Go.Proofs.YtcilgihmaaobeaaGreatDoor
open Go.RowKit Go.Deep Go.Sd
theorem lofV_eq (z : Sh) : lofV z = if lofOk z = true then (z.1, ((stW z).length : Int), garcs z.2 (stW z) (stW z).length) else (0, 0, []) := by
  by_cases h : lofOk z = true
  · have e := (stW_of h).2
    unfold lofV
    rw [if_pos h, if_pos h, e]
  · unfold lofV
    rw [if_neg h, if_neg h]
theorem garcs_sorted {z : Sh} (h : lofOk z = true) : (garcs z.2 (stW z) (stW z).length).Pairwise fun a b => before b a = false ∧ a ≠ b := by
  obtain ⟨hs, e⟩ := stW_of h
  rw [e]
  have hL := (shiftM_of hs).1
  have h1 := garcs_sort (F := z.2) (states_lex z.2 (L := z.1.toNat) (by omega)) (fun p hp => by
    obtain ⟨a, b, rfl, -, hb⟩ := states_let (by omega) hp
    simp
    omega) (statesM z.2 z.1.toNat).length
  refine List.Pairwise.imp_of_mem (fun {a b} ha hb hab => ?_) h1
  have oa := garcs_ok (by omega) a ha
  have ob := garcs_ok (by omega) b hb
  unfold okArc at oa ob
  unfold akey at hab
  refine ⟨?_, fun e => by subst e; omega⟩
  unfold before
  by_cases e1 : b.1 = a.1
  · rw [if_neg (by simp [e1]), if_pos (by omega)]
    exact decide_eq_false (by omega)
  · rw [if_pos e1]
    exact decide_eq_false (by omega)
theorem garcs_pos {z : Sh} (h : lofOk z = true) : 0 < (garcs z.2 (stW z) (stW z).length).length := by
  obtain ⟨hs, e⟩ := stW_of h
  have hsp := shiftM_of hs
  have hL := hsp.1
  rw [lofOk_eq, decide_eq_true_eq] at h
  rw [e] at h ⊢
  have hp := at_of (W := statesM z.2 z.1.toNat) (i := 0) (by omega)
  obtain ⟨q, hq, hg⟩ := pairs_succ ((states_iff (by omega) (by omega)).1 (List.mem_of_getElem? hp))
  obtain ⟨j, hj, hjl⟩ := idx_of hsp.short (by omega) (by omega) hq
  exact List.length_pos_of_mem (garcs_mem.2 ⟨0, j, by omega, hjl, by rw [getD_of hj]; exact hg, rfl⟩)
theorem garcR_le (F : List ByteArray) (W : List (List Nat)) (i m : Nat) : (garcR F W i m).length ≤ m := by
  unfold garcR
  rw [List.length_map]
  exact Nat.le_trans (List.length_filter_le _ _) (by simp)
theorem garcs_le (F : List ByteArray) (W : List (List Nat)) (h9 : W.length ≤ 9) : ∀ k, (garcs F W k).length ≤ 9 * k
  | 0 => by simp [garcs]
  | k + 1 => by
    have h1 := garcs_le F W h9 k
    have h2 := garcR_le F W k W.length
    rw [garcs_succ, List.length_append]
    omega
theorem lw_i64 {lv : Nat} (h : lv < 3) : IntKind.i64.wrap (IntKind.i64.wrap (97 + (lv : Int)) - 97) = (lv : Int) := by
  rw [IntKind.wrap_i64, IntKind.wrap_i64]; omega
theorem lw_u8 {lv : Nat} (h : lv < 3) : IntKind.u8.wrap (97 + (lv : Int) - 97) = (lv : Int) := by rw [IntKind.wrap_u8]; omega
theorem lw_2 {lv : Nat} (h : lv < 3) : IntKind.i64.wrap (lv : Int) = (lv : Int) := by rw [IntKind.wrap_i64]; omega
theorem lw_3 {lv : Nat} (h : lv < 3) : IntKind.u8.wrap (lv : Int) = (lv : Int) := by rw [IntKind.wrap_u8]; omega
theorem garcR_zero (F : List ByteArray) (W : List (List Nat)) (i : Nat) : garcR F W i 0 = [] := rfl
end Go.Proofs.YtcilgihmaaobeaaGreatDoor
end
