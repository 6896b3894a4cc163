/-
  Texts of this claim joined: laws for its walks, contracts of the functions that the law reaches.
-/
import Derived.Test.YtcilgihmaaobeaaRows
import Derived.Test.YtcilgihmaaobeaaLabelsOfM1
import Derived.Test.YtcilgihmaaobeaaLabelsOfM8
import Derived.Test.YtcilgihmaaobeaaLabelsOfM9
import Derived.Test.YtcilgihmaaobeaaLabelsOfM11
import Derived.Test.YtcilgihmaaobeaaLabelsOfM6
import Derived.IntWalk
import Derived.BigQuiet
import Derived.Test.YtcilgihmaaobeaaLabelsOfM3
import Derived.Laws.OwnMore
import Derived.Test.YtcilgihmaaobeaaLabelsOfM4
import Derived.Test.YtcilgihmaaobeaaLabelsOfM2
import Derived.Test.YtcilgihmaaobeaaLabelsOfM10
import Derived.Test.YtcilgihmaaobeaaLabelsOfM7
import Derived.Deep.RegionHeld3
import Derived.Deep.DeepCutAuto
section
/-
  The graph of a shift: the model, and the reference's GraphOf.
-/
namespace Go.Proofs.Ytcilgihmaaobeaa
open Go.RowKit Go.Deep Go.Sd
set_option linter.unusedSimpArgs false
/-- The states of a shift; none of what is no shift. -/
noncomputable def stW (z : Sh) : List (List Nat) := if shiftM z = true then statesM z.2 z.1.toNat else []
theorem stW_two {z : Sh} {v : List Nat} (h : v ∈ stW z) : Two v := by
  unfold stW at h
  by_cases e : shiftM z = true
  · rw [if_pos e] at h
    have := (shiftM_of e).1
    obtain ⟨a, b, rfl, ha, hb⟩ := states_let (by omega) h
    exact ⟨a, b, rfl, by omega, by omega⟩
  · rw [if_neg e] at h; cases h
theorem stW_len (z : Sh) : (stW z).length ≤ 9 := by
  unfold stW
  by_cases e : shiftM z = true
  · rw [if_pos e]
    have := (shiftM_of e).1
    exact states_len _ (by omega) (by omega)
  · rw [if_neg e]; simp
theorem lofOk_eq (z : Sh) : lofOk z = decide ((stW z).length ≠ 0) := by
  unfold lofOk stW
  by_cases e : shiftM z = true
  · rw [if_pos e, e, Bool.true_and]
  · rw [if_neg e]
    rw [show shiftM z = false by simpa using e]
    rfl
theorem stW_of {z : Sh} (h : lofOk z = true) : shiftM z = true ∧ stW z = statesM z.2 z.1.toNat := by
  unfold lofOk at h
  rw [Bool.and_eq_true] at h
  exact ⟨h.1, by unfold stW; rw [if_pos h.1]⟩
theorem lan2 (z : Sh) : lanM z 2 = (stW z).map wordT := by
  unfold lanM stW
  by_cases e : shiftM z = true
  · rw [if_pos (by rw [e]; decide), if_pos e]
    have hL := (shiftM_of e).1
    congr 1
    refine List.filter_congr fun wd hw => ?_
    obtain ⟨h1, h2⟩ := allW_mem (by omega) hw
    have h1 : wd.length = 2 := h1
    have hsz : (wordT wd).size = 2 := by rw [wordT_size, h1]
    have hex : (wordT wd).extract 0 2 = wordT wd := by
      apply ByteArray.ext
      apply Array.toList_inj.1
      rw [extract_list, bl_data]
      unfold bl
      rw [List.drop_zero, List.take_of_length_le (by simp [h1])]
    unfold inM
    rw [if_pos (by omega), hsz, hex, Bool.and_self]
    cases hb : hasB ((pairsM z.2 z.1.toNat).map wordT) (wordT wd) with
    | false => simp
    | true =>
      have : ((pairsM z.2 z.1.toNat).map wordT).length ≠ 0 := by
        intro h0
        rw [List.length_eq_zero_iff] at h0
        rw [h0] at hb
        cases hb
      rw [decide_eq_true this]
      simp
  · rw [if_neg (by simp [show shiftM z = false by simpa using e]), if_neg e]
    rfl
def gent (F : List ByteArray) (W : List (List Nat)) (a b : Nat) : Int := if goesB F (W.getD a []) (W.getD b []) = true then 1 else 0
/-- What is filled up to row i, column j. -/
def gF (F : List ByteArray) (W : List (List Nat)) (i j a b : Nat) : Int := if a < i ∨ (a = i ∧ b < j) then gent F W a b else 0
theorem gF_start (F : List ByteArray) (W : List (List Nat)) (n : Nat) : List.replicate n (List.replicate n 0) = tabOf n n (gF F W 0 0) := by
  rw [← tabOf_const]
  exact tabOf_congr fun a _ b _ => by unfold gF; rw [if_neg (by omega)]
theorem gF_end (F : List ByteArray) (W : List (List Nat)) (n : Nat) : tabOf n n (gF F W n 0) = tabOf n n (gent F W) :=
  tabOf_congr fun a ha b _ => by unfold gF; rw [if_pos (by omega)]
theorem gF_row (F : List ByteArray) (W : List (List Nat)) (n i : Nat) : tabOf n n (gF F W i n) = tabOf n n (gF F W (i + 1) 0) :=
  tabOf_congr fun a _ b hb => by
    unfold gF
    by_cases e : a < i ∨ (a = i ∧ b < n)
    · rw [if_pos e, if_pos (by omega)]
    · rw [if_neg e, if_neg (by omega)]
theorem gF_skip {F : List ByteArray} {W : List (List Nat)} {n i j : Nat} (h : goesB F (W.getD i []) (W.getD j []) = false) : tabOf n n (gF F W i j) = tabOf n n (gF F W i (j + 1)) :=
  tabOf_congr fun a _ b _ => by
    unfold gF
    by_cases e : a < i ∨ (a = i ∧ b < j)
    · rw [if_pos e, if_pos (by omega)]
    · rw [if_neg e]
      by_cases e2 : a = i ∧ b = j
      · rw [if_pos (by omega), e2.1, e2.2]
        unfold gent
        rw [h]
        rfl
      · rw [if_neg (by omega)]
theorem gF_take {F : List ByteArray} {W : List (List Nat)} {n i j : Nat} (h : goesB F (W.getD i []) (W.getD j []) = true) : (tabOf n n (gF F W i j)).set i ((rowOf' n (gF F W i j i)).set j 1) = tabOf n n (gF F W i (j + 1)) := by
  rw [tabOf_set2]
  refine tabOf_congr fun a _ b _ => ?_
  by_cases e2 : a = i ∧ b = j
  · rw [if_pos e2]
    unfold gF
    rw [if_pos (by omega), e2.1, e2.2]
    unfold gent
    rw [if_pos h]
  · rw [if_neg e2]
    unfold gF
    by_cases e : a < i ∨ (a = i ∧ b < j)
    · rw [if_pos e, if_pos (by omega)]
    · rw [if_neg e, if_neg (by omega)]
noncomputable def gmV (z : Sh) : List (List Int) := tabOf (stW z).length (stW z).length (gent z.2 (stW z))
set_option maxHeartbeats 4000000 in
set_option maxRecDepth 100000 in
theorem spec_GraphOf_c {w : World} {vs : Value} {z : Sh} (hz : ShR w vs z) (hf : ∀ f, f ∈ z.2 → f.size ≤ 1048576) :
    Calls Try.prog 63 #[vs] w (Makes2 (OTab 3 54) w (gmV z) (lofOk z)) := by
  have HV := Lib.hid (show gmV z = tabOf (stW z).length (stW z).length (gent z.2 (stW z)) from rfl)
  have HO := Lib.hid (lofOk_eq z)
  have HSt := Lib.hid (fun w1 (hb : Below w.heap.size w w1) => spec_StatesOf_c (ShR.frame _ _ _ _ hz hb) hf)
  have HTw := Lib.hid (fun v (h : v ∈ stW z) => stW_two h)
  have h9 := stW_len z
  rw [lan2 z] at HSt
  generalize gmV z = V at HV ⊢
  generalize lofOk z = ok at HO ⊢
  generalize stW z = W at HV HO HSt HTw h9
  obtain ⟨L, F⟩ := z
  obtain ⟨va, rfl, ht⟩ := hz
  simp only at ht hf HSt HV
  obtain ⟨w0, e0, hb0, c0, c1, m0⟩ := boxA_ex w 44 (.int .i64 L) va
  have HFr := Lib.hid (TsR.frame _ _ _ _ ht hb0)
  obtain ⟨va1, va2, rfl, -⟩ := HFr.out.shape
  generalize hfl : F.length = fl at c1 e0 HFr HSt ⊢
  have Hf := Lib.hid hf
  have HB0 := Lib.hid hb0
  have Hfl := Lib.hid hfl
  clear hfl hf ht hb0
  obtain ⟨n, hn⟩ : ∃ n, n = W.length := ⟨_, rfl⟩
  have Hn := Lib.hid hn
  rw [← hn] at HV HO h9
  go_enter Try.func63, Try.ntmps63
  go_wp2_with fail
  (with_reducible refine (HSt.out _ HB0.out).mono ?_)
  rintro e w2 ⟨sv, rfl, hn2, hb2⟩
  have hs2 := Sep.one (OwnOf.kept OStr.kept).held hn2
  obtain ⟨sa, sc, es, hq⟩ := hs2.strsAt
  subst es
  rw [List.length_map, ← hn] at hq ⊢
  have c0 := (hb2.cell (p := ⟨w.heap.size, 0, none⟩) m0).trans c0
  have c1 := (hb2.cell (p := ⟨w.heap.size, 1, none⟩) m0).trans c1
  have m2 : w.heap.size < w2.heap.size := Nat.lt_of_lt_of_le m0 hb2.size
  have HB2 := Lib.hid (HB0.out.trans (hb2.mono HB0.out.size))
  have HFr2 := Lib.hid (TsR.frame _ _ _ _ HFr.out hb2)
  have z2 : w.heap.size ≤ w2.heap.size := Nat.le_of_lt m2
  clear hb2 hn2 hs2 HSt hn HFr HB0 e0 m0
  by_cases hn0 : n = 0
  · have HR := Lib.hid (show V = [] from by rw [HV.out, hn0]; rfl)
    have HF := Lib.hid (show ok = false from by rw [HO.out, hn0]; rfl)
    have t0 : ((n : Int) == 0) = true := by rw [hn0]; rfl
    have HN := Lib.hid (show New (OTab 3 54) w.heap.size (w2.alloc (.cells #[] 54)) _ [] from New.empty (e := 54) (R := OInts 3) w2 z2)
    have HBz := Lib.hid (HB2.out.alloc z2 (.cells #[] 54))
    clear hq HV HO
    go_wp2
    go_ret2
    exact ⟨_, by rw [HF.out]; rfl, by rw [HR.out]; exact HN.out, HBz.out⟩
  · have t0 : ((n : Int) == 0) = false := by simp; omega
    have HF := Lib.hid (show ok = true from by rw [HO.out, decide_eq_true hn0])
    obtain ⟨b, e1, hb, hc⟩ := hq (by omega)
    subst e1
    have Hc := Lib.hid hc
    have Hz := Lib.hid (fun w1 => l4Zero_c (w := w1) (p := n) (r := n) (by omega) (by omega))
    have hni : ¬ (n : Int) = 0 := by omega
    clear hq HO hc
    go_wp2_with fail
    (with_reducible refine (Hz.out _).mono ?_)
    rintro e w3 ⟨tv, rfl, hn3, hb3⟩
    obtain ⟨tb, tc, _, _, et, _, htb, htb2, _⟩ := hn3.tab_at (i := 0) (j := 0) ((Sq.zeros n).row (by omega)).1 ((Sq.zeros n).entry (by omega) (by omega))
    subst et
    rw [(Sq.zeros n).1] at hn3 ⊢
    rw [gF_start F W n] at hn3
    have HN3 := Lib.hid hn3
    have HB3 := Lib.hid hb3
    clear hn3 hb3 Hz htb2
    go_wp2
    go_loopg [6] n (fun g i wr => ∃ (k : Nat), i = .int .i64 k ∧ k + g = n ∧ Hid (New (OTab 3 54) w2.heap.size wr (.slice (some ⟨tb, 0, none⟩) n tc) (tabOf n n (gF F W k 0))) ∧ Hid (Below w2.heap.size w2 wr))
    case atStart => exact ⟨0, rfl, by omega, HN3, HB3⟩
    case round =>
      clear HN3 HB3
      obtain ⟨i, rfl, hi, HN, HB⟩ := hrel
      by_cases hlt : i < n
      · have hii : (i : Int) < (n : Int) := by omega
        go_wp2
        go_loopg [7] n (fun g j wr => ∃ (k : Nat), j = .int .i64 k ∧ k + g = n ∧ Hid (New (OTab 3 54) w2.heap.size wr (.slice (some ⟨tb, 0, none⟩) n tc) (tabOf n n (gF F W i k))) ∧ Hid (Below w2.heap.size w2 wr))
        case atStart => exact ⟨0, rfl, by omega, HN, HB⟩
        case round =>
          clear HN HB
          obtain ⟨j, rfl, hj, HN, HB⟩ := hrel
          obtain ⟨wB, rfl⟩ : ∃ x, x = wr := ⟨_, rfl⟩
          by_cases hltj : j < n
          · have hji : (j : Int) < (n : Int) := by omega
            obtain ⟨g, rfl⟩ : ∃ x, gk = x + 1 := ⟨gk - 1, by omega⟩
            obtain ⟨u, hu, _⟩ := at_lt (xs := W) (k := i) (by rw [← Hn.out]; exact hlt)
            obtain ⟨v, hv, _⟩ := at_lt (xs := W) (k := j) (by rw [← Hn.out]; exact hltj)
            have gu := Hc.out i (wordT u) (by rw [List.getElem?_map, hu]; rfl)
            have gv := Hc.out j (wordT v) (by rw [List.getElem?_map, hv]; rfl)
            have gu := (HB.out.cell (p := ⟨b, i, none⟩) hb).trans gu
            have gv := (HB.out.cell (p := ⟨b, j, none⟩) hb).trans gv
            have k0 := (HB.out.cell (p := ⟨w.heap.size, 0, none⟩) m2).trans c0
            have k1 := (HB.out.cell (p := ⟨w.heap.size, 1, none⟩) m2).trans c1
            obtain ⟨hus, hu0, hu1, -, -⟩ := (HTw.out u (List.mem_of_getElem? hu)).facts
            obtain ⟨hvs, hv0, hv1, hve, -⟩ := (HTw.out v (List.mem_of_getElem? hv)).facts
            have HgT := Lib.hid (fun (h : goesB F u v = true) => gF_take (n := n) (F := F) (W := W) (i := i) (j := j) (by rw [getD_of hu, getD_of hv]; exact h))
            have HgF := Lib.hid (fun (h : goesB F u v = false) => gF_skip (n := n) (F := F) (W := W) (i := i) (j := j) (by rw [getD_of hu, getD_of hv]; exact h))
            have hgo : goesB F u v = (decide (u.getD 1 0 = v.getD 0 0) && avoM F (wordT (u ++ v.drop 1))) := rfl
            have hex : (wordT v).extract 1 (wordT v).size = (wordT v).extract 1 2 := by rw [hvs]
            have hes : ((wordT v).extract 1 2).size = 1 := by rw [ByteArray.size_extract, hvs]; rfl
            have hs0 : ¬ (wordT u).size + ((wordT v).extract 1 2).size > 9223372036854775807 := two_add' hus hes
            have hcat : wordT u ++ (wordT v).extract 1 2 = wordT (u ++ v.drop 1) := by rw [hve, wordT_append]
            have HA := Lib.hid (fun m => Reads.quiet (avo_q (s := wordT u ++ (wordT v).extract 1 2) ((TsR.frame _ _ _ _ HFr2.out HB.out).dn' m) (by rw [ByteArray.size_append, hes, hus]; omega) Hf.out))
            rw [hcat] at HA
            rw [← hcat] at HA
            obtain ⟨b', c'', sb, sc', hvt, _, _, _, hcl1, _, hsb, hsb2, hcl2, hfr, hst⟩ := HN.out.tab_at (tabOf_at hlt) (rowOf_at hltj)
            obtain rfl : b' = tb := by simp at hvt; exact hvt.1.symm
            rw [rowOf_len] at hcl1
            have Hst := Lib.hid (hst 1)
            have HNw := HN
            obtain ⟨ui, hui⟩ : ∃ x, x = 97 + u.getD 1 0 := ⟨_, rfl⟩
            obtain ⟨vi, hvi⟩ : ∃ x, x = 97 + v.getD 0 0 := ⟨_, rfl⟩
            rw [← hui] at hu1
            rw [← hvi] at hv0
            have Huv := Lib.hid (show (vi = ui ↔ u.getD 1 0 = v.getD 0 0) from by rw [hui, hvi]; omega)
            have Hgo := Lib.hid hgo
            have Hcat := Lib.hid hcat
            clear hui hvi hu hv hgo hst hvt HN hve hcat hu0 hv1
            obtain ⟨su, hsu⟩ : ∃ x, x = wordT u := ⟨_, rfl⟩
            obtain ⟨sv, hsv⟩ : ∃ x, x = wordT v := ⟨_, rfl⟩
            rw [← hsu] at gu hus hu1 hs0 HA Hcat
            rw [← hsv] at gv hvs hv0 hex hes hs0 HA Hcat
            clear hsu hsv
            by_cases hq : u.getD 1 0 = v.getD 0 0
            · have t0' : vi = ui := Huv.out.2 hq
              have t1 : ((ui : Int) == (vi : Int)) = true := by rw [t0']; simp
              have HgA := Lib.hid (show goesB F u v = avoM F (su ++ sv.extract 1 2) from by rw [Hgo.out, decide_eq_true hq, Bool.true_and, Hcat.out])
              generalize avoM F (su ++ sv.extract 1 2) = av at HA HgA
              clear t0' Hgo Huv hq Hcat
              cases av with
              | true =>
                have HS2 := Lib.hid (HgT.out HgA.out)
                clear HgT HgF HgA
                go_wp2
                go_quiet ((go_at_call 88; exact HA.out _))
                rename_i nq
                go_wp2
                go_roundg g
                case measure => omega
                case rel => exact ⟨j + 1, by go_num, by omega, by rw [← HS2.out]; exact Lib.hid (New.heap (OTab.kept _ _) Hst.out rfl), Lib.hid ((below_drewN HB.out nq).setCell (p := ⟨sb, j, none⟩) hsb (.int .i64 1))⟩
              | false =>
                have HS2 := Lib.hid (HgF.out HgA.out)
                have HN2 := Lib.hid (show New (OTab 3 54) w2.heap.size wB (.slice (some ⟨b', 0, none⟩) n tc) (tabOf n n (gF F W i (j + 1))) from by rw [← HS2.out]; exact HNw.out)
                clear HgT HgF HgA Hst HNw
                go_wp2
                go_quiet ((go_at_call 88; exact HA.out _))
                rename_i nq
                go_wp2
                go_roundg g
                case measure => omega
                case rel => exact ⟨j + 1, by go_num, by omega, Lib.hid (New.heap (OTab.kept _ _) HN2.out rfl), Lib.hid (below_drewN HB.out nq)⟩
            · have t1 : ((ui : Int) == (vi : Int)) = false := by
                have : ¬ vi = ui := fun h => hq (Huv.out.1 h)
                simp; omega
              have HS2 := Lib.hid (HgF.out (by rw [Hgo.out, decide_eq_false hq, Bool.false_and]))
              have HN2 := Lib.hid (show New (OTab 3 54) w2.heap.size wB (.slice (some ⟨b', 0, none⟩) n tc) (tabOf n n (gF F W i (j + 1))) from by rw [← HS2.out]; exact HNw.out)
              clear HgT HgF Hst HNw Hgo Huv hq Hcat HA
              go_wp2
              go_quiet (fail)
              rename_i nq
              go_wp2
              go_roundg g
              case measure => omega
              case rel => exact ⟨j + 1, by go_num, by omega, Lib.hid (New.heap (OTab.kept _ _) HN2.out rfl), Lib.hid (below_drewN HB.out nq)⟩
          · obtain rfl : j = n := by omega
            have hji : ¬ ((j : Int) < (j : Int)) := by omega
            have HN2 := Lib.hid (show New (OTab 3 54) w2.heap.size wB (.slice (some ⟨tb, 0, none⟩) j tc) (tabOf j j (gF F W (i + 1) 0)) from by rw [← gF_row]; exact HN.out)
            clear HN
            go_wp2
            go_roundg (j - (i + 1))
            case measure => omega
            case rel => exact ⟨i + 1, by go_num, by omega, HN2, HB⟩
      · obtain rfl : i = n := by omega
        have hii : ¬ ((i : Int) < (i : Int)) := by omega
        have HR := Lib.hid (show New (OTab 3 54) w.heap.size wr (.slice (some ⟨tb, 0, none⟩) i tc) V from by rw [HV.out, ← gF_end]; exact HN.out.mono z2)
        have HBf := Lib.hid (HB2.out.trans (HB.out.mono z2))
        clear HN HB
        go_wp2
        go_ret2
        exact ⟨_, by rw [HF.out]; rfl, HR.out, HBf.out⟩
end Go.Proofs.Ytcilgihmaaobeaa
end

section
/-
  Own slices of elements of several cells: their beginnings, and what is appended to them at once.
-/
namespace Go.Sd
open Go.RowKit Go.Deep
section
variable {P : Program} {α : Type} {lo sz : Nat} {f : α → List Value} {w : World} {v : Value} {e : TypeId} {rs : List Res}
theorem flatMap_take (L : Lay sz f) : ∀ (xs : List α) (k : Nat), k ≤ xs.length → (xs.take k).flatMap f = (xs.flatMap f).take (k * sz)
  | [], k, h => by simp
  | x :: xs, 0, _ => by simp
  | x :: xs, k + 1, h => by
    have ih := flatMap_take L xs k (by simpa using h)
    have e : (k + 1) * sz = (f x).length + k * sz := by rw [L.len, Nat.add_mul]; omega
    rw [List.take_succ_cons, List.flatMap_cons, List.flatMap_cons, ih, e, List.take_length_add_append]
/-- A slice of such elements that is only read. -/
def RowRd (f : α → List Value) (w : World) (v : Value) (ys : List α) : Prop := ∃ a c, v = .slice a ys.length c ∧ (a = none → ys.length = 0 ∧ c = 0) ∧ ∀ ad, a = some ad → ∀ j u, (ys.flatMap f)[j]? = some u → w.cell? (ad.add j) = some u
theorem Sep.preRow (L : Lay sz f) {b n c : Nat} {xs : List α} (h : Sep lo w (Res.row e sz f (.slice (some ⟨b, 0, none⟩) n c) xs :: rs)) {k : Nat} (hk : k ≤ xs.length) : Sep lo w (Res.row e sz f (.slice (some ⟨b, 0, none⟩) k c) (xs.take k) :: rs) := by
  obtain ⟨F, ⟨G, H, rfl, ⟨h1, hG⟩, h2⟩, hn, hl⟩ := h
  obtain ⟨hul, hor⟩ := h1
  refine ⟨G ++ H, ⟨G, H, rfl, ⟨⟨?_, ?_⟩, hG⟩, h2⟩, hn, hl⟩
  · rw [flatMap_len L]
  · rcases hor with ⟨h0, _⟩ | ⟨g, cap, cur, hv, hg, hh, hnc, hcm, hcs, htake⟩
    · cases h0
    · simp only [Value.slice.injEq, Option.some.injEq, Addr.mk.injEq] at hv
      obtain ⟨⟨rfl, -, -⟩, rfl, rfl⟩ := hv
      refine .inr ⟨b, c, cur, by simp; omega, hg, hh, by simp; omega, hcm, hcs, ?_⟩
      rw [flatMap_take L xs k hk, ← htake, List.take_take, List.length_take]
      congr 1
      rw [Nat.min_eq_left hk]
      have := Nat.mul_le_mul_right sz hk
      omega
/-- append of a slice to the first of some own things. -/
theorem Sep.pushRow (L : Lay sz f) (t ty : TypeId) (z : Value) (bytes : Nat) (ht : P.underlying t = some (.slice e)) (hinfo : (P.info? e).map (fun i => (i.zero, i.size, i.bytes)) = some (some z, sz, bytes)) (hz1 : z.cells.size = sz)
    {xs ys : List α} (h : Sep lo w (Res.row e sz f v xs :: rs)) (hlo : lo ≤ w.heap.size) {v2 : Value} (h2 : RowRd f w v2 ys) (hbytes : (xs.length + ys.length) * bytes ≤ 140737488355328) (h63 : xs.length + ys.length ≤ 9223372036854775807) :
    ∃ v' w', (Builtin.append_ #[t, t] ty #[v, v2]).run P w = .ok v' w' ∧ Sep lo w' (Res.row e sz f v' (xs ++ ys) :: rs) ∧ Below lo w w' := by
  obtain ⟨i, hi, hzz⟩ := Option.map_eq_some_iff.1 hinfo
  simp only [Prod.mk.injEq] at hzz
  obtain ⟨hz, hsz, hby⟩ := hzz
  have h0 := h
  obtain ⟨G, hG, hf, hK⟩ := h.head
  have hG1 : RowG e sz f w v xs G := hG
  obtain ⟨how, eG⟩ := hG1
  obtain ⟨a, c, rfl, hnil, hc⟩ := h2
  cases a with
  | none =>
    obtain ⟨hy, rfl⟩ := hnil rfl
    rw [List.length_eq_zero_iff] at hy
    subst hy
    refine ⟨v, w, run_append_owned_none (P := P) w 0 t ty e i sz ht hi v _ _ how, by rw [List.append_nil]; exact h0, Below.refl _ _⟩
  | some ad =>
    obtain ⟨v', w', hrun, how', hg, _, hat⟩ := run_append_own_at (P := P) w 0 t ty e i z sz bytes ht hi hz hsz hby hz1 L.pos v xs.length (xs.flatMap f) how ad ys.length c (ys.flatMap f) (flatMap_len L ys) (hc ad rfl)
      (fun u hu => by
        obtain ⟨y, _, hy⟩ := List.mem_flatMap.1 hu
        exact L.one y u hy) h63 hbytes (Nat.zero_le _)
    refine ⟨v', w', hrun, hK w' (Res.row e sz f v' (xs ++ ys)) v'.ownBlock.toList ⟨by simpa using how', rfl⟩ (by cases v'.ownBlock <;> simp) (fun b hb2 => ?_) hlo fun b hlt hn => ?_, (Below.refl lo w).grown hg (by omega) fun k hk => hf.2 k (by rw [eG]; simp [hk])⟩
    · simp at hb2
      rcases hat with hat | hat
      · rw [hat] at hb2; exact Or.inl (by rw [eG]; simp [hb2])
      · rw [hat] at hb2; simp at hb2; exact Or.inr (by omega)
    · refine hg.block b hlt fun e2 => hn ?_
      rw [eG]; simp [← e2]
theorem RowRd.frame {w' : World} {ys : List α} (h : RowRd f w v ys) (hb : Below w.heap.size w w') (hlt : ∀ ad n c, v = .slice (some ad) n c → ad.block < w.heap.size) : RowRd f w' v ys := by
  obtain ⟨a, c, rfl, h1, h2⟩ := h
  refine ⟨a, c, rfl, h1, fun ad e j u hu => ?_⟩
  have := h2 ad e j u hu
  have hbk : (ad.add j).block = ad.block := by unfold Addr.add; split <;> rfl
  exact (hb.cell (p := ad.add j) (by rw [hbk]; exact hlt ad _ _ (by rw [e]))).trans this
theorem flatMap_drop (L : Lay sz f) : ∀ (xs : List α) (k : Nat), k ≤ xs.length → (xs.drop k).flatMap f = (xs.flatMap f).drop (k * sz)
  | [], k, h => by simp
  | x :: xs, 0, _ => by simp
  | x :: xs, k + 1, h => by
    have ih := flatMap_drop L xs k (by simpa using h)
    have e : (k + 1) * sz = (f x).length + k * sz := by rw [L.len, Nat.add_mul]; omega
    rw [List.drop_succ_cons, ih, List.flatMap_cons, e, List.drop_length_add_append]
theorem flatMap_get (L : Lay sz f) {xs : List α} {j : Nat} {u : Value} (h : (xs.flatMap f)[j]? = some u) : ∃ i r x, j = i * sz + r ∧ xs[i]? = some x ∧ (f x)[r]? = some u := by
  have hp := L.pos
  have hj := (List.getElem?_eq_some_iff.1 h).1
  rw [flatMap_len L] at hj
  have hi : j / sz < xs.length := Nat.div_lt_of_lt_mul (by rw [Nat.mul_comm]; exact hj)
  obtain ⟨x, hx, _⟩ := at_lt hi
  have hr : j % sz < (f x).length := by rw [L.len]; exact Nat.mod_lt _ hp
  have e1 : j / sz * sz + j % sz = j := by rw [Nat.mul_comm]; exact Nat.div_add_mod j sz
  refine ⟨j / sz, j % sz, x, e1.symm, hx, ?_⟩
  have h2 := flatMap_at L hx (List.getElem?_eq_getElem hr)
  rw [e1, h] at h2
  rw [List.getElem?_eq_getElem hr]
  exact h2.symm
/-- The end of an own slice, read. -/
theorem Sep.dropRd (L : Lay sz f) {b n c : Nat} {xs : List α} (h : Sep lo w (Res.row e sz f (.slice (some ⟨b, 0, none⟩) n c) xs :: rs)) {k : Nat} (hk : k ≤ xs.length) (c' : Nat) : RowRd f w (.slice (some ⟨b, k * sz, none⟩) (xs.length - k) c') (xs.drop k) := by
  refine ⟨some ⟨b, k * sz, none⟩, c', by rw [List.length_drop], (fun h => by cases h), fun ad e j u hu => ?_⟩
  cases e
  rw [flatMap_drop L xs k hk, List.getElem?_drop] at hu
  obtain ⟨i, r, x, hj, hx, hr⟩ := flatMap_get L hu
  have h0 : 0 < xs.length := by have := (List.getElem?_eq_some_iff.1 hx).1; omega
  obtain ⟨a', c2, hv, hq⟩ := h.rowAt L
  obtain ⟨b', e', _, _, hcell⟩ := hq h0
  subst e'
  simp at hv
  obtain ⟨rfl, -, -⟩ := hv
  have := hcell i x r u hx hr
  have e2 : (⟨b, k * sz, none⟩ : Addr).add j = ⟨b, i * sz + r, none⟩ := by
    unfold Addr.add
    simp [hj]
    intro h0
    omega
  rw [e2]
  exact this
/-- An own slice, read. -/
theorem Sep.rowRd (L : Lay sz f) {xs : List α} (h : Sep lo w (Res.row e sz f v xs :: rs)) : RowRd f w v xs ∧ ∀ ad n c, v = .slice (some ad) n c → ad.block < w.heap.size := by
  obtain ⟨G, hG, -, -⟩ := h.head
  have hG1 : RowG e sz f w v xs G := hG
  rcases hG1.1.2 with ⟨rfl, h0⟩ | ⟨g, cap, cur, rfl, _, hg, _, _, _, _⟩
  · refine ⟨⟨none, 0, by rw [h0], fun _ => ⟨h0, rfl⟩, fun ad e => by cases e⟩, fun ad n c e => by cases e⟩
  · refine ⟨⟨_, _, rfl, (fun h => by cases h), fun ad e j u hu => ?_⟩, fun ad n c e => ?_⟩
    · cases e
      exact hG1.1.cells (g := g) rfl _ _ hu
    · simp at e
      rw [← e.1]
      exact (hG1.1.lt g rfl).2
end
end Go.Sd
end

section
/-
  Arcs put in order: the reference's l14Sort.
-/
namespace Go.Proofs.Ytcilgihmaaobeaa
open Go.RowKit Go.Deep Go.Sd
set_option linter.unusedSimpArgs false
/-- Where an arc belongs among the first m of some. -/
def posA (x : Arc3) (out : List Arc3) : Nat → Nat
  | 0 => 0
  | m + 1 => if before x (at3 out m) = true then posA x out m else m + 1
def insA (out : List Arc3) (x : Arc3) : List Arc3 :=
  if 0 < posA x out out.length ∧ at3 out (posA x out out.length - 1) = x then out else out.take (posA x out out.length) ++ [x] ++ out.drop (posA x out out.length)
def sortM (xs : List Arc3) : List Arc3 := xs.foldl insA []
theorem posA_le (x : Arc3) (out : List Arc3) : ∀ m, posA x out m ≤ m
  | 0 => Nat.le_refl _
  | m + 1 => by
    unfold posA
    split
    · exact Nat.le_succ_of_le (posA_le x out m)
    · exact Nat.le_refl _
theorem insA_len (out : List Arc3) (x : Arc3) : (insA out x).length ≤ out.length + 1 := by
  have := posA_le x out out.length
  unfold insA
  split
  · omega
  · simp
    omega
theorem sortM_len (xs : List Arc3) : (sortM xs).length ≤ xs.length := by
  have key : ∀ (xs out : List Arc3), (xs.foldl insA out).length ≤ out.length + xs.length := by
    intro xs
    induction xs with
    | nil => intro out; simp
    | cons x xs ih =>
      intro out
      have h1 := ih (insA out x)
      have h2 := insA_len out x
      simp only [List.foldl_cons, List.length_cons]
      omega
  have := key xs []
  simpa [sortM] using this
theorem sortM_take {xs : List Arc3} {k : Nat} {x : Arc3} (h : xs[k]? = some x) : sortM (xs.take (k + 1)) = insA (sortM (xs.take k)) x := by
  unfold sortM
  rw [← take_snoc' h, List.foldl_append]
  rfl
/-- What is in order already stays. -/
theorem sortM_id : ∀ (n : Nat) {xs : List Arc3}, xs.length = n → (xs.Pairwise fun a b => before b a = false ∧ a ≠ b) → sortM xs = xs
  | 0, xs, h, _ => by rw [List.length_eq_zero_iff] at h; subst h; rfl
  | n + 1, xs, h, hs => by
    rcases List.eq_nil_or_concat xs with e | ⟨u, x, e⟩
    · subst e; cases h
    · rw [List.concat_eq_append] at e
      subst e
      rw [List.pairwise_append] at hs
      have ih := sortM_id n (by simpa using h) hs.1
      unfold sortM at ih ⊢
      rw [List.foldl_append, ih]
      show insA u x = u ++ [x]
      have hp : posA x u u.length = u.length := by
        cases hu : u.length with
        | zero => rfl
        | succ m =>
          unfold posA
          have hm : m < u.length := by omega
          rw [at3_of (List.getElem?_eq_getElem hm), if_neg (by rw [(hs.2.2 _ (List.getElem_mem hm) x (by simp)).1]; decide)]
      unfold insA
      rw [hp, if_neg]
      · simp
      · rintro ⟨h0, h1⟩
        have hm : u.length - 1 < u.length := by omega
        rw [at3_of (List.getElem?_eq_getElem hm)] at h1
        exact (hs.2.2 _ (List.getElem_mem hm) x (by simp)).2 h1
theorem New.emptyRow {α : Type} {sz : Nat} {f : α → List Value} (e : TypeId) (w : World) : New (RowG e sz f) w.heap.size (w.alloc (.cells #[] e)) (.slice (some ⟨w.heap.size, 0, none⟩) 0 0) [] :=
  ⟨[w.heap.size], ⟨⟨by simp, .inr ⟨w.heap.size, 0, #[], rfl, Nat.zero_le _, heap_alloc_new w _, Nat.le_refl _, by decide, by simp, by simp⟩⟩, rfl⟩, by simp [Fresh]⟩
/-- The end of a slice of arcs. -/
theorem tail_slice {b m c p : Nat} (hp : p ≤ m) (w : World) : (Instr.slice 24 (.slice (some ⟨b, 0, none⟩) m c) (some (.int .i64 (p : Int))) none none).run Try.prog w = .ok (.slice (some (if c = p then ⟨b, 0, none⟩ else ⟨b, p * 3, none⟩)) (m - p) (c - p)) w := by
  have h0 : (0 : Int) ≤ (p : Int) := by omega
  have h1 : (p : Int) ≤ (m : Int) := by omega
  by_cases e : c = p
  · rw [if_pos e]
    simp [go_sem, h0, h1, e]
  · rw [if_neg e]
    simp [go_sem, h0, h1, e]
theorem head_slice {b m c p : Nat} (hp : p ≤ c) (w : World) : (Instr.slice 24 (.slice (some ⟨b, 0, none⟩) m c) none (some (.int .i64 (p : Int))) none).run Try.prog w = .ok (.slice (some ⟨b, 0, none⟩) p c) w := by
  have h0 : (0 : Int) ≤ (p : Int) := by omega
  have h1 : (p : Int) ≤ (c : Int) := by omega
  by_cases e : c = 0
  · subst e
    obtain rfl : p = 0 := by omega
    simp [go_sem]
  · simp [go_sem, h0, h1, e]
theorem row_cap {lo : Nat} {w : World} {b m c : Nat} {xs : List Arc3} {rs : List Res} (h : Sep lo w (Res.row 59 3 acell (.slice (some ⟨b, 0, none⟩) m c) xs :: rs)) : xs.length ≤ c := by
  by_cases h0 : 0 < xs.length
  · obtain ⟨G, hG, -, -⟩ := h.head
    obtain ⟨g, c', hv, -, hc, -⟩ := RowG.at acell_lay hG h0
    simp at hv
    omega
  · omega
theorem tail_rd {lo : Nat} {w : World} {b m c p : Nat} {xs : List Arc3} {rs : List Res} (h : Sep lo w (Res.row 59 3 acell (.slice (some ⟨b, 0, none⟩) m c) xs :: rs)) (hm : xs.length = m) (hp : p ≤ m) : RowRd acell w (.slice (some (if c = p then ⟨b, 0, none⟩ else ⟨b, p * 3, none⟩)) (m - p) (c - p)) (xs.drop p) := by
  subst hm
  by_cases e : c = p
  · rw [if_pos e]
    have hmc : xs.length ≤ c := by
      by_cases h0 : 0 < xs.length
      · obtain ⟨G, hG, -, -⟩ := h.head
        obtain ⟨g, c', hv, -, hc, -⟩ := RowG.at acell_lay hG h0
        simp at hv
        omega
      · omega
    have hd : xs.drop p = [] := List.drop_eq_nil_of_le (by omega)
    rw [hd]
    refine ⟨_, _, by rw [show xs.length - p = ([] : List Arc3).length by simp; omega], (fun h => by cases h), fun ad _ j u hu => by simp at hu⟩
  · rw [if_neg e]
    exact h.dropRd acell_lay hp _
set_option maxHeartbeats 8000000 in
set_option maxRecDepth 100000 in
theorem l14Sort_c {w : World} {v : Value} {xs : List Arc3} (h : ArcsR w v xs) (hl : xs.length ≤ 1048576) :
    Calls Try.prog 65 #[v] w (Makes (RowA 59) w (sortM xs)) := by
  obtain ⟨-, va, vc, rfl, -, -, -, hcell⟩ := h
  have Hcell := Lib.hid hcell
  obtain ⟨n, hn⟩ : ∃ n, n = xs.length := ⟨_, rfl⟩
  have Hn := Lib.hid hn
  rw [← hn] at Hcell hl ⊢
  have HS0 := Lib.hid (show Sep w.heap.size (w.alloc (.cells #[] 59)) [Res.row 59 3 acell (.slice (some ⟨w.heap.size, 0, none⟩) 0 0) []] from by
    exact Sep.one RowG.held (New.emptyRow 59 w))
  obtain ⟨w1, e1⟩ : ∃ x, x = w.alloc (.cells #[] 59) := ⟨_, rfl⟩
  rw [← e1] at HS0
  have HB0 := Lib.hid (show Below w.heap.size w w1 from by rw [e1]; exact (Below.refl _ _).alloc (Nat.le_refl _) _)
  have e1s := e1.symm
  clear hcell hn e1
  go_enter Try.func65, Try.ntmps65
  go_wp2
  clear e1s
  go_loopg [3, 4] n (fun g ov i wr => ∃ (k b c : Nat), ov = .slice (some ⟨b, 0, none⟩) (sortM (xs.take k)).length c ∧ i = .int .i64 k ∧ k + g = n ∧ Hid (Sep w.heap.size wr [Res.row 59 3 acell (.slice (some ⟨b, 0, none⟩) (sortM (xs.take k)).length c) (sortM (xs.take k))]) ∧ Hid (Below w.heap.size w wr))
  case atStart => exact ⟨0, _, _, rfl, rfl, by omega, HS0, HB0⟩
  case round =>
    clear HS0 HB0
    obtain ⟨k, b, c, rfl, rfl, hk, HS, HB⟩ := hrel
    obtain ⟨wA, rfl⟩ : ∃ x, x = wr := ⟨_, rfl⟩
    have zA := HB.out.size
    have hol : (sortM (xs.take k)).length ≤ k := Nat.le_trans (sortM_len _) (by simp; omega)
    by_cases hlt : k < n
    · obtain ⟨g, rfl⟩ : ∃ x, gk = x + 1 := ⟨gk - 1, by omega⟩
      obtain ⟨lb, lo, rfl, hlb, hx⟩ := Hcell.out (by omega)
      have hki : (k : Int) < (n : Int) := by omega
      obtain ⟨x, hxk, _⟩ := at_lt (xs := xs) (k := k) (by rw [← Hn.out]; exact hlt)
      obtain ⟨f0, f1, f2⟩ := hx k x hxk
      have HI := Lib.hid (sortM_take hxk)
      obtain ⟨out, hout⟩ : ∃ o, o = sortM (xs.take k) := ⟨_, rfl⟩
      rw [← hout] at HS HI hol ⊢
      have Hout := Lib.hid hout
      have HL := Lib.hid (fun (w' : World) (hb' : Below w.heap.size w w') => (show w'.cell? ⟨lb, lo + k * 3, none⟩ = some (.int .i64 x.1) ∧ w'.cell? ⟨lb, lo + k * 3 + 1, none⟩ = some (.int .i64 x.2.1) ∧ w'.cell? ⟨lb, lo + k * 3 + 2, none⟩ = some (.int .i64 x.2.2) from ⟨(hb'.cell (p := ⟨lb, lo + k * 3, none⟩) hlb).trans f0, (hb'.cell (p := ⟨lb, lo + k * 3 + 1, none⟩) hlb).trans f1, (hb'.cell (p := ⟨lb, lo + k * 3 + 2, none⟩) hlb).trans f2⟩))
      have HO := Lib.hid (fun (i : Nat) (hi : i < out.length) => (show b < wA.heap.size ∧ wA.cell? ⟨b, i * 3, none⟩ = some (.int .i64 (at3 out i).1) ∧ wA.cell? ⟨b, i * 3 + 1, none⟩ = some (.int .i64 (at3 out i).2.1) ∧ wA.cell? ⟨b, i * 3 + 2, none⟩ = some (.int .i64 (at3 out i).2.2) from by
        obtain ⟨_, _, hv, hq⟩ := HS.out.rowAt acell_lay
        obtain ⟨b', e', _, hbl, hcl⟩ := hq (by omega)
        subst e'
        simp at hv
        obtain ⟨rfl, rfl⟩ := hv
        have hy : out[i]? = some (at3 out i) := by rw [List.getElem?_eq_getElem hi, at3_of (List.getElem?_eq_getElem hi)]
        exact ⟨hbl, hcl i _ 0 _ hy rfl, hcl i _ 1 _ hy rfl, hcl i _ 2 _ hy rfl⟩))
      have hcap := row_cap HS.out
      clear f0 f1 f2 hx hxk hout
      obtain ⟨m, hm⟩ : ∃ m, m = out.length := ⟨_, rfl⟩
      have Hm := Lib.hid hm
      rw [← hm] at hol hcap ⊢
      clear hm
      obtain ⟨x0, x1, x2⟩ := x
      simp only at HL
      go_wp2
      go_loopg [5] (m + 1) (fun g i wr => ∃ (p : Nat), i = .int .i64 p ∧ p + 1 = g ∧ p ≤ m ∧ Hid (posA (x0, x1, x2) out m = posA (x0, x1, x2) out p) ∧ Hid (Below wA.heap.size wA wr))
      case atStart => exact ⟨m, rfl, rfl, Nat.le_refl _, Lib.hid rfl, Lib.hid (Below.refl _ _)⟩
      case round =>
        obtain ⟨p, rfl, hp, hpm, HP, HBi⟩ := hrel
        obtain ⟨wB, rfl⟩ : ∃ x, x = wr := ⟨_, rfl⟩
        have zB := HBi.out.size
        by_cases hp0 : p = 0
        · have HIns := Lib.hid (show insA out (x0, x1, x2) = out.take p ++ [(x0, x1, x2)] ++ out.drop p from by
            have e : posA (x0, x1, x2) out m = p := by rw [HP.out, hp0]; rfl
            unfold insA
            rw [← Hm.out, e, if_neg (by omega)])
          have t0 : decide (0 < p) = false := by simp; omega
          have t1 : ¬ 0 < p := by omega
          clear hp0
          go_wp2
          go_quiet (fail)
          rename_i nq
          have HBq := Lib.hid (below_drewN HBi.out nq)
          generalize wB.drewN nq = wB2 at HBq ⊢
          go_wp2
          go_quiet (fail)
          rename_i nq
          have HBc := Lib.hid (below_drewN HBq.out nq)
          generalize wB2.drewN nq = wC at HBc ⊢
          clear HBq HBi HP
          have hsC := HS.out.below HBc.out (Nat.le_refl _)
          have zC : w.heap.size ≤ wC.heap.size := Nat.le_trans zA HBc.out.size
          have hs2 := hsC.new RowG.held ((Below.refl _ _).alloc (Nat.le_refl _) (.cells #[] 59)) zC (New.emptyRow (sz := 3) (f := acell) 59 wC)
          obtain ⟨w2, e2⟩ : ∃ y, y = wC.alloc (.cells #[] 59) := ⟨_, rfl⟩
          rw [← e2] at hs2
          have hb2 : Below wC.heap.size wC w2 := by rw [e2]; exact (Below.refl _ _).alloc (Nat.le_refl _) _
          have z2 : w.heap.size ≤ w2.heap.size := Nat.le_trans zC hb2.size
          have hdr := tail_rd (p := p) hs2.swap rfl (by rw [← Hm.out]; exact hpm)
          rw [← Hm.out] at hdr
          have hsl := fun w' => tail_slice (b := b) (c := c) hpm w'
          obtain ⟨ad, had⟩ : ∃ y, y = (if c = p then (⟨b, 0, none⟩ : Addr) else ⟨b, p * 3, none⟩) := ⟨_, rfl⟩
          rw [← had] at hdr
          simp only [← had] at hsl
          clear had
          have hdl : (out.drop p).length = m - p := by rw [List.length_drop, ← Hm.out]
          obtain ⟨v3, w3, hr3, hs3, hb3⟩ := hs2.pushRow (P := Try.prog) acell_lay 24 24 (.agg #[.int .i64 0, .int .i64 0, .int .i64 0]) 24 Try.underlying24 infoA rfl z2 hdr (by rw [hdl, List.length_nil]; omega) (by rw [hdl, List.length_nil]; omega)
          rw [List.nil_append] at hs3
          have z3 : w.heap.size ≤ w3.heap.size := Nat.le_trans z2 hb3.size
          obtain ⟨ra, rc, er, -⟩ := hs3.rowAt acell_lay
          rw [hdl] at er
          subst er
          have Hr3 := Lib.hid hr3
          have HS3 := Lib.hid hs3
          have e2s := e2.symm
          have HB3 := Lib.hid (((HB.out.trans (HBc.out.mono zA)).trans (hb2.mono zC)).trans hb3)
          have hpI : (0 : Int) ≤ (p : Int) := by omega
          have hpmI : (p : Int) ≤ (m : Int) := by omega
          have hpc : p ≤ c := Nat.le_trans hpm hcap
          clear hsC hs2 hb2 hdr hr3 hs3 hb3 e2 hdl HBc HS HB
          go_wp2_with (first
            | (at_builtin; refine wpl_append_run rfl (.tmp 46) (.tmp 49) 24 rfl rfl rfl Hr3.out ?_)
            | fail)
          clear hsl Hr3 e2s
          have hs3 := HS3.out.swap.preRow acell_lay (k := p) (by rw [← Hm.out]; exact hpm)
          obtain ⟨w4, e4⟩ : ∃ y, y = (w3.alloc (.cells #[.int .i64 x0, .int .i64 x1, .int .i64 x2] 59)).drew := ⟨_, rfl⟩
          have hb4 : Below w3.heap.size w3 w4 := by rw [e4]; exact ((Below.refl w3.heap.size w3).alloc (Nat.le_refl _) _).drew
          have htk : (out.take p).length = p := by rw [List.length_take, ← Hm.out]; omega
          obtain ⟨v5, w5, hr5, hs5, hb5⟩ := hs3.pushG (P := Try.prog) acell_lay 24 24 (.agg #[.int .i64 0, .int .i64 0, .int .i64 0]) 24 Try.underlying24 infoA rfl z3 (w1 := w4) hb4 (x0, x1, x2) (bb := w3.heap.size) 1 (fun j u hj => by
            rw [e4]
            show (w3.alloc (.cells #[.int .i64 x0, .int .i64 x1, .int .i64 x2] 59)).cell? _ = _
            rw [World.cell?_alloc_at _ _ _ j rfl]
            simpa [acell] using hj) (by rw [htk]; omega) (by rw [htk]; omega)
          have z5 : w.heap.size ≤ w5.heap.size := Nat.le_trans z3 hb5.size
          have hdl : (out.drop p).length = m - p := by rw [List.length_drop, ← Hm.out]
          obtain ⟨v6, w6, hr6, hs6, hb6⟩ := hs5.pushRow (P := Try.prog) acell_lay 24 24 (.agg #[.int .i64 0, .int .i64 0, .int .i64 0]) 24 Try.underlying24 infoA rfl z5 (hs5.swap.rowRd acell_lay).1 (by rw [hdl, List.length_append, htk, List.length_singleton]; omega) (by rw [hdl, List.length_append, htk, List.length_singleton]; omega)
          rw [← HIns.out] at hs6
          have hil : 0 < (insA out (x0, x1, x2)).length := by rw [HIns.out]; simp; omega
          obtain ⟨_, c6, ev, hq6⟩ := hs6.rowAt acell_lay
          obtain ⟨b6, eb6, -⟩ := hq6 hil
          subst eb6
          subst ev
          obtain ⟨va5, c5, ev5, -⟩ := hs5.rowAt acell_lay
          subst ev5
          have HS6 := Lib.hid hs6.swap.tail
          have HB6 := Lib.hid ((HB3.out.trans hb5).trans hb6)
          have HSx := Lib.hid (fun (w' : World) (hb' : Below w.heap.size w w') => (show w'.cell? ⟨lb, lo + k * 3, none⟩ = some (.int .i64 x0) ∧ w'.cell? ⟨lb, lo + k * 3 + 1, none⟩ = some (.int .i64 x1) ∧ w'.cell? ⟨lb, lo + k * 3 + 2, none⟩ = some (.int .i64 x2) from HL.out w' hb'))
          have hSd : w3.drew.cell? ⟨lb, lo + k * 3, none⟩ = some (.int .i64 x0) ∧ w3.drew.cell? ⟨lb, lo + k * 3 + 1, none⟩ = some (.int .i64 x1) ∧ w3.drew.cell? ⟨lb, lo + k * 3 + 2, none⟩ = some (.int .i64 x2) := HSx.out _ HB3.out.drew
          have hS4 : w4.cell? ⟨lb, lo + k * 3, none⟩ = some (.int .i64 x0) ∧ w4.cell? ⟨lb, lo + k * 3 + 1, none⟩ = some (.int .i64 x1) ∧ w4.cell? ⟨lb, lo + k * 3 + 2, none⟩ = some (.int .i64 x2) := HSx.out _ (HB3.out.trans (hb4.mono z3))
          have hS5 : w5.cell? ⟨lb, lo + k * 3, none⟩ = some (.int .i64 x0) ∧ w5.cell? ⟨lb, lo + k * 3 + 1, none⟩ = some (.int .i64 x1) ∧ w5.cell? ⟨lb, lo + k * 3 + 2, none⟩ = some (.int .i64 x2) := HSx.out _ (HB3.out.trans hb5)
          have hS6 : w6.cell? ⟨lb, lo + k * 3, none⟩ = some (.int .i64 x0) ∧ w6.cell? ⟨lb, lo + k * 3 + 1, none⟩ = some (.int .i64 x1) ∧ w6.cell? ⟨lb, lo + k * 3 + 2, none⟩ = some (.int .i64 x2) := HSx.out _ HB6.out
          have Hr5 := Lib.hid hr5
          have Hr6 := Lib.hid hr6
          have hsl := fun w' => head_slice (b := b) (m := m) hpc w'
          clear hs3 hb4 htk hr5 hs5 hb5 hdl hr6 hs6 hb6 hil hq6 HS3 HB3 HSx
          generalize ((out.take p) ++ [(x0, x1, x2)]).length = l5 at Hr5 Hr6
          generalize hl6 : (insA out (x0, x1, x2)).length = l6 at Hr6 HS6
          have Hl6 := Lib.hid hl6
          clear hl6
          refine wp_region_L (fun w' => w'.cell? ⟨lb, lo + k * 3, none⟩ = some (.int .i64 x0) ∧ w'.cell? ⟨lb, lo + k * 3 + 1, none⟩ = some (.int .i64 x1) ∧ w'.cell? ⟨lb, lo + k * 3 + 2, none⟩ = some (.int .i64 x2)) (by kernel_rfl) ?_
          refine wpAnyL_take 0 (v := ?_) rfl (by kernel_rfl) (by kernel_rfl) (by kernel_rfl) (by kernel_rfl) (fun _ _ _ h => h) (Or.inl ⟨by rfl, ?_⟩) hSd ?_
          rotate_left
          · (intro w hSw; (try dsimp only at hSw); go_simp) <;> (try with_reducible rfl)
          try simp only [Act.put, List.getElem_toArray, List.getElem_cons_zero, List.getElem_cons_succ, List.setIfInBounds_toArray, List.set_cons_zero, List.set_cons_succ]
          refine wpAnyL_take 1 (v := ?_) rfl (by kernel_rfl) (by kernel_rfl) (by kernel_rfl) (by kernel_rfl) (fun _ _ _ h => h) (Or.inl ⟨by rfl, ?_⟩) hSd ?_
          rotate_left
          · (intro w hSw; (try dsimp only at hSw); go_simp) <;> (try with_reducible rfl)
          try simp only [Act.put, List.getElem_toArray, List.getElem_cons_zero, List.getElem_cons_succ, List.setIfInBounds_toArray, List.set_cons_zero, List.set_cons_succ]
          refine wpAnyL_take 2 (v := ?_) rfl (by kernel_rfl) (by kernel_rfl) (by kernel_rfl) (by kernel_rfl) (fun _ _ _ h => h) (Or.inl ⟨by rfl, ?_⟩) hSd ?_
          rotate_left
          · (intro w hSw; (try dsimp only at hSw); go_simp) <;> (try with_reducible rfl)
          try simp only [Act.put, List.getElem_toArray, List.getElem_cons_zero, List.getElem_cons_succ, List.setIfInBounds_toArray, List.set_cons_zero, List.set_cons_succ]
          refine wpAnyL_take 3 (v := ?_) rfl (by kernel_rfl) (by kernel_rfl) (by kernel_rfl) (by kernel_rfl) (fun _ _ _ h => h) (Or.inl ⟨by rfl, ?_⟩) hSd ?_
          rotate_left
          · (intro w hSw; (try dsimp only at hSw); go_simp) <;> (try with_reducible rfl)
          try simp only [Act.put, List.getElem_toArray, List.getElem_cons_zero, List.getElem_cons_succ, List.setIfInBounds_toArray, List.set_cons_zero, List.set_cons_succ]
          refine wpAnyL_take 4 (v := ?_) rfl (by kernel_rfl) (by kernel_rfl) (by kernel_rfl) (by kernel_rfl) (fun _ _ _ h => h) (Or.inl ⟨by rfl, ?_⟩) hSd ?_
          rotate_left
          · (intro w hSw; (try dsimp only at hSw); go_simp) <;> (try with_reducible rfl)
          try simp only [Act.put, List.getElem_toArray, List.getElem_cons_zero, List.getElem_cons_succ, List.setIfInBounds_toArray, List.set_cons_zero, List.set_cons_succ]
          refine wpAnyL_take 5 (v := ?_) rfl (by kernel_rfl) (by kernel_rfl) (by kernel_rfl) (by kernel_rfl) (fun _ _ _ h => h) (Or.inl ⟨by rfl, ?_⟩) hSd ?_
          rotate_left
          · (intro w hSw; (try dsimp only at hSw); go_simp) <;> (try with_reducible rfl)
          try simp only [Act.put, List.getElem_toArray, List.getElem_cons_zero, List.getElem_cons_succ, List.setIfInBounds_toArray, List.set_cons_zero, List.set_cons_succ]
          refine wpAnyL_take 6 (v := ?_) rfl (by kernel_rfl) (by kernel_rfl) (by kernel_rfl) (by kernel_rfl) (fun _ _ _ h => h) (Or.inl ⟨by rfl, ?_⟩) hSd ?_
          rotate_left
          · (intro w hSw; (try dsimp only at hSw); go_simp) <;> (try with_reducible rfl)
          try simp only [Act.put, List.getElem_toArray, List.getElem_cons_zero, List.getElem_cons_succ, List.setIfInBounds_toArray, List.set_cons_zero, List.set_cons_succ]
          refine wpAnyL_take 9 (v := ?_) rfl (by kernel_rfl) (by kernel_rfl) (by kernel_rfl) (by kernel_rfl) (fun _ _ _ h => h) (Or.inl ⟨by rfl, ?_⟩) hSd ?_
          rotate_left
          · (intro w hSw; (try dsimp only at hSw); go_simp) <;> (try with_reducible rfl)
          try simp only [Act.put, List.getElem_toArray, List.getElem_cons_zero, List.getElem_cons_succ, List.setIfInBounds_toArray, List.set_cons_zero, List.set_cons_succ]
          refine wpAnyL_one 7 (by kernel_rfl) rfl (fun K hK => ?_)
          go_simp
          refine hK.out _ _ (fun _ => (by rw [← e4]; exact hS4)) ?_
          clear hK K
          try simp only [Act.put, List.getElem_toArray, List.getElem_cons_zero, List.getElem_cons_succ, List.setIfInBounds_toArray, List.set_cons_zero, List.set_cons_succ]
          rw [← e4]
          refine wpAnyL_one 8 (by kernel_rfl) rfl (fun K hK => ?_)
          refine step_append_run (by rfl) (.tmp 53) (.tmp 58) 24 (by rfl) (by rfl) (by rfl) Hr5.out ?_
          refine hK.out _ _ (fun _ => hS5) ?_
          clear hK K
          try simp only [Act.put, List.getElem_toArray, List.getElem_cons_zero, List.getElem_cons_succ, List.setIfInBounds_toArray, List.set_cons_zero, List.set_cons_succ]
          refine wpAnyL_one 10 (by kernel_rfl) rfl (fun K hK => ?_)
          refine step_append_run (by rfl) (.tmp 59) (.tmp 60) 24 (by rfl) (by rfl) (by rfl) Hr6.out ?_
          refine hK.out _ _ (fun _ => hS6) ?_
          clear hK K
          try simp only [Act.put, List.getElem_toArray, List.getElem_cons_zero, List.getElem_cons_succ, List.setIfInBounds_toArray, List.set_cons_zero, List.set_cons_succ]
          refine wpAnyL_one 11 (by kernel_rfl) rfl (fun K hK => ?_)
          go_simp
          refine hK.out _ _ (fun h => absurd h (not_rem (by kernel_rfl))) ?_
          clear hK K
          try simp only [Act.put, List.getElem_toArray, List.getElem_cons_zero, List.getElem_cons_succ, List.setIfInBounds_toArray, List.set_cons_zero, List.set_cons_succ]
          refine wpAnyL_done (by kernel_rfl) ?_ _
          go_wp2
          go_roundg g
          case measure => omega
          case rel => exact ⟨k + 1, b6, c6, by rw [HI.out, Hl6.out], by go_num, by omega, by rw [HI.out, Hl6.out]; exact HS6, HB6⟩
        · obtain ⟨q, rfl⟩ : ∃ q, p = q + 1 := ⟨p - 1, by omega⟩
          have hqm : q < m := by omega
          obtain ⟨hbl, o0, o1, o2⟩ := HO.out q (by rw [← Hm.out]; exact hqm)
          have HPs := Lib.hid (show posA (x0, x1, x2) out (q + 1) = if before (x0, x1, x2) (at3 out q) = true then posA (x0, x1, x2) out q else q + 1 from rfl)
          have HBf := Lib.hid (fun w' => l14Before_c (x0, x1, x2) (at3 out q) w')
          obtain ⟨y, hy⟩ : ∃ y, y = at3 out q := ⟨_, rfl⟩
          rw [← hy] at o0 o1 o2 HPs HBf
          have Hy := Lib.hid hy
          clear hy hp0
          obtain ⟨y0, y1, y2⟩ := y
          simp only at o0 o1 o2
          have tq : decide ((0 : Int) < (q : Int) + 1) = true := by simp
          have hqw : IntKind.i64.wrap (q : Int) = (q : Int) := by rw [IntKind.wrap_i64]; omega
          have hqI : (q : Int) < (m : Int) := by omega
          have hq0 : (0 : Int) ≤ (q : Int) := by omega
          have HSS := Lib.hid (fun (w' : World) (hb' : Below wA.heap.size wA w') => (show w'.cell? ⟨lb, lo + k * 3, none⟩ = some (.int .i64 x0) ∧ w'.cell? ⟨lb, lo + k * 3 + 1, none⟩ = some (.int .i64 x1) ∧ w'.cell? ⟨lb, lo + k * 3 + 2, none⟩ = some (.int .i64 x2) ∧ w'.cell? ⟨b, q * 3, none⟩ = some (.int .i64 y0) ∧ w'.cell? ⟨b, q * 3 + 1, none⟩ = some (.int .i64 y1) ∧ w'.cell? ⟨b, q * 3 + 2, none⟩ = some (.int .i64 y2) from ⟨(HL.out w' (HB.out.trans (hb'.mono zA))).1, (HL.out w' (HB.out.trans (hb'.mono zA))).2.1, (HL.out w' (HB.out.trans (hb'.mono zA))).2.2, (hb'.cell (p := ⟨b, q * 3, none⟩) hbl).trans o0, (hb'.cell (p := ⟨b, q * 3 + 1, none⟩) hbl).trans o1, (hb'.cell (p := ⟨b, q * 3 + 2, none⟩) hbl).trans o2⟩))
          have hS0 := HSS.out _ HBi.out
          have B1 := HBi.out.drew
          have hSd := HSS.out _ B1
          rw [show ((q + 1 : Nat) : Int) = (q : Int) + 1 from by omega]
          simp only at HBf
          generalize hbf : before (x0, x1, x2) (y0, y1, y2) = bf at HPs HBf
          clear o0 o1 o2 hbf
          go_wp2
          go_region_held3 (fun w' => w'.cell? ⟨lb, lo + k * 3, none⟩ = some (.int .i64 x0) ∧ w'.cell? ⟨lb, lo + k * 3 + 1, none⟩ = some (.int .i64 x1) ∧ w'.cell? ⟨lb, lo + k * 3 + 2, none⟩ = some (.int .i64 x2) ∧ w'.cell? ⟨b, q * 3, none⟩ = some (.int .i64 y0) ∧ w'.cell? ⟨b, q * 3 + 1, none⟩ = some (.int .i64 y1) ∧ w'.cell? ⟨b, q * 3 + 2, none⟩ = some (.int .i64 y2))
            (first | with_reducible exact hS2 | with_reducible exact hSd | with_reducible exact hS0 | go_keep)
            ((first
              | (go_at_call 83; (with_reducible refine (HBf.out _).mono ?_); rintro e u1 ⟨rfl, q1⟩; have B2 := B1.trans (q1.mono (Nat.le_trans B1.size (Nat.le_refl _))); have hS2 := HSS.out _ B2)
              | fail))
          cases bf with
          | true =>
            have HP2 := Lib.hid (show posA (x0, x1, x2) out m = posA (x0, x1, x2) out q from by rw [HP.out, HPs.out, if_pos rfl])
            have HB2 := Lib.hid B2
            clear HP HPs HBf HSS hS0 hSd hS2 B1 B2 q1 HBi
            go_wp2
            go_roundg (q + 1)
            case measure => omega
            case rel => exact ⟨q, by go_num, rfl, by omega, HP2, HB2⟩
          | false =>
            have HPf := Lib.hid (show posA (x0, x1, x2) out m = q + 1 from by rw [HP.out, HPs.out, if_neg (by decide)])
            have HBc := Lib.hid B2
            obtain ⟨l0, l1, l2, o0, o1, o2⟩ := hS2
            clear HP HPs HBf HSS hS0 hSd B1 B2 q1 HBi
            go_wp2
            by_cases hxy : (y0, y1, y2) = (x0, x1, x2)
            · simp only [Prod.mk.injEq] at hxy
              obtain ⟨rfl, rfl, rfl⟩ := hxy
              go_quiet (fail)
              rename_i nq
              have HIn := Lib.hid (show insA out (y0, y1, y2) = out from by
                unfold insA
                rw [← Hm.out, HPf.out, if_pos ⟨by omega, by rw [Nat.add_sub_cancel]; exact Hy.out.symm⟩])
              have HS9 := Lib.hid (HS.out.below ((below_drewN HBc.out nq)) (Nat.le_refl _))
              have HB9 := Lib.hid (HB.out.trans ((below_drewN HBc.out nq).mono zA))
              have Hm2 := Lib.hid Hm.out
              clear HS HB HBc HL HO l0 l1 l2 o0 o1 o2
              go_wp2
              go_roundg g
              case measure => omega
              case rel => exact ⟨k + 1, b, c, by rw [HI.out, HIn.out, ← Hm.out], by go_num, by omega, by rw [HI.out, HIn.out]; exact HS9, HB9⟩
            · have HInq := Lib.hid (show insA out (x0, x1, x2) = out.take (q + 1) ++ [(x0, x1, x2)] ++ out.drop (q + 1) from by
                unfold insA
                rw [← Hm.out, HPf.out, if_neg]
                rintro ⟨-, h⟩
                rw [Nat.add_sub_cancel, ← Hy.out] at h
                exact hxy h)
              have hne : (y0 == x0) = false ∨ (x0 = y0 ∧ (y1 == x1) = false) ∨ (x0 = y0 ∧ x1 = y1 ∧ (y2 == x2) = false) := by
                by_cases e0 : y0 = x0
                · by_cases e1 : y1 = x1
                  · have e2 : y2 ≠ x2 := fun e2 => hxy (by rw [e0, e1, e2])
                    exact Or.inr (Or.inr ⟨e0.symm, e1.symm, by simp [e2]⟩)
                  · exact Or.inr (Or.inl ⟨e0.symm, by simp [e1]⟩)
                · exact Or.inl (by simp [e0])
              obtain ⟨p, hpq⟩ : ∃ p, p = q + 1 := ⟨_, rfl⟩
              have Hpe := Lib.hid (show (q : Int) + 1 = (p : Int) from by omega)
              have HIns := Lib.hid (show insA out (x0, x1, x2) = out.take p ++ [(x0, x1, x2)] ++ out.drop p from by rw [hpq]; exact HInq.out)
              replace hpm : p ≤ m := by omega
              clear hxy HInq hpq
              rcases hne with t0 | ⟨rfl, t1⟩ | ⟨rfl, rfl, t2⟩
              all_goals
                go_quiet (fail)
                rename_i nq
                replace HBc := Lib.hid (below_drewN HBc.out nq)
                generalize u1.drewN nq = wC at HBc ⊢
                rw [Hpe.out]
                clear l0 l1 l2 o0 o1 o2 Hpe tq hqw hqI hq0 HPf
                have hsC := HS.out.below HBc.out (Nat.le_refl _)
                have zC : w.heap.size ≤ wC.heap.size := Nat.le_trans zA HBc.out.size
                have hs2 := hsC.new RowG.held ((Below.refl _ _).alloc (Nat.le_refl _) (.cells #[] 59)) zC (New.emptyRow (sz := 3) (f := acell) 59 wC)
                obtain ⟨w2, e2⟩ : ∃ y, y = wC.alloc (.cells #[] 59) := ⟨_, rfl⟩
                rw [← e2] at hs2
                have hb2 : Below wC.heap.size wC w2 := by rw [e2]; exact (Below.refl _ _).alloc (Nat.le_refl _) _
                have z2 : w.heap.size ≤ w2.heap.size := Nat.le_trans zC hb2.size
                have hdr := tail_rd (p := p) hs2.swap rfl (by rw [← Hm.out]; exact hpm)
                rw [← Hm.out] at hdr
                have hsl := fun w' => tail_slice (b := b) (c := c) hpm w'
                obtain ⟨ad, had⟩ : ∃ y, y = (if c = p then (⟨b, 0, none⟩ : Addr) else ⟨b, p * 3, none⟩) := ⟨_, rfl⟩
                rw [← had] at hdr
                simp only [← had] at hsl
                clear had
                have hdl : (out.drop p).length = m - p := by rw [List.length_drop, ← Hm.out]
                obtain ⟨v3, w3, hr3, hs3, hb3⟩ := hs2.pushRow (P := Try.prog) acell_lay 24 24 (.agg #[.int .i64 0, .int .i64 0, .int .i64 0]) 24 Try.underlying24 infoA rfl z2 hdr (by rw [hdl, List.length_nil]; omega) (by rw [hdl, List.length_nil]; omega)
                rw [List.nil_append] at hs3
                have z3 : w.heap.size ≤ w3.heap.size := Nat.le_trans z2 hb3.size
                obtain ⟨ra, rc, er, -⟩ := hs3.rowAt acell_lay
                rw [hdl] at er
                subst er
                have Hr3 := Lib.hid hr3
                have HS3 := Lib.hid hs3
                have e2s := e2.symm
                have HB3 := Lib.hid (((HB.out.trans (HBc.out.mono zA)).trans (hb2.mono zC)).trans hb3)
                have hpI : (0 : Int) ≤ (p : Int) := by omega
                have hpmI : (p : Int) ≤ (m : Int) := by omega
                have hpc : p ≤ c := Nat.le_trans hpm hcap
                clear hsC hs2 hb2 hdr hr3 hs3 hb3 e2 hdl HBc HS HB
                go_wp2_with (first
                  | (at_builtin; refine wpl_append_run rfl (.tmp 46) (.tmp 49) 24 rfl rfl rfl Hr3.out ?_)
                  | fail)
                clear hsl Hr3 e2s
                have hs3 := HS3.out.swap.preRow acell_lay (k := p) (by rw [← Hm.out]; exact hpm)
                obtain ⟨w4, e4⟩ : ∃ y, y = (w3.alloc (.cells #[.int .i64 x0, .int .i64 x1, .int .i64 x2] 59)).drew := ⟨_, rfl⟩
                have hb4 : Below w3.heap.size w3 w4 := by rw [e4]; exact ((Below.refl w3.heap.size w3).alloc (Nat.le_refl _) _).drew
                have htk : (out.take p).length = p := by rw [List.length_take, ← Hm.out]; omega
                obtain ⟨v5, w5, hr5, hs5, hb5⟩ := hs3.pushG (P := Try.prog) acell_lay 24 24 (.agg #[.int .i64 0, .int .i64 0, .int .i64 0]) 24 Try.underlying24 infoA rfl z3 (w1 := w4) hb4 (x0, x1, x2) (bb := w3.heap.size) 1 (fun j u hj => by
                  rw [e4]
                  show (w3.alloc (.cells #[.int .i64 x0, .int .i64 x1, .int .i64 x2] 59)).cell? _ = _
                  rw [World.cell?_alloc_at _ _ _ j rfl]
                  simpa [acell] using hj) (by rw [htk]; omega) (by rw [htk]; omega)
                have z5 : w.heap.size ≤ w5.heap.size := Nat.le_trans z3 hb5.size
                have hdl : (out.drop p).length = m - p := by rw [List.length_drop, ← Hm.out]
                obtain ⟨v6, w6, hr6, hs6, hb6⟩ := hs5.pushRow (P := Try.prog) acell_lay 24 24 (.agg #[.int .i64 0, .int .i64 0, .int .i64 0]) 24 Try.underlying24 infoA rfl z5 (hs5.swap.rowRd acell_lay).1 (by rw [hdl, List.length_append, htk, List.length_singleton]; omega) (by rw [hdl, List.length_append, htk, List.length_singleton]; omega)
                rw [← HIns.out] at hs6
                have hil : 0 < (insA out (x0, x1, x2)).length := by rw [HIns.out]; simp; omega
                obtain ⟨_, c6, ev, hq6⟩ := hs6.rowAt acell_lay
                obtain ⟨b6, eb6, -⟩ := hq6 hil
                subst eb6
                subst ev
                obtain ⟨va5, c5, ev5, -⟩ := hs5.rowAt acell_lay
                subst ev5
                have HS6 := Lib.hid hs6.swap.tail
                have HB6 := Lib.hid ((HB3.out.trans hb5).trans hb6)
                have HSx := Lib.hid (fun (w' : World) (hb' : Below w.heap.size w w') => (show w'.cell? ⟨lb, lo + k * 3, none⟩ = some (.int .i64 x0) ∧ w'.cell? ⟨lb, lo + k * 3 + 1, none⟩ = some (.int .i64 x1) ∧ w'.cell? ⟨lb, lo + k * 3 + 2, none⟩ = some (.int .i64 x2) from HL.out w' hb'))
                have hSd : w3.drew.cell? ⟨lb, lo + k * 3, none⟩ = some (.int .i64 x0) ∧ w3.drew.cell? ⟨lb, lo + k * 3 + 1, none⟩ = some (.int .i64 x1) ∧ w3.drew.cell? ⟨lb, lo + k * 3 + 2, none⟩ = some (.int .i64 x2) := HSx.out _ HB3.out.drew
                have hS4 : w4.cell? ⟨lb, lo + k * 3, none⟩ = some (.int .i64 x0) ∧ w4.cell? ⟨lb, lo + k * 3 + 1, none⟩ = some (.int .i64 x1) ∧ w4.cell? ⟨lb, lo + k * 3 + 2, none⟩ = some (.int .i64 x2) := HSx.out _ (HB3.out.trans (hb4.mono z3))
                have hS5 : w5.cell? ⟨lb, lo + k * 3, none⟩ = some (.int .i64 x0) ∧ w5.cell? ⟨lb, lo + k * 3 + 1, none⟩ = some (.int .i64 x1) ∧ w5.cell? ⟨lb, lo + k * 3 + 2, none⟩ = some (.int .i64 x2) := HSx.out _ (HB3.out.trans hb5)
                have hS6 : w6.cell? ⟨lb, lo + k * 3, none⟩ = some (.int .i64 x0) ∧ w6.cell? ⟨lb, lo + k * 3 + 1, none⟩ = some (.int .i64 x1) ∧ w6.cell? ⟨lb, lo + k * 3 + 2, none⟩ = some (.int .i64 x2) := HSx.out _ HB6.out
                have Hr5 := Lib.hid hr5
                have Hr6 := Lib.hid hr6
                have hsl := fun w' => head_slice (b := b) (m := m) hpc w'
                clear hs3 hb4 htk hr5 hs5 hb5 hdl hr6 hs6 hb6 hil hq6 HS3 HB3 HSx
                generalize ((out.take p) ++ [(x0, x1, x2)]).length = l5 at Hr5 Hr6
                generalize hl6 : (insA out (x0, x1, x2)).length = l6 at Hr6 HS6
                have Hl6 := Lib.hid hl6
                clear hl6
                refine wp_region_L (fun w' => w'.cell? ⟨lb, lo + k * 3, none⟩ = some (.int .i64 x0) ∧ w'.cell? ⟨lb, lo + k * 3 + 1, none⟩ = some (.int .i64 x1) ∧ w'.cell? ⟨lb, lo + k * 3 + 2, none⟩ = some (.int .i64 x2)) (by kernel_rfl) ?_
                refine wpAnyL_take 0 (v := ?_) rfl (by kernel_rfl) (by kernel_rfl) (by kernel_rfl) (by kernel_rfl) (fun _ _ _ h => h) (Or.inl ⟨by rfl, ?_⟩) hSd ?_
                rotate_left
                · (intro w hSw; (try dsimp only at hSw); go_simp) <;> (try with_reducible rfl)
                try simp only [Act.put, List.getElem_toArray, List.getElem_cons_zero, List.getElem_cons_succ, List.setIfInBounds_toArray, List.set_cons_zero, List.set_cons_succ]
                refine wpAnyL_take 1 (v := ?_) rfl (by kernel_rfl) (by kernel_rfl) (by kernel_rfl) (by kernel_rfl) (fun _ _ _ h => h) (Or.inl ⟨by rfl, ?_⟩) hSd ?_
                rotate_left
                · (intro w hSw; (try dsimp only at hSw); go_simp) <;> (try with_reducible rfl)
                try simp only [Act.put, List.getElem_toArray, List.getElem_cons_zero, List.getElem_cons_succ, List.setIfInBounds_toArray, List.set_cons_zero, List.set_cons_succ]
                refine wpAnyL_take 2 (v := ?_) rfl (by kernel_rfl) (by kernel_rfl) (by kernel_rfl) (by kernel_rfl) (fun _ _ _ h => h) (Or.inl ⟨by rfl, ?_⟩) hSd ?_
                rotate_left
                · (intro w hSw; (try dsimp only at hSw); go_simp) <;> (try with_reducible rfl)
                try simp only [Act.put, List.getElem_toArray, List.getElem_cons_zero, List.getElem_cons_succ, List.setIfInBounds_toArray, List.set_cons_zero, List.set_cons_succ]
                refine wpAnyL_take 3 (v := ?_) rfl (by kernel_rfl) (by kernel_rfl) (by kernel_rfl) (by kernel_rfl) (fun _ _ _ h => h) (Or.inl ⟨by rfl, ?_⟩) hSd ?_
                rotate_left
                · (intro w hSw; (try dsimp only at hSw); go_simp) <;> (try with_reducible rfl)
                try simp only [Act.put, List.getElem_toArray, List.getElem_cons_zero, List.getElem_cons_succ, List.setIfInBounds_toArray, List.set_cons_zero, List.set_cons_succ]
                refine wpAnyL_take 4 (v := ?_) rfl (by kernel_rfl) (by kernel_rfl) (by kernel_rfl) (by kernel_rfl) (fun _ _ _ h => h) (Or.inl ⟨by rfl, ?_⟩) hSd ?_
                rotate_left
                · (intro w hSw; (try dsimp only at hSw); go_simp) <;> (try with_reducible rfl)
                try simp only [Act.put, List.getElem_toArray, List.getElem_cons_zero, List.getElem_cons_succ, List.setIfInBounds_toArray, List.set_cons_zero, List.set_cons_succ]
                refine wpAnyL_take 5 (v := ?_) rfl (by kernel_rfl) (by kernel_rfl) (by kernel_rfl) (by kernel_rfl) (fun _ _ _ h => h) (Or.inl ⟨by rfl, ?_⟩) hSd ?_
                rotate_left
                · (intro w hSw; (try dsimp only at hSw); go_simp) <;> (try with_reducible rfl)
                try simp only [Act.put, List.getElem_toArray, List.getElem_cons_zero, List.getElem_cons_succ, List.setIfInBounds_toArray, List.set_cons_zero, List.set_cons_succ]
                refine wpAnyL_take 6 (v := ?_) rfl (by kernel_rfl) (by kernel_rfl) (by kernel_rfl) (by kernel_rfl) (fun _ _ _ h => h) (Or.inl ⟨by rfl, ?_⟩) hSd ?_
                rotate_left
                · (intro w hSw; (try dsimp only at hSw); go_simp) <;> (try with_reducible rfl)
                try simp only [Act.put, List.getElem_toArray, List.getElem_cons_zero, List.getElem_cons_succ, List.setIfInBounds_toArray, List.set_cons_zero, List.set_cons_succ]
                refine wpAnyL_take 9 (v := ?_) rfl (by kernel_rfl) (by kernel_rfl) (by kernel_rfl) (by kernel_rfl) (fun _ _ _ h => h) (Or.inl ⟨by rfl, ?_⟩) hSd ?_
                rotate_left
                · (intro w hSw; (try dsimp only at hSw); go_simp) <;> (try with_reducible rfl)
                try simp only [Act.put, List.getElem_toArray, List.getElem_cons_zero, List.getElem_cons_succ, List.setIfInBounds_toArray, List.set_cons_zero, List.set_cons_succ]
                refine wpAnyL_one 7 (by kernel_rfl) rfl (fun K hK => ?_)
                go_simp
                refine hK.out _ _ (fun _ => (by rw [← e4]; exact hS4)) ?_
                clear hK K
                try simp only [Act.put, List.getElem_toArray, List.getElem_cons_zero, List.getElem_cons_succ, List.setIfInBounds_toArray, List.set_cons_zero, List.set_cons_succ]
                rw [← e4]
                refine wpAnyL_one 8 (by kernel_rfl) rfl (fun K hK => ?_)
                refine step_append_run (by rfl) (.tmp 53) (.tmp 58) 24 (by rfl) (by rfl) (by rfl) Hr5.out ?_
                refine hK.out _ _ (fun _ => hS5) ?_
                clear hK K
                try simp only [Act.put, List.getElem_toArray, List.getElem_cons_zero, List.getElem_cons_succ, List.setIfInBounds_toArray, List.set_cons_zero, List.set_cons_succ]
                refine wpAnyL_one 10 (by kernel_rfl) rfl (fun K hK => ?_)
                refine step_append_run (by rfl) (.tmp 59) (.tmp 60) 24 (by rfl) (by rfl) (by rfl) Hr6.out ?_
                refine hK.out _ _ (fun _ => hS6) ?_
                clear hK K
                try simp only [Act.put, List.getElem_toArray, List.getElem_cons_zero, List.getElem_cons_succ, List.setIfInBounds_toArray, List.set_cons_zero, List.set_cons_succ]
                refine wpAnyL_one 11 (by kernel_rfl) rfl (fun K hK => ?_)
                go_simp
                refine hK.out _ _ (fun h => absurd h (not_rem (by kernel_rfl))) ?_
                clear hK K
                try simp only [Act.put, List.getElem_toArray, List.getElem_cons_zero, List.getElem_cons_succ, List.setIfInBounds_toArray, List.set_cons_zero, List.set_cons_succ]
                refine wpAnyL_done (by kernel_rfl) ?_ _
                go_wp2
                go_roundg g
                case measure => omega
                case rel => exact ⟨k + 1, b6, c6, by rw [HI.out, Hl6.out], by go_num, by omega, by rw [HI.out, Hl6.out]; exact HS6, HB6⟩
    · have hki : ¬ ((k : Int) < (n : Int)) := by omega
      have HR := Lib.hid (show New (RowA 59) w.heap.size wA (.slice (some ⟨b, 0, none⟩) (sortM (xs.take k)).length c) (sortM xs) from by
        have h := HS.out.headNew
        rw [List.take_of_length_le (by rw [← Hn.out]; omega)] at h ⊢
        exact h)
      generalize (sortM (xs.take k)).length = ol at HR
      clear HS
      go_wp2
      go_ret
      exact ⟨_, rfl, HR.out, HB.out⟩
end Go.Proofs.Ytcilgihmaaobeaa
end

section
/-
  The labelled graph of a shift: the model's facts.  No program in sight.
-/
namespace Go.Proofs.Ytcilgihmaaobeaa
open Go.RowKit Go.Deep Go.Sd
theorem lofV_eq (z : Sh) : lofV z = if lofOk z = true then (z.1, ((stW z).length : Int), garcs z.2 (stW z) (stW z).length) else (0, 0, []) := by
  by_cases h : lofOk z = true
  · have e := (stW_of h).2
    unfold lofV
    rw [if_pos h, if_pos h, e]
  · unfold lofV
    rw [if_neg h, if_neg h]
theorem garcs_sorted {z : Sh} (h : lofOk z = true) : (garcs z.2 (stW z) (stW z).length).Pairwise fun a b => before b a = false ∧ a ≠ b := by
  obtain ⟨hs, e⟩ := stW_of h
  rw [e]
  have hL := (shiftM_of hs).1
  have h1 := garcs_sort (F := z.2) (states_lex z.2 (L := z.1.toNat) (by omega)) (fun p hp => by
    obtain ⟨a, b, rfl, -, hb⟩ := states_let (by omega) hp
    simp
    omega) (statesM z.2 z.1.toNat).length
  refine List.Pairwise.imp_of_mem (fun {a b} ha hb hab => ?_) h1
  have oa := garcs_ok (by omega) a ha
  have ob := garcs_ok (by omega) b hb
  unfold okArc at oa ob
  unfold akey at hab
  refine ⟨?_, fun e => by subst e; omega⟩
  unfold before
  by_cases e1 : b.1 = a.1
  · rw [if_neg (by simp [e1]), if_pos (by omega)]
    exact decide_eq_false (by omega)
  · rw [if_pos e1]
    exact decide_eq_false (by omega)
theorem garcs_pos {z : Sh} (h : lofOk z = true) : 0 < (garcs z.2 (stW z) (stW z).length).length := by
  obtain ⟨hs, e⟩ := stW_of h
  have hsp := shiftM_of hs
  have hL := hsp.1
  rw [lofOk_eq, decide_eq_true_eq] at h
  rw [e] at h ⊢
  have hp := at_of (W := statesM z.2 z.1.toNat) (i := 0) (by omega)
  obtain ⟨q, hq, hg⟩ := pairs_succ ((states_iff (by omega) (by omega)).1 (List.mem_of_getElem? hp))
  obtain ⟨j, hj, hjl⟩ := idx_of hsp.short (by omega) (by omega) hq
  exact List.length_pos_of_mem (garcs_mem.2 ⟨0, j, by omega, hjl, by rw [getD_of hj]; exact hg, rfl⟩)
theorem garcR_le (F : List ByteArray) (W : List (List Nat)) (i m : Nat) : (garcR F W i m).length ≤ m := by
  unfold garcR
  rw [List.length_map]
  exact Nat.le_trans (List.length_filter_le _ _) (by simp)
theorem garcs_le (F : List ByteArray) (W : List (List Nat)) (h9 : W.length ≤ 9) : ∀ k, (garcs F W k).length ≤ 9 * k
  | 0 => by simp [garcs]
  | k + 1 => by
    have h1 := garcs_le F W h9 k
    have h2 := garcR_le F W k W.length
    rw [garcs_succ, List.length_append]
    omega
theorem lw_i64 {lv : Nat} (h : lv < 3) : IntKind.i64.wrap (IntKind.i64.wrap (97 + (lv : Int)) - 97) = (lv : Int) := by
  rw [IntKind.wrap_i64, IntKind.wrap_i64]; omega
theorem lw_u8 {lv : Nat} (h : lv < 3) : IntKind.u8.wrap (97 + (lv : Int) - 97) = (lv : Int) := by rw [IntKind.wrap_u8]; omega
theorem lw_2 {lv : Nat} (h : lv < 3) : IntKind.i64.wrap (lv : Int) = (lv : Int) := by rw [IntKind.wrap_i64]; omega
theorem lw_3 {lv : Nat} (h : lv < 3) : IntKind.u8.wrap (lv : Int) = (lv : Int) := by rw [IntKind.wrap_u8]; omega
theorem garcR_zero (F : List ByteArray) (W : List (List Nat)) (i : Nat) : garcR F W i 0 = [] := rfl
end Go.Proofs.Ytcilgihmaaobeaa
end

section
/-
  What a matrix is, by the program's IsMatrix and by the reference's.
-/
namespace Go.Proofs.Ytcilgihmaaobeaa
open Go.RowKit Go.Deep Go.Sd

def entOk (x : Int) : Bool := decide (0 ≤ x ∧ x ≤ 1000000)
def rowOk (n : Nat) (r : List Int) : Bool := decide (r.length = n) && r.all entOk
def isMat (m : List (List Int)) : Bool := decide (1 ≤ m.length ∧ m.length ≤ 9) && m.all (rowOk m.length)

theorem rowOk_no {n : Nat} {r : List Int} (h : r.length ≠ n) : rowOk n r = false := by unfold rowOk; simp [h]
theorem rowOk_yes {n : Nat} {r : List Int} (h : r.length = n) : rowOk n r = r.all entOk := by unfold rowOk; simp [h]


end Go.Proofs.Ytcilgihmaaobeaa
end
