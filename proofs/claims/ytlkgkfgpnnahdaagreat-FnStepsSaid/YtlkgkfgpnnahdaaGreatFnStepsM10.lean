/-
  Texts of this claim joined: laws for its walks, contracts of the functions that the law reaches.
-/
import Derived.Test.YtlkgkfgpnnahdaaGreatRows
import Derived.Test.YtlkgkfgpnnahdaaGreatFnStepsM1
import Derived.Test.YtlkgkfgpnnahdaaGreatFnStepsM3
import Derived.Test.YtlkgkfgpnnahdaaGreatFnStepsM9
import Derived.Test.YtlkgkfgpnnahdaaGreatFnStepsM4
import Derived.Test.YtlkgkfgpnnahdaaGreatFnStepsM2
import Derived.Test.YtlkgkfgpnnahdaaGreatFnStepsM8
import Derived.Test.YtlkgkfgpnnahdaaGreatFnStepsM6
import Derived.StillTailTactics
section
/-
  SplitPair: what it makes.
-/
namespace Go.Proofs.YtlkgkfgpnnahdaaGreat
open Go.RowKit Go.Deep Go.Sd

def pairE (n I k l : Nat) : Int := if l = k ∨ (k = I ∧ l = n) then 1 else 0
def pairR (n I : Nat) : List (List Int) := tabOf n (n + 1) (pairE n I)
def pairS (m : List (List Int)) (I : Nat) (P : List Int) (n : Nat) : List (List Int) := tabOf (n + 1) n (splitR m I P n)
def pairRV (m : List (List Int)) (i : Int) (P : List Int) : List (List Int) := if splitOk m i P = true then pairR m.length i.toNat else []
def pairSV (m : List (List Int)) (i : Int) (P : List Int) : List (List Int) := if splitOk m i P = true then pairS m i.toNat P m.length else []
theorem pairRV_no {m : List (List Int)} {i : Int} {P : List Int} (h : splitOk m i P = false) : pairRV m i P = [] := by unfold pairRV; rw [if_neg (by rw [h]; simp)]
theorem pairSV_no {m : List (List Int)} {i : Int} {P : List Int} (h : splitOk m i P = false) : pairSV m i P = [] := by unfold pairSV; rw [if_neg (by rw [h]; simp)]
theorem splitOk_of {m : List (List Int)} {i : Int} {P : List Int} (h : splitOk m i P = true) : ∃ I n : Nat, i = (I : Int) ∧ m.length = n ∧ I < n ∧ n ≤ 8 ∧ P.length = n ∧ splitV m i P = splitT m I P n ∧ pairRV m i P = pairR n I ∧ pairSV m i P = pairS m I P n := by
  have h2 := h
  unfold splitOk at h2
  simp only [Bool.and_eq_true, decide_eq_true_eq] at h2
  refine ⟨i.toNat, m.length, by omega, rfl, by omega, by omega, by omega, ?_, ?_, ?_⟩
  · unfold splitV; rw [if_pos h]
  · unfold pairRV; rw [if_pos h]
  · unfold pairSV; rw [if_pos h]
theorem pairR_bd {n I : Nat} (h : n ≤ 8) : (pairR n I).length ≤ 9 ∧ ∀ x, x ∈ pairR n I → x.length ≤ 9 := ⟨by rw [pairR, tabOf_len]; omega, fun x hx => by rw [mem_tabOf hx]; omega⟩
theorem pairS_bd {m : List (List Int)} {I n : Nat} {P : List Int} (h : n ≤ 8) : (pairS m I P n).length ≤ 9 ∧ ∀ x, x ∈ pairS m I P n → x.length ≤ 9 := ⟨by rw [pairS, tabOf_len]; omega, fun x hx => by rw [mem_tabOf hx]; omega⟩
theorem pairRV_bd (m : List (List Int)) (i : Int) (P : List Int) : (pairRV m i P).length ≤ 9 ∧ ∀ x, x ∈ pairRV m i P → x.length ≤ 9 := by
  cases h : splitOk m i P with
  | false => rw [pairRV_no h]; exact ⟨by simp, fun x hx => by cases hx⟩
  | true =>
    obtain ⟨I, n, _, _, _, h8, _, _, e, _⟩ := splitOk_of h
    rw [e]; exact pairR_bd h8
theorem pairSV_bd (m : List (List Int)) (i : Int) (P : List Int) : (pairSV m i P).length ≤ 9 ∧ ∀ x, x ∈ pairSV m i P → x.length ≤ 9 := by
  cases h : splitOk m i P with
  | false => rw [pairSV_no h]; exact ⟨by simp, fun x hx => by cases hx⟩
  | true =>
    obtain ⟨I, n, _, _, _, h8, _, _, _, e⟩ := splitOk_of h
    rw [e]; exact pairS_bd h8

/-- A row as the program fills it. -/
theorem pairRow_other {n I k : Nat} (hk : k < n) (h : k ≠ I) : (List.replicate (n + 1) (0 : Int)).set k 1 = rowOf' (n + 1) (pairE n I k) := by
  rw [← rowOf_const (n + 1) 0, rowOf_set]
  refine rowOf_congr fun l hl => ?_
  unfold pairE
  by_cases e : l = k
  · rw [if_pos e, if_pos (Or.inl e)]
  · rw [if_neg e, if_neg (by omega)]
theorem pairRow_split {n I : Nat} (hk : I < n) : ((List.replicate (n + 1) (0 : Int)).set I 1).set n 1 = rowOf' (n + 1) (pairE n I I) := by
  rw [← rowOf_const (n + 1) 0, rowOf_set, rowOf_set]
  refine rowOf_congr fun l hl => ?_
  unfold pairE
  by_cases e : l = n
  · rw [if_pos e, if_pos (by omega)]
  · rw [if_neg e]
    by_cases e2 : l = I
    · rw [if_pos e2, if_pos (Or.inl e2)]
    · rw [if_neg e2, if_neg (by omega)]

/-- The reference's table when k ones are in. -/
def pairD (n k : Nat) : List (List Int) := tabOf n (n + 1) (fun i j => if j = i ∧ i < k then 1 else 0)
theorem pairD_start (n : Nat) : pairD n 0 = List.replicate n (List.replicate (n + 1) 0) := by
  rw [← tabOf_const]
  exact tabOf_congr fun i _ j _ => if_neg (by omega)
theorem pairD_row {n k i : Nat} (h : i < n) : (pairD n k)[i]? = some (rowOf' (n + 1) (fun j => if j = i ∧ i < k then 1 else 0)) := tabOf_at h
theorem pairD_set {n k : Nat} : (pairD n k).set k ((rowOf' (n + 1) (fun j => if j = k ∧ k < k then 1 else 0)).set k 1) = pairD n (k + 1) := by
  unfold pairD
  rw [tabOf_set2 n (n + 1) (fun i j => if j = i ∧ i < k then 1 else 0) k k]
  refine tabOf_congr fun i _ j _ => ?_
  show (if i = k ∧ j = k then (1 : Int) else if j = i ∧ i < k then 1 else 0) = if j = i ∧ i < k + 1 then 1 else 0
  by_cases h : i = k ∧ j = k
  · rw [if_pos h, if_pos (by omega)]
  · rw [if_neg h]
    by_cases h2 : j = i ∧ i < k
    · rw [if_pos h2, if_pos (by omega)]
    · rw [if_neg h2, if_neg (by omega)]
theorem pairD_last {n I : Nat} (h : I < n) : (pairD n n).set I ((rowOf' (n + 1) (fun j => if j = I ∧ I < n then 1 else 0)).set n 1) = pairR n I := by
  unfold pairD pairR
  rw [tabOf_set2 n (n + 1) (fun i j => if j = i ∧ i < n then 1 else 0) I n]
  refine tabOf_congr fun i hi j _ => ?_
  show (if i = I ∧ j = n then (1 : Int) else if j = i ∧ i < n then 1 else 0) = pairE n I i j
  unfold pairE
  by_cases h1 : i = I ∧ j = n
  · rw [if_pos h1, if_pos (Or.inr h1)]
  · rw [if_neg h1]
    by_cases h2 : j = i ∧ i < n
    · rw [if_pos h2, if_pos (Or.inl h2.1)]
    · rw [if_neg h2, if_neg (by omega)]
theorem ent_splitT {m : List (List Int)} {I n k l : Nat} {P : List Int} (hk : k < n + 1) (hl : l < n) : ent (splitT m I P n) k l = splitR m I P n k l := by
  have e : (splitT m I P n).getD k [] = rowOf' n (splitR m I P n k) ++ [splitR m I P n k I] := by rw [List.getD_eq_getElem?_getD, splitT_at hk]; rfl
  unfold ent
  rw [e, List.getD_eq_getElem?_getD, List.getElem?_append_left (by rw [rowOf_len]; exact hl), rowOf_at hl]
  rfl
end Go.Proofs.YtlkgkfgpnnahdaaGreat
end

section
/-
  SplitPair, both sides.
-/
namespace Go.Proofs.YtlkgkfgpnnahdaaGreat
open Go.RowKit Go.Deep Go.Sd

set_option maxHeartbeats 1000000 in
theorem spec_SplitPair_c {w : World} {va vp : Value} {m : List (List Int)} {P : List Int} {i : Int} (h1 : Tab w va m) (h2 : Ints w vp P) :
    Calls Tryz.prog 28 #[va, .int .i64 i, vp] w (Makes3 (OTab 3 46) (OTab 3 46) w (pairRV m i P) (pairSV m i P) (splitOk m i P)) := by
  have Hc := Lib.hid (spec_SplitOut_c (i := i) h1 h2)
  cases hok : splitOk m i P with
  | false =>
    rw [pairRV_no hok, pairSV_no hok]
    rw [hok] at Hc
    obtain ⟨_, _, rfl, _, _, _⟩ := h1.shape
    obtain ⟨_, _, rfl, _, _, _⟩ := h2.shape
    clear h1 h2 hok
    go_enter Tryz.func28, Tryz.ntmps28
    go_wp2_with fail
    refine Hc.out.mono ?_
    rintro e w1 ⟨v1, rfl, hn1, hb1⟩
    have Hb1 := Lib.hid hb1
    clear hn1 hb1
    go_wp2
    go_ret3
    exact ⟨_, _, rfl, Apart.empties (OInts.kept _) _ Hb1.out.size, (Hb1.out.alloc Hb1.out.size _).alloc (by have := Hb1.out.size; simp; omega) _⟩
  | true =>
    obtain ⟨I, n, rfl, hn, hI, hn8, hp, eT, eR, eS⟩ := splitOk_of hok
    rw [eR, eS]
    rw [eT, hok] at Hc
    obtain ⟨aa, ac, rfl, _, _, _⟩ := h1.shape
    obtain ⟨pa, pc, rfl, _, _, _⟩ := h2.shape
    have hac : n ≤ 9223372036854775807 := by omega
    rw [hn, hp] at Hc ⊢
    clear h1 h2 hok eT eR eS hn hp
    go_enter Tryz.func28, Tryz.ntmps28
    go_wp2_with fail
    refine Hc.out.mono ?_
    rintro e w1 ⟨v1, rfl, hn1, hb1⟩
    have hz1 := hb1.size
    obtain ⟨ob, oo, oc, rfl, hob, hoe⟩ := hn1.tab.entAt (n := n + 1) (splitT_len _ _ _ _) (splitT_sq m I P n).2 (by omega)
    have Hb1 := Lib.hid hb1
    have Hz := Lib.hid (l4Zero_c (w := w1) (p := n) (r := n + 1) (by omega) (by omega))
    clear hn1 hb1 Hc
    go_wp2_with fail
    refine Hz.out.mono ?_
    rintro e w2 ⟨v2, rfl, hn2, hb2⟩
    rw [← pairD_start n] at hn2
    have ha0 := Apart.of_new (lo := w1.heap.size) (OTab.kept _ _) hn2 (New.empty (e := 46) (R := OInts 3) (lo := w2.heap.size) w2 (Nat.le_refl _)) ((Below.refl _ _).alloc (Nat.le_refl _) _) hb2.size
    obtain ⟨gb, gc, _, _, hv2, _, hgb, hgb2, _⟩ := ha0.tab_store (OTab.kept _ _) (pairD_row (show I < n from hI)) (j := 0) (x := _) (rowOf_at (by omega))
    rw [show (pairD n 0).length = n from tabOf_len _ _ _] at hv2
    subst hv2
    have Ha0 := Lib.hid ha0
    have Hb2 := Lib.hid (hb2.alloc hb2.size (.cells #[] 46))
    clear hn2 hb2 ha0 Hz
    go_wp2
    go_loopg [13] n (fun g ii wr => ∃ (k : Nat), ii = .int .i64 k ∧ k + g = n ∧ Apart (OTab 3 46) (OTab 3 46) w1.heap.size wr (.slice (some ⟨gb, 0, none⟩) n gc) (pairD n k) (.slice (some ⟨w2.heap.size, 0, none⟩) 0 0) [] ∧ Below w1.heap.size w1 wr)
    case atStart => exact ⟨0, rfl, by omega, Ha0.out, Hb2.out⟩
    case round =>
      obtain ⟨k, rfl, hk, hap, hbel⟩ := hrel
      clear Ha0 Hb2
      by_cases hlt : k < n
      · obtain ⟨b', c', rb, rc, hv, _, hlb, hltb, hcl, _, hlrb, hrb, hce, hfr, hst⟩ := hap.tab_store (OTab.kept _ _) (pairD_row hlt) (j := k) (x := 0) (by rw [rowOf_at (by omega), if_neg (by omega)])
        obtain rfl : b' = gb := by simp at hv; exact hv.1.symm
        rw [rowOf_len] at hcl
        have Hst := Lib.hid (by have := hst 1; rw [pairD_set] at this; exact this)
        have Hb3 := Lib.hid (hbel.setCell (p := ⟨rb, k, none⟩) hlrb (.int .i64 1))
        clear hv hst hap hbel
        go_wp2
        go_roundg (n - (k + 1))
        case measure => omega
        case rel => exact ⟨k + 1, by go_num, by omega, Hst.out, Hb3.out⟩
      · have e : k = n := by omega
        subst e
        obtain ⟨n, rfl⟩ : ∃ n : Nat, n = k := ⟨_, rfl⟩
        obtain ⟨b', c', rb, rc, hv, _, hlb, hltb, hcl, _, hlrb, hrb, hce, hfr, hst⟩ := hap.tab_store (OTab.kept _ _) (pairD_row hI) (j := n) (x := 0) (by rw [rowOf_at (by omega), if_neg (by omega)])
        obtain rfl : b' = gb := by simp at hv; exact hv.1.symm
        rw [rowOf_len] at hcl
        have Ha := Lib.hid (by have := hst 1; rw [pairD_last hI] at this; exact this.symm)
        have Hb2 := Lib.hid (hbel.setCell (p := ⟨rb, n, none⟩) hlrb (.int .i64 1))
        clear hv hst hap hbel hk
        go_wp2
        go_loopg [12, 14] (n + 1) (fun g v ii wr => ∃ (k : Nat), ii = .int .i64 k ∧ k + g = n + 1 ∧ Apart (OTab 3 46) (OTab 3 46) w1.heap.size wr v ((pairS m I P n).take k) (.slice (some ⟨b', 0, none⟩) n gc) (pairR n I) ∧ Below w1.heap.size w1 wr)
        case atStart => exact ⟨0, rfl, by omega, Ha.out, Hb2.out⟩
        case round =>
          obtain ⟨k, rfl, hk, hap, hbel⟩ := hrel
          clear Ha Hb2
          have hle := hbel.size
          obtain ⟨qa, qn, qc, rfl⟩ := hap.left.slice
          have Ha := Lib.hid hap
          have Hb := Lib.hid hbel
          by_cases hlt : k < n + 1
          · obtain ⟨rb, ro, rc, hA1, hrb, hA4, hA2⟩ := hoe.at hlt (by omega)
            have hcap := Ints.capn hA4
            have Hsrc := Lib.hid (show SlOf (ValR (Value.int .i64)) (wr.alloc (.cells #[] 3)) (.slice (some ⟨rb, ro, none⟩) n rc) (rowOf' n (splitR m I P n k)) from by
              have h := Ints.part (w := w1) (b := rb) (o := ro) (l := n + 1) (g := fun j => ent (splitT m I P n) k j) hA2 hrb (s := 0) (len := n) (c := rc) (by omega) (by omega) (by omega)
              rw [Nat.add_zero, rowOf_congr (g := splitR m I P n k) fun j hj => by rw [Nat.zero_add]; exact ent_splitT hlt hj] at h
              exact Ints.frame _ _ _ _ (Ints.frame _ _ _ _ h (hbel.mono (Nat.le_refl _))) ((Below.refl _ _).alloc (Nat.le_refl _) _))
            have hob2 : ob < wr.heap.size := by omega
            have hA5 : wr.cell? ⟨ob, oo + k, none⟩ = some (.slice (some ⟨rb, ro, none⟩) (n + 1) rc) := (hbel.rule ob (oo + k) hob).trans hA1
            have hc1 : n ≤ rc := by omega
            have hc2 : (n : Int) ≤ (rc : Int) := by omega
            have Hs := Lib.hid (show _ = _ from take_snoc' (show (pairS m I P n)[k]? = some (rowOf' n (splitR m I P n k)) from tabOf_at hlt))
            have Hlk := Lib.hid (show ((pairS m I P n).take k).length ≤ n + 1 from by rw [List.length_take]; omega)
            have Hm := Lib.hid (show ∀ wm ya yn yc, New (OInts 3) wr.heap.size wm (.slice ya yn yc) (rowOf' n (splitR m I P n k)) → Below wr.heap.size wr wm → ∃ xa xn xc w', (Builtin.append_ #[24, 24] 24 #[.slice qa qn qc, .slice (some ⟨wm.heap.size, 0, none⟩) 1 1]).run Tryz.prog (wm.alloc (.cells #[.slice ya yn yc] 46)) = .ok (.slice xa xn xc) w' ∧ Apart (OTab 3 46) (OTab 3 46) w1.heap.size w' (.slice xa xn xc) ((pairS m I P n).take (k + 1)) (.slice (some ⟨b', 0, none⟩) n gc) (pairR n I) ∧ Below w1.heap.size wr w' from by
              intro wm ya yn yc hn hb
              have hz := hb.size
              obtain ⟨v', w', hr, hap', hb'⟩ := Apart.grow (P := Tryz.prog) (OInts.kept _) (OTab.kept _ _) 24 24 (.slice none 0 0) 24 Tryz.underlying24 infoR rfl Ha.out hle (w1 := wm.alloc (.cells #[.slice ya yn yc] 46)) (hb.alloc (by omega) _) (New.keep (OInts.kept _) hn ((Below.refl _ _).alloc (Nat.le_refl _) _) (Nat.le_refl _)) (bb := wm.heap.size) (c := 1) (World.cell?_alloc_at _ _ _ 0 rfl) (by have := Hlk.out; omega) (by have := Hlk.out; omega)
              rw [Hs.out] at hap'
              obtain ⟨xa, xn, xc, rfl⟩ := hap'.left.slice
              exact ⟨_, _, _, w', hr, hap', hb'⟩)
            clear hap hbel hA4 hA2 hoe Ha hcap hA1
            go_wp2_with (first
              | (at_builtin; refine wpl_append_vals (f := Value.int .i64) (fun _ => rfl) rfl (.tmp 58) (.tmp 65) 46 rfl 3 (.int .i64 0) 8 Tryz.underlying46 infoI rfl (New.empty (R := OValR (Value.int .i64)) (lo := wr.heap.size) wr (Nat.le_refl _)) (by simp) Hsrc.out rfl rfl (by rw [rowOf_len]; simp; omega) (by rw [rowOf_len]; simp; omega) ?_; intro um wm hnm _ _ hbm; obtain ⟨ya, yn, yc, rfl⟩ := hnm.slice; obtain ⟨xa, xn, xc, w', hr, hap, hb'⟩ := Hm.out wm ya yn yc hnm (((Below.refl wr.heap.size wr).alloc (Nat.le_refl _) (.cells #[] 3)).trans hbm); have Hr := Lib.hid hr; have Hap := Lib.hid hap; have Hb' := Lib.hid (Hb.out.trans hb'); clear hnm hbm hr hap hb' Hm)
              | (at_builtin; refine wpl_append_run rfl (.tmp 57) (.tmp 67) 24 rfl rfl rfl Hr.out ?_)
              | fail)
            go_roundg (n + 1 - (k + 1))
            case measure => omega
            case rel => exact ⟨k + 1, by go_num, by omega, Hap.out, Hb'.out⟩
          · have e : k = n + 1 := by omega
            subst e
            rw [show (pairS m I P n).take (n + 1) = pairS m I P n from tabOf_full] at hap
            have Hf := Lib.hid (hap.symm.mono hz1)
            have Hbf := Lib.hid (Hb1.out.trans (hbel.mono hz1))
            clear hap hbel Ha Hb hk
            go_wp2
            go_ret3
            exact ⟨_, _, rfl, Hf.out, Hbf.out⟩
end Go.Proofs.YtlkgkfgpnnahdaaGreat
end

section
/-
  Rows and tables compared, both sides.
-/
namespace Go.Proofs.YtlkgkfgpnnahdaaGreat
open Go.RowKit Go.Deep Go.Sd

set_option maxHeartbeats 400000 in
theorem l4SameRow_c {w : World} {v1 v2 : Value} {xs ys : List Int} (h1 : Ints w v1 xs) (h2 : Ints w v2 ys) :
    Calls Tryz.prog 64 #[v1, v2] w (Reads w (.bool (decide (xs = ys)))) := by
  have hlen1 := h1.len
  have hlen2 := h2.len
  obtain ⟨a1, c1, rfl, _, _, hc1⟩ := h1.shape
  obtain ⟨a2, c2, rfl, _, _, hc2⟩ := h2.shape
  clear h1 h2
  by_cases hl : xs.length = ys.length
  · have H0 := Lib.hid (show decide (xs = ys) = eqLoop (xs.drop 0) (ys.drop 0) from (eqLoop_iff xs ys hl).symm)
    have hl1 : ((ys.length : Int) != ys.length) = false := by simp
    have hl2 := Lib.hid hl
    obtain ⟨n, hn⟩ : ∃ n, n = xs.length := ⟨_, rfl⟩
    rw [← hl, ← hn]
    have hnb : n ≤ 9223372036854775807 := by omega
    have hl3 := Lib.hid hn
    clear hl hn
    go_enter Tryz.func64, Tryz.ntmps64
    go_wp2
    go_loopg [5] n (fun g i wr => ∃ (k : Nat), i = .int .i64 k ∧ k + g = n ∧ Hid (decide (xs = ys) = eqLoop (xs.drop k) (ys.drop k)) ∧ Drawn w wr)
    case atStart => exact ⟨0, rfl, by omega, H0, Drawn.refl _⟩
    case round =>
      obtain ⟨k, rfl, hk, H, hdr⟩ := hrel
      by_cases hlt : k < n
      · obtain ⟨b1, o1, rfl, _, hx1⟩ := hc1 (by have := hl3.out; omega)
        obtain ⟨b2, o2, rfl, _, hx2⟩ := hc2 (by have := hl3.out; have := hl2.out; omega)
        obtain ⟨x, hx, hdx⟩ := at_lt (xs := xs) (k := k) (by have := hl3.out; omega)
        obtain ⟨y, hy, hdy⟩ := at_lt (xs := ys) (k := k) (by have := hl3.out; have := hl2.out; omega)
        obtain ⟨u1, hu1, rfl⟩ := hx1 k x hx
        obtain ⟨u2, hu2, rfl⟩ := hx2 k y hy
        rw [← hdr.cell] at hu1 hu2
        have H1 := Lib.hid (show decide (xs = ys) = if x = y then eqLoop (xs.drop (k + 1)) (ys.drop (k + 1)) else false from by rw [H.out, hdx, hdy]; rfl)
        clear H hx hdx hy hdy hx1 hx2 hc1 hc2 H0
        by_cases hxy : x = y
        · have H2 := Lib.hid (show decide (xs = ys) = eqLoop (xs.drop (k + 1)) (ys.drop (k + 1)) from by rw [H1.out, if_pos hxy])
          have hd : (x != y) = false := by simp [hxy]
          have hi1 : (k : Int) < (n : Int) := by omega
          clear hxy H1
          go_wp2
          go_quiet (fail)
          go_wp2
          go_roundg (n - (k + 1))
          case measure => omega
          case rel => exact ⟨k + 1, by go_num, by omega, H2, hdr.drewN _⟩
        · have H2 := Lib.hid (show decide (xs = ys) = false from by rw [H1.out, if_neg hxy])
          have hd : (x != y) = true := by simp [hxy]
          have hi1 : (k : Int) < (n : Int) := by omega
          clear hxy H1
          go_wp2
          go_quiet (fail)
          go_wp2
          go_ret
          exact ⟨by rw [H2.out]; rfl, hdr.drewN _⟩
      · have H1 := Lib.hid (show decide (xs = ys) = true from by rw [H.out, drop_len (by have := hl3.out; omega)]; rfl)
        clear H
        go_wp2
        go_ret
        exact ⟨by rw [H1.out]; rfl, hdr⟩
  · have H := Lib.hid (show decide (xs = ys) = false from by simp; intro h; exact hl (by rw [h]))
    have hl1 : ((xs.length : Int) != ys.length) = true := by simp; omega
    go_enter Tryz.func64, Tryz.ntmps64
    go_wp2
    go_ret
    exact ⟨by rw [H.out]; rfl, Drawn.refl _⟩
set_option maxHeartbeats 400000 in
theorem spec_EqualMatrix_c {w : World} {v1 v2 : Value} {xs ys : List (List Int)} (h1 : Tab w v1 xs) (h2 : Tab w v2 ys) :
    Calls Tryz.prog 39 #[v1, v2] w (Reads w (.bool (decide (xs = ys)))) := by
  have hlen1 := h1.len
  have hlen2 := h2.len
  obtain ⟨a1, c1, rfl, _, _, hc1⟩ := h1.shape
  obtain ⟨a2, c2, rfl, _, _, hc2⟩ := h2.shape
  clear h1 h2
  by_cases hl : xs.length = ys.length
  · have H0 := Lib.hid (show decide (xs = ys) = eqLoopT (xs.drop 0) (ys.drop 0) from (eqLoopT_iff xs ys hl).symm)
    have hl2 := Lib.hid hl
    obtain ⟨n, hn⟩ : ∃ n, n = xs.length := ⟨_, rfl⟩
    rw [← hl, ← hn]
    have hnb : n ≤ 9223372036854775807 := by omega
    have hl3 := Lib.hid hn
    clear hl hn
    go_enter Tryz.func39, Tryz.ntmps39
    go_wp2
    go_loopg [5] n (fun g i wr => ∃ (k : Nat), i = .int .i64 k ∧ k + g = n ∧ Hid (decide (xs = ys) = eqLoopT (xs.drop k) (ys.drop k)) ∧ Drawn w wr)
    case atStart => exact ⟨0, rfl, by omega, H0, Drawn.refl _⟩
    case round =>
      obtain ⟨k, rfl, hk, H, hdr⟩ := hrel
      by_cases hlt : k < n
      · obtain ⟨b1, o1, rfl, _, hx1⟩ := hc1 (by have := hl3.out; omega)
        obtain ⟨b2, o2, rfl, _, hx2⟩ := hc2 (by have := hl3.out; have := hl2.out; omega)
        obtain ⟨x, hx, hdx⟩ := at_lt (xs := xs) (k := k) (by have := hl3.out; omega)
        obtain ⟨y, hy, hdy⟩ := at_lt (xs := ys) (k := k) (by have := hl3.out; have := hl2.out; omega)
        obtain ⟨u1, hu1, hr1⟩ := hx1 k x hx
        obtain ⟨u2, hu2, hr2⟩ := hx2 k y hy
        rw [← hdr.cell] at hu1 hu2
        have H1 := Lib.hid (show decide (xs = ys) = if x = y then eqLoopT (xs.drop (k + 1)) (ys.drop (k + 1)) else false from by rw [H.out, hdx, hdy]; rfl)
        have hi1 : (k : Int) < (n : Int) := by omega
        have Hc := Lib.hid (fun n => Reads.quiet (l4SameRow_c ((hdr.read Ints.frame hr1).dn n) ((hdr.read Ints.frame hr2).dn n)))
        clear H hx hdx hy hdy hx1 hx2 hc1 hc2 H0 hr1 hr2
        by_cases hxy : x = y
        · have H2 := Lib.hid (show decide (xs = ys) = eqLoopT (xs.drop (k + 1)) (ys.drop (k + 1)) from by rw [H1.out, if_pos hxy])
          have hd : decide (x = y) = true := by simp [hxy]
          rw [hd] at Hc
          clear hxy H1 hd
          go_wp2
          go_quiet ((go_at_call 64; exact Hc.out _))
          go_wp2
          go_roundg (n - (k + 1))
          case measure => omega
          case rel => exact ⟨k + 1, by go_num, by omega, H2, hdr.drewN _⟩
        · have H2 := Lib.hid (show decide (xs = ys) = false from by rw [H1.out, if_neg hxy])
          have hd : decide (x = y) = false := by simp [hxy]
          rw [hd] at Hc
          clear hxy H1 hd
          go_wp2
          go_quiet ((go_at_call 64; exact Hc.out _))
          go_wp2
          go_ret
          exact ⟨by rw [H2.out]; rfl, hdr.drewN _⟩
      · have H1 := Lib.hid (show decide (xs = ys) = true from by rw [H.out, drop_len (by have := hl3.out; omega)]; rfl)
        clear H
        go_wp2
        go_ret
        exact ⟨by rw [H1.out]; rfl, hdr⟩
  · have H := Lib.hid (show decide (xs = ys) = false from by simp; intro h; exact hl (by rw [h]))
    have hl1 : ((xs.length : Int) != ys.length) = true := by simp; omega
    go_enter Tryz.func39, Tryz.ntmps39
    go_wp2
    go_ret
    exact ⟨by rw [H.out]; rfl, Drawn.refl _⟩
set_option maxHeartbeats 400000 in
theorem sEqual_c {w : World} {v1 v2 : Value} {xs ys : List Int} (h1 : Ints w v1 xs) (h2 : Ints w v2 ys) :
    Calls Tryz.prog 106 #[v1, v2] w (Reads w (.bool (decide (xs = ys)))) := by
  have hlen1 := h1.len
  have hlen2 := h2.len
  obtain ⟨a1, c1, rfl, _, _, hc1⟩ := h1.shape
  obtain ⟨a2, c2, rfl, _, _, hc2⟩ := h2.shape
  clear h1 h2
  by_cases hl : xs.length = ys.length
  · have H0 := Lib.hid (show decide (xs = ys) = eqLoop (xs.drop 0) (ys.drop 0) from (eqLoop_iff xs ys hl).symm)
    have hl1 : ((ys.length : Int) != ys.length) = false := by simp
    have hl2 := Lib.hid hl
    obtain ⟨n, hn⟩ : ∃ n, n = xs.length := ⟨_, rfl⟩
    rw [← hl, ← hn]
    have hnb : n ≤ 9223372036854775807 := by omega
    have hl3 := Lib.hid hn
    clear hl hn
    go_enter Tryz.func106, Tryz.ntmps106
    go_wp2
    go_loopg [13] n (fun g i wr => ∃ (k : Nat), i = .int .i64 k ∧ k + g = n ∧ Hid (decide (xs = ys) = eqLoop (xs.drop k) (ys.drop k)) ∧ Drawn w wr)
    case atStart => exact ⟨0, rfl, by omega, H0, Drawn.refl _⟩
    case round =>
      obtain ⟨k, rfl, hk, H, hdr⟩ := hrel
      by_cases hlt : k < n
      · obtain ⟨b1, o1, rfl, _, hx1⟩ := hc1 (by have := hl3.out; omega)
        obtain ⟨b2, o2, rfl, _, hx2⟩ := hc2 (by have := hl3.out; have := hl2.out; omega)
        obtain ⟨x, hx, hdx⟩ := at_lt (xs := xs) (k := k) (by have := hl3.out; omega)
        obtain ⟨y, hy, hdy⟩ := at_lt (xs := ys) (k := k) (by have := hl3.out; have := hl2.out; omega)
        obtain ⟨u1, hu1, rfl⟩ := hx1 k x hx
        obtain ⟨u2, hu2, rfl⟩ := hx2 k y hy
        rw [← hdr.cell] at hu1 hu2
        have H1 := Lib.hid (show decide (xs = ys) = if x = y then eqLoop (xs.drop (k + 1)) (ys.drop (k + 1)) else false from by rw [H.out, hdx, hdy]; rfl)
        clear H hx hdx hy hdy hx1 hx2 hc1 hc2 H0
        by_cases hxy : x = y
        · have H2 := Lib.hid (show decide (xs = ys) = eqLoop (xs.drop (k + 1)) (ys.drop (k + 1)) from by rw [H1.out, if_pos hxy])
          have hd : (x != y) = false := by simp [hxy]
          have hi1 : (k : Int) < (n : Int) := by omega
          clear hxy H1
          go_wp2
          go_quiet (fail)
          go_wp2
          go_roundg (n - (k + 1))
          case measure => omega
          case rel => exact ⟨k + 1, by go_num, by omega, H2, hdr.drewN _⟩
        · have H2 := Lib.hid (show decide (xs = ys) = false from by rw [H1.out, if_neg hxy])
          have hd : (x != y) = true := by simp [hxy]
          have hi1 : (k : Int) < (n : Int) := by omega
          clear hxy H1
          go_wp2
          go_quiet (fail)
          go_wp2
          go_ret
          exact ⟨by rw [H2.out]; rfl, hdr.drewN _⟩
      · have H1 := Lib.hid (show decide (xs = ys) = true from by rw [H.out, drop_len (by have := hl3.out; omega)]; rfl)
        clear H
        go_wp2
        go_ret
        exact ⟨by rw [H1.out]; rfl, hdr⟩
  · have H := Lib.hid (show decide (xs = ys) = false from by simp; intro h; exact hl (by rw [h]))
    have hl1 : ((xs.length : Int) != ys.length) = true := by simp; omega
    go_enter Tryz.func106, Tryz.ntmps106
    go_wp2
    go_ret
    exact ⟨by rw [H.out]; rfl, Drawn.refl _⟩
set_option maxHeartbeats 400000 in
theorem sEqualFunc_c {w : World} {v1 v2 : Value} {xs ys : List (List Int)} (h1 : Tab w v1 xs) (h2 : Tab w v2 ys) :
    Calls Tryz.prog 105 #[v1, v2, .func (.func 106) #[] #[]] w (Reads w (.bool (decide (xs = ys)))) := by
  have hlen1 := h1.len
  have hlen2 := h2.len
  obtain ⟨a1, c1, rfl, _, _, hc1⟩ := h1.shape
  obtain ⟨a2, c2, rfl, _, _, hc2⟩ := h2.shape
  clear h1 h2
  by_cases hl : xs.length = ys.length
  · have H0 := Lib.hid (show decide (xs = ys) = eqLoopT (xs.drop 0) (ys.drop 0) from (eqLoopT_iff xs ys hl).symm)
    have hl2 := Lib.hid hl
    obtain ⟨n, hn⟩ : ∃ n, n = xs.length := ⟨_, rfl⟩
    rw [← hl, ← hn]
    have hnb : n ≤ 9223372036854775807 := by omega
    have hl3 := Lib.hid hn
    clear hl hn
    go_enter Tryz.func105, Tryz.ntmps105
    go_wp2
    go_loopg [17] n (fun g i wr => ∃ (k : Nat), i = .int .i64 k ∧ k + g = n ∧ Hid (decide (xs = ys) = eqLoopT (xs.drop k) (ys.drop k)) ∧ Drawn w wr)
    case atStart => exact ⟨0, rfl, by omega, H0, Drawn.refl _⟩
    case round =>
      obtain ⟨k, rfl, hk, H, hdr⟩ := hrel
      by_cases hlt : k < n
      · obtain ⟨b1, o1, rfl, _, hx1⟩ := hc1 (by have := hl3.out; omega)
        obtain ⟨b2, o2, rfl, _, hx2⟩ := hc2 (by have := hl3.out; have := hl2.out; omega)
        obtain ⟨x, hx, hdx⟩ := at_lt (xs := xs) (k := k) (by have := hl3.out; omega)
        obtain ⟨y, hy, hdy⟩ := at_lt (xs := ys) (k := k) (by have := hl3.out; have := hl2.out; omega)
        obtain ⟨u1, hu1, hr1⟩ := hx1 k x hx
        obtain ⟨u2, hu2, hr2⟩ := hx2 k y hy
        rw [← hdr.cell] at hu1 hu2
        have H1 := Lib.hid (show decide (xs = ys) = if x = y then eqLoopT (xs.drop (k + 1)) (ys.drop (k + 1)) else false from by rw [H.out, hdx, hdy]; rfl)
        have hi1 : (k : Int) < (n : Int) := by omega
        have Hc := Lib.hid (sEqual_c (hdr.read Ints.frame hr1) (hdr.read Ints.frame hr2))
        clear H hx hdx hy hdy hx1 hx2 hc1 hc2 H0 hr1 hr2
        by_cases hxy : x = y
        · have H2 := Lib.hid (show decide (xs = ys) = eqLoopT (xs.drop (k + 1)) (ys.drop (k + 1)) from by rw [H1.out, if_pos hxy])
          have hd : decide (x = y) = true := by simp [hxy]
          rw [hd] at Hc
          clear hxy H1 hd
          go_wp2_with (go_at_call 106; refine Hc.out.mono ?_; rintro e w2 ⟨rfl, hd2⟩; replace hdr := hdr.trans hd2)
          go_roundg (n - (k + 1))
          case measure => omega
          case rel => exact ⟨k + 1, by go_num, by omega, H2, hdr⟩
        · have H2 := Lib.hid (show decide (xs = ys) = false from by rw [H1.out, if_neg hxy])
          have hd : decide (x = y) = false := by simp [hxy]
          rw [hd] at Hc
          clear hxy H1 hd
          go_wp2_with (go_at_call 106; refine Hc.out.mono ?_; rintro e w2 ⟨rfl, hd2⟩; replace hdr := hdr.trans hd2)
          go_ret
          exact ⟨by rw [H2.out]; rfl, hdr⟩
      · have H1 := Lib.hid (show decide (xs = ys) = true from by rw [H.out, drop_len (by have := hl3.out; omega)]; rfl)
        clear H
        go_wp2
        go_ret
        exact ⟨by rw [H1.out]; rfl, hdr⟩
  · have H := Lib.hid (show decide (xs = ys) = false from by simp; intro h; exact hl (by rw [h]))
    have hl1 : ((xs.length : Int) != ys.length) = true := by simp; omega
    go_enter Tryz.func105, Tryz.ntmps105
    go_wp2
    go_ret
    exact ⟨by rw [H.out]; rfl, Drawn.refl _⟩
theorem impl_EqualMatrix_c {w : World} {v1 v2 : Value} {xs ys : List (List Int)} (h1 : Tab w v1 xs) (h2 : Tab w v2 ys) :
    Calls Tryz.prog 84 #[v1, v2] w (Reads w (.bool (decide (xs = ys)))) := by
  have Hc := Lib.hid (sEqualFunc_c h1 h2)
  obtain ⟨a1, c1, rfl, _, _, _⟩ := h1.shape
  obtain ⟨a2, c2, rfl, _, _, _⟩ := h2.shape
  clear h1 h2
  go_enter Tryz.func84, Tryz.ntmps84
  go_wp2_with fail
  refine Hc.out.mono ?_
  rintro e w1 ⟨rfl, hd⟩
  go_wp2
  go_ret
  exact ⟨rfl, hd⟩
end Go.Proofs.YtlkgkfgpnnahdaaGreat
end

section
/-
  The laws' helpers on lists of tables.
-/
namespace Go.Proofs.YtlkgkfgpnnahdaaGreat
open Go.RowKit Go.Deep Go.Sd

theorem infoT : (Tryz.prog.info? 24).map (fun i => (i.zero, i.size, i.bytes)) = some (some (.slice none 0 0), 1, 24) := by kernel_rfl
def szLoop3 : List (List (List Int)) → Int → Int
  | [], l => l
  | t :: ts, l => if szSS t l < 0 then -1 else szLoop3 ts (szSS t l)
def szSSS (m : List (List (List Int))) (l : Int) : Int := if l - m.length < 0 then -1 else szLoop3 m (l - m.length)
theorem szLoop3_bd : ∀ (m : List (List (List Int))) (l : Int), 0 ≤ l → -1 ≤ szLoop3 m l ∧ szLoop3 m l ≤ l ∧ (0 ≤ szLoop3 m l → ∀ t, t ∈ m → (t.length : Int) ≤ l ∧ ∀ r, r ∈ t → (r.length : Int) ≤ l)
  | [], l, h => ⟨by unfold szLoop3; omega, by unfold szLoop3; omega, fun _ t ht => by cases ht⟩
  | t :: ts, l, h => by
    have h1 := szSS_bd t l h
    unfold szLoop3
    by_cases hn : szSS t l < 0
    · rw [if_pos hn]; exact ⟨by omega, by omega, fun h0 => by omega⟩
    · rw [if_neg hn]
      have h2 := szLoop3_bd ts (szSS t l) (by omega)
      refine ⟨h2.1, by omega, fun h0 u hu => ?_⟩
      rcases List.mem_cons.1 hu with rfl | hu
      · have h3 := h1.2.2 (by omega)
        exact ⟨h3.1, fun r hr => h3.2 r hr⟩
      · have h3 := h2.2.2 h0 u hu
        exact ⟨by omega, fun r hr => by have := h3.2 r hr; omega⟩
theorem szSSS_bd (m : List (List (List Int))) (l : Int) (h : 0 ≤ l) : -1 ≤ szSSS m l ∧ szSSS m l ≤ l ∧ (0 ≤ szSSS m l → (m.length : Int) ≤ l ∧ ∀ t, t ∈ m → (t.length : Int) ≤ l ∧ ∀ r, r ∈ t → (r.length : Int) ≤ l) := by
  unfold szSSS
  by_cases hn : l - m.length < 0
  · rw [if_pos hn]; exact ⟨by omega, by omega, fun h0 => by omega⟩
  · rw [if_neg hn]
    have h2 := szLoop3_bd m (l - m.length) (by omega)
    refine ⟨h2.1, by omega, fun h0 => ⟨by omega, fun t ht => ?_⟩⟩
    have h3 := h2.2.2 h0 t ht
    exact ⟨by omega, fun r hr => by have := h3.2 r hr; omega⟩
end Go.Proofs.YtlkgkfgpnnahdaaGreat
end

section
/-
  Rows and columns exchanged: pure part.
-/
namespace Go.Proofs.YtlkgkfgpnnahdaaGreat
open Go.RowKit Go.Deep Go.Sd

def turnT (m : List (List Int)) (n : Nat) : List (List Int) := tabOf n n (fun i j => ent m j i)
def turnV (m : List (List Int)) : List (List Int) := if isMat m = true then turnT m m.length else []
theorem turnT_sq (m : List (List Int)) (n : Nat) : Sq n (turnT m n) := ⟨tabOf_len _ _ _, fun _ h => mem_tabOf h⟩
theorem turnT_bd {m : List (List Int)} {n : Nat} (h : n ≤ 9) : (turnT m n).length ≤ 9 ∧ ∀ x, x ∈ turnT m n → x.length ≤ 9 := ⟨by rw [(turnT_sq m n).1]; exact h, fun x hx => by rw [(turnT_sq m n).2 x hx]; exact h⟩

/-- The table being turned row by row: rows before i are in. -/
def turnF (m : List (List Int)) (n i k : Nat) : List (List Int) := tabOf n n (fun r c => if c < i ∨ (c = i ∧ r < k) then ent m c r else 0)
theorem turnF_start (m : List (List Int)) (n : Nat) : turnF m n 0 0 = List.replicate n (List.replicate n 0) := by
  rw [← tabOf_const]
  exact tabOf_congr fun i _ j _ => if_neg (by omega)
theorem turnF_row {m : List (List Int)} {n i k : Nat} (hk : k < n) : (turnF m n i k)[k]? = some (rowOf' n (fun c => if c < i ∨ (c = i ∧ k < k) then ent m c k else 0)) := tabOf_at hk
theorem turnF_at {m : List (List Int)} {n i k : Nat} (hi : i < n) : (rowOf' n (fun c => if c < i ∨ (c = i ∧ k < k) then ent m c k else 0))[i]? = some 0 := by
  rw [rowOf_at hi, if_neg (by omega)]
theorem turnF_set {m : List (List Int)} {n i k : Nat} :
    (turnF m n i k).set k ((rowOf' n (fun c => if c < i ∨ (c = i ∧ k < k) then ent m c k else 0)).set i (ent m i k)) = turnF m n i (k + 1) := by
  unfold turnF
  rw [tabOf_set2 n n (fun r c => if c < i ∨ (c = i ∧ r < k) then ent m c r else 0) k i]
  refine tabOf_congr fun r _ c _ => ?_
  show (if r = k ∧ c = i then ent m i k else if c < i ∨ (c = i ∧ r < k) then ent m c r else 0) = if c < i ∨ (c = i ∧ r < k + 1) then ent m c r else 0
  by_cases h : r = k ∧ c = i
  · obtain ⟨rfl, rfl⟩ := h
    rw [if_pos ⟨rfl, rfl⟩, if_pos (by omega)]
  · rw [if_neg h]
    by_cases h2 : c < i ∨ (c = i ∧ r < k)
    · rw [if_pos h2, if_pos (by omega)]
    · rw [if_neg h2, if_neg (by omega)]
theorem turnF_next {m : List (List Int)} {n i : Nat} : turnF m n i n = turnF m n (i + 1) 0 := tabOf_congr fun r _ c _ => by
  by_cases h : c < i ∨ (c = i ∧ r < n)
  · rw [if_pos h, if_pos (by omega)]
  · rw [if_neg h, if_neg (by omega)]
theorem turnF_end {m : List (List Int)} {n : Nat} : turnF m n n 0 = turnT m n := tabOf_congr fun r _ c _ => by rw [if_pos (by omega)]
end Go.Proofs.YtlkgkfgpnnahdaaGreat
end

section
/-
  Rows and columns exchanged, both sides.
-/
namespace Go.Proofs.YtlkgkfgpnnahdaaGreat
open Go.RowKit Go.Deep Go.Sd

set_option maxHeartbeats 1000000 in
theorem turned_c {w : World} {va : Value} {m : List (List Int)} {n : Nat} (h1 : Tab w va m) (hm : Sq n m) (hn0 : 0 < n) (hn : n ≤ 9) :
    Calls Tryz.prog 44 #[va] w (Makes (OTab 3 46) w (turnT m n)) := by
  obtain ⟨ab, ao, ac, rfl, hab, hae⟩ := h1.entAt hm.1 hm.2 hn0
  obtain ⟨zb, zo, zc, hz1, hzb, _, _⟩ := hae.at hn0 hn0
  rw [Nat.add_zero] at hz1
  have hn1 : (0 : Int) < (n : Int) := by omega
  clear h1 hm
  go_enter Tryz.func44, Tryz.ntmps44
  go_wp2
  clear hz1 hn1
  go_loopg [3, 12] n (fun g v jj wr => ∃ (j : Nat), jj = .int .i64 j ∧ j + g = n ∧ New (OTab 3 46) w.heap.size wr v ((turnT m n).take j) ∧ Below w.heap.size w wr)
  case atStart => exact ⟨0, rfl, by omega, New.empty w (Nat.le_refl _), (Below.refl _ _).alloc (Nat.le_refl _) _⟩
  case round =>
    obtain ⟨j, rfl, hj, hnew, hbel⟩ := hrel
    by_cases hlt : j < n
    · obtain ⟨wo, rfl⟩ : ∃ wo : World, wo = wr := ⟨_, rfl⟩
      have hle := hbel.size
      have Hn := Lib.hid hnew
      have Hb := Lib.hid hbel
      have Hlk := Lib.hid (show ((turnT m n).take j).length ≤ n from by rw [List.length_take]; omega)
      clear hnew hbel
      go_wp2
      go_loopg [5, 18] n (fun g lv ii wr => ∃ (i : Nat), ii = .int .i64 i ∧ i + g = n ∧ New (OInts 3) wo.heap.size wr lv ((rowOf' n (fun i => ent m i j)).take i) ∧ Below wo.heap.size wo wr)
      case atStart => exact ⟨0, rfl, by omega, New.empty wo (Nat.le_refl _), (Below.refl _ _).alloc (Nat.le_refl _) _⟩
      case round =>
        obtain ⟨i, rfl, hi, hnew, hbel⟩ := hrel
        obtain ⟨wi, rfl⟩ : ∃ wi : World, wi = wr := ⟨_, rfl⟩
        have hle2 := hbel.size
        have hrule2 : ∀ b o, b < w.heap.size → wi.cell? ⟨b, o, none⟩ = w.cell? ⟨b, o, none⟩ := fun b o hb => (hbel.rule b o (by omega)).trans (Hb.out.rule b o hb)
        have Hn2 := Lib.hid hnew
        have Hb2 := Lib.hid hbel
        have Hll := Lib.hid (show ((rowOf' n (fun i => ent m i j)).take i).length ≤ n from by rw [List.length_take]; omega)
        clear hnew hbel
        by_cases hlt2 : i < n
        · obtain ⟨rb, ro, rc, hA1, hrb, _, hA2⟩ := hae.at hlt2 hn0
          have hA3 := hA2 j hlt
          have Hs := Lib.hid (show _ = _ from take_snoc' (show (rowOf' n (fun i => ent m i j))[i]? = some (ent m i j) from rowOf_at hlt2))
          have hi1 : (i : Int) < (n : Int) := by omega
          have hi2 : (j : Int) < (n : Int) := by omega
          generalize ent m i j = X at *
          clear hA2 hae
          go_wp2_with (at_builtin; refine wpl_push (w0 := wi) (lo := wo.heap.size) (y := X) OIntR.kept rfl (.tmp 21) (.tmp 29) 46 rfl 3 (.int .i64 0) 8 Tryz.underlying46 infoI rfl Hn2.out hle2 ((Below.refl _ _).alloc (Nat.le_refl _) _) ⟨[], ⟨rfl, rfl⟩, by simp [Fresh]⟩ (bb := wi.heap.size) (c := 1) (by simp) rfl rfl (by have := Hll.out; omega) (by have := Hll.out; omega) ?_; intro v1 w1 hn1 _ _ hb1)
          go_roundg (n - (i + 1))
          case measure => omega
          case rel => exact ⟨i + 1, by go_num, by omega, by rw [← Hs.out]; exact hn1, Hb2.out.trans hb1⟩
        · have e : i = n := by omega
          subst e
          have hr := Hn2.out
          rw [rowOf_full] at hr
          obtain ⟨xa, xn, xc, rfl⟩ := hr.slice
          have Hr := Lib.hid hr
          have Hs := Lib.hid (show _ = _ from take_snoc' (show (turnT m i)[j]? = some (rowOf' i (fun k => ent m k j)) from tabOf_at hlt))
          clear hr hae
          go_wp2_with (at_builtin; refine wpl_push (w0 := wo) (lo := w.heap.size) (OInts.kept _) rfl (.tmp 32) (.tmp 34) 24 rfl 46 (.slice none 0 0) 24 Tryz.underlying24 infoR rfl Hn.out hle (Hb2.out.alloc hle2 _) (New.keep (OInts.kept _) Hr.out ((Below.refl wi.heap.size _).alloc (Nat.le_refl _) _) (Nat.le_refl _)) (bb := wi.heap.size) (c := 1) (by simp) rfl rfl (by have := Hlk.out; omega) (by have := Hlk.out; omega) ?_; intro v1 w1 hn1 _ _ hb1)
          go_roundg (i - (j + 1))
          case measure => omega
          case rel => exact ⟨j + 1, by go_num, by omega, by rw [← Hs.out]; exact hn1, Hb.out.trans hb1⟩
    · have e : j = n := by omega
      subst e
      have Hr := Lib.hid (show New (OTab 3 46) w.heap.size wr _ (turnT m j) from by have h := hnew; rw [show turnT m j = tabOf j j (fun i k => ent m k i) from rfl, tabOf_full] at h; exact h)
      clear hnew hae
      go_wp2
      go_ret
      exact ⟨_, rfl, Hr.out, hbel⟩

set_option maxHeartbeats 1000000 in
set_option maxRecDepth 100000 in
theorem l4Turn_c {w : World} {va : Value} {m : List (List Int)} {n : Nat} (h1 : Tab w va m) (hm : Sq n m) (hn0 : 0 < n) (hn : n ≤ 9) :
    Calls Tryz.prog 88 #[va] w (Makes (OTab 3 46) w (turnT m n)) := by
  obtain ⟨ab, ao, ac, rfl, hab, hae⟩ := h1.entAt hm.1 hm.2 hn0
  have Hz := Lib.hid (l4Zero_c (w := w) (p := n) (r := n) (by omega) (by omega))
  clear h1 hm
  go_enter Tryz.func88, Tryz.ntmps88
  go_wp2_with fail
  refine Hz.out.mono ?_
  rintro e w1 ⟨v1, rfl, hn1, hb1⟩
  rw [← turnF_start m n] at hn1
  obtain ⟨gb, gc, _, _, rfl, _, hgb, hgb2, _⟩ := hn1.tab_at (turnF_row hn0) (turnF_at hn0)
  rw [show (turnF m n 0 0).length = n from tabOf_len _ _ _] at hn1 ⊢
  have Hn1 := Lib.hid hn1
  have Hb1 := Lib.hid hb1
  clear hn1 hb1 Hz
  go_wp2
  go_loopg [4] n (fun g ii wr => ∃ (i : Nat), ii = .int .i64 i ∧ i + g = n ∧ New (OTab 3 46) w.heap.size wr (.slice (some ⟨gb, 0, none⟩) n gc) (turnF m n i 0) ∧ Below w.heap.size w wr)
  case atStart => exact ⟨0, rfl, by omega, Hn1.out, Hb1.out⟩
  case round =>
    obtain ⟨i, rfl, hi, hnew, hbel⟩ := hrel
    have Hn := Lib.hid hnew
    have Hb := Lib.hid hbel
    clear hnew hbel
    by_cases hlt : i < n
    · go_wp2
      go_loopg [5] n (fun g jj wr => ∃ (j : Nat), jj = .int .i64 j ∧ j + g = n ∧ New (OTab 3 46) w.heap.size wr (.slice (some ⟨gb, 0, none⟩) n gc) (turnF m n i j) ∧ Below w.heap.size w wr)
      case atStart => exact ⟨0, rfl, by omega, Hn.out, Hb.out⟩
      case round =>
        clear Hn Hb
        obtain ⟨j, rfl, hj, hnew, hbel⟩ := hrel
        by_cases hlt2 : j < n
        · obtain ⟨rb, ro, rc, hA1, hrb, _, hA2⟩ := hae.at hlt hn0
          have hA3 := hA2 j hlt2
          obtain ⟨b', c', sb, sc, hv, _, _, _, hcl1, _, hsb, _, hcl2, hfr, hst⟩ := hnew.tab_at (turnF_row hlt2) (turnF_at hlt)
          obtain rfl : b' = gb := by simp at hv; exact hv.1.symm
          rw [rowOf_len] at hcl1
          have Hst := Lib.hid (by have := hst (ent m i j); rw [turnF_set] at this; exact this)
          have Hb3 := Lib.hid (hbel.setCell (p := ⟨sb, i, none⟩) hsb (.int .i64 (ent m i j)))
          have hrule := hbel.rule
          have hi1 : (i : Int) < (n : Int) := by omega
          have hi2 : (j : Int) < (n : Int) := by omega
          generalize ent m i j = X at *
          clear hv hst hnew hA2 hbel
          go_wp2
          go_still_tail 13, (by kernel_rfl)
          go_wp2
          go_roundg (n - (j + 1))
          case measure => omega
          case rel => exact ⟨j + 1, by go_num, by omega, New.heap (OTab.kept _ _) Hst.out rfl, Hb3.out.drew⟩
        · have e : j = n := by omega
          subst e
          rw [turnF_next] at hnew
          go_wp2
          go_roundg (j - (i + 1))
          case measure => omega
          case rel => exact ⟨i + 1, by go_num, by omega, hnew, hbel⟩
    · have e : i = n := by omega
      subst e
      have Hn2 := Hn.out
      rw [turnF_end] at Hn2
      have Hn3 := Lib.hid Hn2
      clear Hn2
      go_wp2
      go_ret
      exact ⟨_, rfl, Hn3.out, Hb.out⟩

set_option maxHeartbeats 400000 in
theorem impl_TurnMatrix_c {w : World} {va : Value} {m : List (List Int)} (h1 : Tab w va m) :
    Calls Tryz.prog 86 #[va] w (Makes (OTab 3 46) w (turnV m)) := by
  have Hc := Lib.hid (impl_IsMatrix_c h1)
  cases hm : isMat m with
  | false =>
    have HV := Lib.hid (show turnV m = [] from by unfold turnV; rw [if_neg (by rw [hm]; simp)])
    rw [hm] at Hc
    obtain ⟨aa, ac, rfl, _, _, _⟩ := h1.shape
    clear h1 hm
    go_enter Tryz.func86, Tryz.ntmps86
    go_wp2_with fail
    refine Hc.out.mono ?_
    rintro e w' ⟨rfl, rfl⟩
    go_wp2
    go_ret
    exact ⟨_, rfl, by rw [HV.out]; exact New.nil _ _, Below.refl _ _⟩
  | true =>
    have HV := Lib.hid (show turnV m = turnT m m.length from by unfold turnV; rw [if_pos hm])
    rw [hm] at Hc
    have sm := isMat_sq hm
    have Ht := Lib.hid (turned_c h1 sm.1 (by omega) sm.2.2)
    obtain ⟨aa, ac, rfl, _, _, _⟩ := h1.shape
    clear h1 hm sm
    go_enter Tryz.func86, Tryz.ntmps86
    go_wp2_with fail
    refine Hc.out.mono ?_
    rintro e w' ⟨rfl, rfl⟩
    go_wp2_with fail
    refine Ht.out.mono ?_
    rintro e w1 ⟨v1, rfl, hn1, hb1⟩
    have Hn1 := Lib.hid hn1
    have Hb1 := Lib.hid hb1
    clear hn1 hb1
    go_wp2
    go_ret
    exact ⟨_, rfl, by rw [HV.out]; exact Hn1.out, Hb1.out⟩
set_option maxHeartbeats 400000 in
theorem spec_TurnMatrix_c {w : World} {va : Value} {m : List (List Int)} (h1 : Tab w va m) :
    Calls Tryz.prog 110 #[va] w (Makes (OTab 3 46) w (turnV m)) := by
  have Hc := Lib.hid (spec_IsMatrix_c h1)
  cases hm : isMat m with
  | false =>
    have HV := Lib.hid (show turnV m = [] from by unfold turnV; rw [if_neg (by rw [hm]; simp)])
    rw [hm] at Hc
    obtain ⟨aa, ac, rfl, _, _, _⟩ := h1.shape
    clear h1 hm
    go_enter Tryz.func110, Tryz.ntmps110
    go_wp2_with fail
    refine Hc.out.mono ?_
    rintro e w' ⟨rfl, rfl⟩
    go_wp2
    go_ret
    exact ⟨_, rfl, by rw [HV.out]; exact New.empty _ (Nat.le_refl _), (Below.refl _ _).alloc (Nat.le_refl _) _⟩
  | true =>
    have HV := Lib.hid (show turnV m = turnT m m.length from by unfold turnV; rw [if_pos hm])
    rw [hm] at Hc
    have sm := isMat_sq hm
    have Ht := Lib.hid (l4Turn_c h1 sm.1 (by omega) sm.2.2)
    obtain ⟨aa, ac, rfl, _, _, _⟩ := h1.shape
    clear h1 hm sm
    go_enter Tryz.func110, Tryz.ntmps110
    go_wp2_with fail
    refine Hc.out.mono ?_
    rintro e w' ⟨rfl, rfl⟩
    go_wp2_with fail
    refine Ht.out.mono ?_
    rintro e w1 ⟨v1, rfl, hn1, hb1⟩
    have Hn1 := Lib.hid hn1
    have Hb1 := Lib.hid hb1
    clear hn1 hb1
    go_wp2
    go_ret
    exact ⟨_, rfl, by rw [HV.out]; exact Hn1.out, Hb1.out⟩
end Go.Proofs.YtlkgkfgpnnahdaaGreat
end

section
/-
  SplitIn, both sides.
-/
namespace Go.Proofs.YtlkgkfgpnnahdaaGreat
open Go.RowKit Go.Deep Go.Sd

def splitInOk (m : List (List Int)) (i : Int) (P : List Int) : Bool := splitOk (turnV m) i P
def splitInV (m : List (List Int)) (i : Int) (P : List Int) : List (List Int) := if splitOk (turnV m) i P = true then turnT (splitV (turnV m) i P) (splitV (turnV m) i P).length else []
theorem splitInV_bd (m : List (List Int)) (i : Int) (P : List Int) : (splitInV m i P).length ≤ 9 ∧ ∀ x, x ∈ splitInV m i P → x.length ≤ 9 := by
  unfold splitInV
  by_cases h : splitOk (turnV m) i P = true
  · rw [if_pos h]
    obtain ⟨n, hs, h0, h9⟩ := splitOk_sq h
    rw [hs.1]
    exact turnT_bd h9
  · rw [if_neg h]
    exact ⟨by simp, fun x hx => by cases hx⟩

set_option maxHeartbeats 400000 in
theorem impl_SplitIn_c {w : World} {va vp : Value} {m : List (List Int)} {i : Int} {P : List Int} (h1 : Tab w va m) (h2 : Ints w vp P) :
    Calls Tryz.prog 48 #[va, .int .i64 i, vp] w (Makes2 (OTab 3 46) w (splitInV m i P) (splitInOk m i P)) := by
  have Ht := Lib.hid (impl_TurnMatrix_c h1)
  obtain ⟨aa, ac, rfl, _, _, _⟩ := h1.shape
  have H2 := Lib.hid h2
  obtain ⟨pa, pc, rfl, _, _, _⟩ := h2.shape
  have HO := Lib.hid (show splitInOk m i P = splitOk (turnV m) i P from rfl)
  have HV := Lib.hid (show splitInV m i P = if splitOk (turnV m) i P = true then turnT (splitV (turnV m) i P) (splitV (turnV m) i P).length else [] from rfl)
  have Hl := Lib.hid (fun w1 v1 v2 (h : Tab w1 v1 (turnV m)) (h2 : Ints w1 v2 P) => impl_SplitOut_c (i := i) h h2)
  have Hs := Lib.hid (fun h : splitOk (turnV m) i P = true => splitOk_sq h)
  have Hr := Lib.hid (fun (n : Nat) w1 v1 (h : Tab w1 v1 (splitV (turnV m) i P)) (hs : Sq n (splitV (turnV m) i P)) (h0 : 0 < n) (h9 : n ≤ 9) => turned_c h hs h0 h9)
  clear h1 h2
  generalize splitInOk m i P = ok at HO ⊢
  generalize splitInV m i P = rv at HV ⊢
  generalize splitOk (turnV m) i P = b at *
  generalize splitV (turnV m) i P = t at *
  cases b with
  | false =>
    have HV2 := Lib.hid (show rv = [] from HV.out)
    go_enter Tryz.func48, Tryz.ntmps48
    go_wp2_with fail
    refine Ht.out.mono ?_
    rintro e w1 ⟨v1, rfl, hn1, hb1⟩
    go_wp2_with fail
    refine (Hl.out w1 v1 _ hn1.tab (Ints.frame _ _ _ _ H2.out hb1)).mono ?_
    rintro e w2 ⟨v2, rfl, hn2, hb2⟩
    have Hb2 := Lib.hid (hb1.trans (hb2.mono hb1.size))
    clear hn1 hb1 hn2 hb2
    go_wp2
    go_ret2
    exact ⟨_, by rw [HO.out]; rfl, by rw [HV2.out]; exact New.nil _ _, Hb2.out⟩
  | true =>
    obtain ⟨n, hs, hn0, hn9⟩ := Hs.out rfl
    have HV2 := Lib.hid (show rv = turnT t n from by rw [HV.out, if_pos rfl, hs.1])
    have Hr2 := Lib.hid (fun w1 v1 (h : Tab w1 v1 t) => Hr.out n w1 v1 h hs hn0 hn9)
    clear hs hn0 hn9 Hr Hs HV
    go_enter Tryz.func48, Tryz.ntmps48
    go_wp2_with fail
    refine Ht.out.mono ?_
    rintro e w1 ⟨v1, rfl, hn1, hb1⟩
    go_wp2_with fail
    refine (Hl.out w1 v1 _ hn1.tab (Ints.frame _ _ _ _ H2.out hb1)).mono ?_
    rintro e w2 ⟨v2, rfl, hn2, hb2⟩
    have Hb2 := Lib.hid (hb1.trans (hb2.mono hb1.size))
    have Hc := Lib.hid (Hr2.out w2 v2 hn2.tab)
    clear hn1 hb1 hn2 hb2 Hr2 Hl
    go_wp2_with fail
    refine Hc.out.mono ?_
    rintro e w3 ⟨v3, rfl, hn3, hb3⟩
    have Hn3 := Lib.hid (hn3.mono Hb2.out.size)
    have Hb3 := Lib.hid (Hb2.out.trans (hb3.mono Hb2.out.size))
    clear hn3 hb3
    go_wp2
    go_ret2
    exact ⟨_, by rw [HO.out]; rfl, by rw [HV2.out]; exact Hn3.out, Hb3.out⟩
end Go.Proofs.YtlkgkfgpnnahdaaGreat
end

section
/-
  The first two vertices that can be joined; IsJoined.
-/
namespace Go.Proofs.YtlkgkfgpnnahdaaGreat
open Go.RowKit Go.Deep Go.Sd

/-- The first j of the next g ones that can be joined to i. -/
def rowF (m : List (List Int)) (i : Nat) : Nat → Nat → Option (List (List Int))
  | 0, _ => none
  | g + 1, j => if joinOk m i j = true then some (joinV m i j) else rowF m i g (j + 1)
def firstF (m : List (List Int)) : Nat → Nat → Option (List (List Int))
  | 0, _ => none
  | g + 1, i => match rowF m i (m.length - (i + 1)) (i + 1) with
    | some x => some x
    | none => firstF m g (i + 1)
def firstJ (m : List (List Int)) : Option (List (List Int)) := firstF m m.length 0
theorem firstF_some {m : List (List Int)} {g i : Nat} {x : List (List Int)} (h : rowF m i (m.length - (i + 1)) (i + 1) = some x) : firstF m (g + 1) i = some x := by
  unfold firstF; rw [h]
theorem firstF_none {m : List (List Int)} {g i : Nat} (h : rowF m i (m.length - (i + 1)) (i + 1) = none) : firstF m (g + 1) i = firstF m g (i + 1) := by
  conv => lhs; unfold firstF
  rw [h]


set_option maxHeartbeats 1000000 in
theorem l18First_c {w : World} {va : Value} {m : List (List Int)} (h1 : Tab w va m) :
    Calls Tryz.prog 93 #[va] w (Makes2 (OTab 3 46) w ((firstJ m).getD []) (firstJ m).isSome) := by
  have hlen := h1.len
  have hsa := h1.shape
  obtain ⟨aa, ac, rfl, _, _, _⟩ := hsa
  have HO := Lib.hid (show (firstJ m).isSome = (firstF m m.length 0).isSome from rfl)
  have HV := Lib.hid (show (firstJ m).getD [] = (firstF m m.length 0).getD [] from rfl)
  generalize (firstJ m).isSome = ok at HO ⊢
  generalize (firstJ m).getD [] = rv at HV ⊢
  have Hj := Lib.hid (fun w1 (i j : Nat) (hb : Below w.heap.size w w1) => spec_JoinOut_c (i := (i : Int)) (j := (j : Int)) (Tab.frame _ _ _ _ h1 hb))
  clear h1
  obtain ⟨T, hT⟩ : ∃ T, T = firstF m m.length 0 := ⟨_, rfl⟩
  rw [← hT] at HO HV
  have HT := Lib.hid hT
  clear hT
  go_enter Tryz.func93, Tryz.ntmps93
  go_wp2
  go_loopg [4] (m.length) (fun g ii wr => ∃ (i : Nat), ii = .int .i64 i ∧ i + g = m.length ∧ Hid (T = firstF m g i) ∧ Below w.heap.size w wr)
  case atStart => exact ⟨0, rfl, by omega, HT, Below.refl _ _⟩
  case round =>
    obtain ⟨i, rfl, hi, H, hbel⟩ := hrel
    obtain ⟨g, hg⟩ : ∃ g, g = gk := ⟨_, rfl⟩
    rw [← hg] at H hi
    by_cases hlt : i < m.length
    · obtain ⟨g', rfl⟩ : ∃ t, g = t + 1 := ⟨g - 1, by omega⟩
      have Hb := Lib.hid hbel
      clear hbel HT
      go_wp2
      go_loopg [5] (m.length - (i + 1)) (fun g2 jj wr => ∃ (j : Nat), jj = .int .i64 j ∧ j + g2 = m.length ∧ Hid (rowF m i (m.length - (i + 1)) (i + 1) = rowF m i g2 j) ∧ Below w.heap.size w wr)
      case atStart => exact ⟨i + 1, by go_num, by omega, Lib.hid rfl, Hb.out⟩
      case round =>
        obtain ⟨j, rfl, hj, H2, hbel⟩ := hrel
        clear Hb
        obtain ⟨q, hq⟩ : ∃ q, q = gk := ⟨_, rfl⟩
        rw [← hq] at H2 hj
        by_cases hlt2 : j < m.length
        · obtain ⟨q', rfl⟩ : ∃ t, q = t + 1 := ⟨q - 1, by omega⟩
          have H3 := Lib.hid (show rowF m i (m.length - (i + 1)) (i + 1) = if joinOk m i j = true then some (joinV m i j) else rowF m i q' (j + 1) from H2.out)
          have Hc := Lib.hid (Hj.out wr i j hbel)
          have Hb := Lib.hid hbel
          have hz := hbel.size
          clear H2 hbel
          cases hjo : joinOk m i j with
          | true =>
            have H4 := Lib.hid (show T = some (joinV m i j) from by rw [H.out]; exact firstF_some (by rw [H3.out, hjo]; rfl))
            rw [hjo] at Hc
            clear hjo H3
            go_wp2_with fail
            refine Hc.out.mono ?_
            rintro e w1 ⟨v1, rfl, hn1, hb1⟩
            have Hn1 := Lib.hid (hn1.mono hz)
            have Hb1 := Lib.hid (Hb.out.trans (hb1.mono hz))
            clear hn1 hb1
            go_wp2
            go_ret2
            exact ⟨_, by rw [HO.out, H4.out]; rfl, by rw [HV.out, H4.out]; exact Hn1.out, Hb1.out⟩
          | false =>
            have H4 := Lib.hid (show rowF m i (m.length - (i + 1)) (i + 1) = rowF m i q' (j + 1) from by rw [H3.out, hjo]; rfl)
            rw [hjo] at Hc
            clear hjo H3
            go_wp2_with fail
            refine Hc.out.mono ?_
            rintro e w1 ⟨v1, rfl, hn1, hb1⟩
            have Hb1 := Lib.hid (Hb.out.trans (hb1.mono hz))
            clear hn1 hb1
            go_wp2
            go_roundg q'
            case measure => omega
            case rel => exact ⟨j + 1, by go_num, by omega, H4, Hb1.out⟩
        · have e : q = 0 := by omega
          subst e
          have H3 := Lib.hid (show T = firstF m g' (i + 1) from by rw [H.out]; exact firstF_none H2.out)
          have Hb := Lib.hid hbel
          have e2 : j = m.length := by omega
          clear H2 hbel hq hj
          go_wp2
          go_roundg g'
          case measure => omega
          case rel => exact ⟨i + 1, by go_num, by omega, H3, Hb.out⟩
    · have e : g = 0 := by omega
      subst e
      have H2 := Lib.hid (show T = none from H.out)
      clear H hg
      go_wp2
      go_ret2
      exact ⟨_, by rw [HO.out, H2.out]; rfl, by rw [HV.out, H2.out]; exact New.empty wr hbel.size, hbel.alloc hbel.size _⟩

def joinedM (m : List (List Int)) : Bool := isMat m && !(firstJ m).isSome


end Go.Proofs.YtlkgkfgpnnahdaaGreat
end

section
/-
  JoinAll, both sides.
-/
namespace Go.Proofs.YtlkgkfgpnnahdaaGreat
open Go.RowKit Go.Deep Go.Sd

def joinIter : Nat → List (List Int) → List (List Int)
  | 0, m => m
  | g + 1, m => match firstJ m with
    | some x => joinIter g x
    | none => m
def joinAllV (m : List (List Int)) : List (List Int) := if isMat m = true then joinIter m.length m else []

theorem joinIter_some {g : Nat} {m x : List (List Int)} (h : firstJ m = some x) : joinIter (g + 1) m = joinIter g x := by
  conv => lhs; unfold joinIter
  rw [h]
theorem joinIter_none {g : Nat} {m : List (List Int)} (h : firstJ m = none) : joinIter g m = m := by
  cases g with
  | zero => rfl
  | succ g => unfold joinIter; rw [h]

theorem joinV_sq {m : List (List Int)} {i j : Int} (h : joinOk m i j = true) : Sq (m.length - 1) (joinV m i j) ∧ m.length ≠ 0 ∧ m.length ≤ 9 := by
  unfold joinV
  rw [if_pos h]
  refine ⟨⟨tabOf_len _ _ _, fun _ hx => mem_tabOf hx⟩, ?_⟩
  unfold joinOk at h
  simp only [Bool.and_eq_true] at h
  have := (isMat_sq h.1.1.1).2
  omega
theorem rowF_sq {m : List (List Int)} {i : Nat} {x : List (List Int)} : ∀ {g j : Nat}, rowF m i g j = some x → Sq (m.length - 1) x ∧ m.length ≠ 0 ∧ m.length ≤ 9
  | 0, j, h => by cases h
  | g + 1, j, h => by
    unfold rowF at h
    by_cases hj : joinOk m i j = true
    · rw [if_pos hj] at h
      cases h
      exact joinV_sq hj
    · rw [if_neg hj] at h
      exact rowF_sq h
theorem firstF_sq {m : List (List Int)} {x : List (List Int)} : ∀ {g i : Nat}, firstF m g i = some x → Sq (m.length - 1) x ∧ m.length ≠ 0 ∧ m.length ≤ 9
  | 0, i, h => by cases h
  | g + 1, i, h => by
    cases hr : rowF m i (m.length - (i + 1)) (i + 1) with
    | some y =>
      rw [firstF_some hr] at h
      cases h
      exact rowF_sq hr
    | none =>
      rw [firstF_none hr] at h
      exact firstF_sq h
theorem firstJ_sq {m x : List (List Int)} (h : firstJ m = some x) : Sq (m.length - 1) x ∧ m.length ≠ 0 ∧ m.length ≤ 9 := firstF_sq h
theorem joinIter_sq : ∀ (g : Nat) {m : List (List Int)}, Sq m.length m → ∃ n, n ≤ m.length ∧ Sq n (joinIter g m)
  | 0, m, h => ⟨_, Nat.le_refl _, h⟩
  | g + 1, m, h => by
    cases hf : firstJ m with
    | none => rw [joinIter_none hf]; exact ⟨_, Nat.le_refl _, h⟩
    | some x =>
      rw [joinIter_some hf]
      have hx := (firstJ_sq hf).1
      obtain ⟨n, hn, hs⟩ := joinIter_sq g (m := x) (by rw [hx.1]; exact hx)
      exact ⟨n, by rw [hx.1] at hn; omega, hs⟩
theorem joinAllV_bd (m : List (List Int)) : (joinAllV m).length ≤ 9 ∧ ∀ x, x ∈ joinAllV m → x.length ≤ 9 := by
  unfold joinAllV
  by_cases h : isMat m = true
  · rw [if_pos h]
    have hs := isMat_sq h
    obtain ⟨n, hn, hq⟩ := joinIter_sq m.length hs.1
    exact ⟨by rw [hq.1]; omega, fun x hx => by rw [hq.2 x hx]; omega⟩
  · rw [if_neg h]
    exact ⟨by simp, fun x hx => by cases hx⟩

set_option maxHeartbeats 1000000 in
theorem spec_JoinAll_c {w : World} {va : Value} {m : List (List Int)} (h1 : Tab w va m) :
    Calls Tryz.prog 53 #[va] w (Makes (OTab 3 46) w (joinAllV m)) := by
  have Hc := Lib.hid (spec_IsMatrix_c h1)
  cases hm : isMat m with
  | false =>
    have HV := Lib.hid (show joinAllV m = [] from by unfold joinAllV; rw [if_neg (by rw [hm]; simp)])
    rw [hm] at Hc
    obtain ⟨aa, ac, rfl, _, _, _⟩ := h1.shape
    clear h1 hm
    go_enter Tryz.func53, Tryz.ntmps53
    go_wp2_with fail
    refine Hc.out.mono ?_
    rintro e w' ⟨rfl, rfl⟩
    go_wp2
    go_ret
    exact ⟨_, rfl, by rw [HV.out]; exact New.empty _ (Nat.le_refl _), (Below.refl _ _).alloc (Nat.le_refl _) _⟩
  | true =>
    have HV := Lib.hid (show joinAllV m = joinIter m.length m from by unfold joinAllV; rw [if_pos hm])
    generalize joinAllV m = T at HV ⊢
    rw [hm] at Hc
    have sm := isMat_sq hm
    have Hcp := Lib.hid (l4Copy_c h1 (by omega) (fun r hr => by rw [sm.1.2 r hr]; omega))
    obtain ⟨aa, ac, rfl, _, _, _⟩ := h1.shape
    obtain ⟨n, hn⟩ : ∃ n, n = m.length := ⟨_, rfl⟩
    have Hlen := Lib.hid hn
    rw [← hn] at HV
    clear h1 hm sm
    go_enter Tryz.func53, Tryz.ntmps53
    go_wp2_with fail
    refine Hc.out.mono ?_
    rintro e w' ⟨rfl, rfl⟩
    go_wp2_with fail
    refine Hcp.out.mono ?_
    rintro e w1 ⟨v1, rfl, hn1, hb1⟩
    have Hn1 := Lib.hid hn1
    have Hb1 := Lib.hid hb1
    clear hn1 hb1 Hcp Hc hn
    go_wp2
    go_loopg [3] n (fun g v wr => ∃ (x : List (List Int)), Hid (x.length = g) ∧ Hid (T = joinIter g x) ∧ New (OTab 3 46) w.heap.size wr v x ∧ Below w.heap.size w wr)
    case atStart => exact ⟨m, Lib.hid Hlen.out.symm, HV, Hn1.out, Hb1.out⟩
    case round =>
      obtain ⟨x, Hx, HT, hnew, hbel⟩ := hrel
      clear Hn1 Hb1 HV Hlen
      have Hb := Lib.hid hbel
      have Hn := Lib.hid hnew
      have hz := hbel.size
      have Hf := Lib.hid (l18First_c hnew.tab)
      obtain ⟨xa, xn, xc, rfl⟩ := hnew.slice
      clear hnew hbel
      cases hj : firstJ x with
      | none =>
        have HT2 := Lib.hid (show T = x from by rw [HT.out]; exact joinIter_none hj)
        rw [hj] at Hf
        clear hj HT Hx
        go_wp2_with fail
        refine Hf.out.mono ?_
        rintro e w2 ⟨v2, rfl, hn2, hb2⟩
        have Hb2 := Lib.hid (Hb.out.trans (hb2.mono hz))
        have Hn2 := Lib.hid (New.keep (OTab.kept _ _) Hn.out hb2 (Nat.le_refl _))
        clear hn2 hb2
        go_wp2
        go_ret
        exact ⟨_, rfl, by rw [HT2.out]; exact Hn2.out, Hb2.out⟩
      | some y =>
        obtain ⟨hs, h0, _⟩ := firstJ_sq hj
        obtain ⟨g, hg⟩ : ∃ g, gk = g + 1 := ⟨gk - 1, by have := Hx.out; omega⟩
        have HT2 := Lib.hid (show T = joinIter g y from by rw [HT.out, hg]; exact joinIter_some hj)
        have Hy := Lib.hid (show y.length = g from by have := Hx.out; have := hs.1; omega)
        rw [hj] at Hf
        clear hj HT Hx hs h0
        go_wp2_with fail
        refine Hf.out.mono ?_
        rintro e w2 ⟨v2, rfl, hn2, hb2⟩
        have Hb2 := Lib.hid (Hb.out.trans (hb2.mono hz))
        have Hn2 := Lib.hid (New.mono hn2 hz)
        obtain ⟨ya, yn, yc, rfl⟩ := hn2.slice
        clear hn2 hb2
        go_wp2
        go_roundg g
        case measure => omega
        case rel => exact ⟨y, Hy, HT2, Hn2.out, Hb2.out⟩
end Go.Proofs.YtlkgkfgpnnahdaaGreat
end

section
/-
  JoinIn, both sides.
-/
namespace Go.Proofs.YtlkgkfgpnnahdaaGreat
open Go.RowKit Go.Deep Go.Sd

def joinInOk (m : List (List Int)) (i j : Int) : Bool := joinOk (turnV m) i j
def joinInV (m : List (List Int)) (i j : Int) : List (List Int) := if joinOk (turnV m) i j = true then turnT (joinV (turnV m) i j) (joinV (turnV m) i j).length else []
theorem joinOk_sq {m : List (List Int)} {i j : Int} (h : joinOk m i j = true) : ∃ n, Sq n (joinV m i j) ∧ 0 < n ∧ n ≤ 9 := by
  have hs := joinV_sq h
  unfold joinOk at h
  simp only [Bool.and_eq_true] at h
  have h3 := (isMat_sq h.2).2.1
  rw [show (joinT m i.toNat j.toNat m.length).length = m.length - 1 from tabOf_len _ _ _] at h3
  exact ⟨_, hs.1, by omega, by omega⟩
theorem joinInV_bd (m : List (List Int)) (i j : Int) : (joinInV m i j).length ≤ 9 ∧ ∀ x, x ∈ joinInV m i j → x.length ≤ 9 := by
  unfold joinInV
  by_cases h : joinOk (turnV m) i j = true
  · rw [if_pos h]
    obtain ⟨n, hs, h0, h9⟩ := joinOk_sq h
    rw [hs.1]
    exact turnT_bd h9
  · rw [if_neg h]
    exact ⟨by simp, fun x hx => by cases hx⟩

set_option maxHeartbeats 400000 in
theorem impl_JoinIn_c {w : World} {va : Value} {m : List (List Int)} {i j : Int} (h1 : Tab w va m) :
    Calls Tryz.prog 50 #[va, .int .i64 i, .int .i64 j] w (Makes2 (OTab 3 46) w (joinInV m i j) (joinInOk m i j)) := by
  have Ht := Lib.hid (impl_TurnMatrix_c h1)
  obtain ⟨aa, ac, rfl, _, _, _⟩ := h1.shape


  have HO := Lib.hid (show joinInOk m i j = joinOk (turnV m) i j from rfl)
  have HV := Lib.hid (show joinInV m i j = if joinOk (turnV m) i j = true then turnT (joinV (turnV m) i j) (joinV (turnV m) i j).length else [] from rfl)
  have Hl := Lib.hid (fun w1 v1 (h : Tab w1 v1 (turnV m)) => impl_JoinOut_c (i := i) (j := j) h)
  have Hs := Lib.hid (fun h : joinOk (turnV m) i j = true => joinOk_sq h)
  have Hr := Lib.hid (fun (n : Nat) w1 v1 (h : Tab w1 v1 (joinV (turnV m) i j)) (hs : Sq n (joinV (turnV m) i j)) (h0 : 0 < n) (h9 : n ≤ 9) => turned_c h hs h0 h9)
  clear h1
  generalize joinInOk m i j = ok at HO ⊢
  generalize joinInV m i j = rv at HV ⊢
  generalize joinOk (turnV m) i j = b at *
  generalize joinV (turnV m) i j = t at *
  cases b with
  | false =>
    have HV2 := Lib.hid (show rv = [] from HV.out)
    go_enter Tryz.func50, Tryz.ntmps50
    go_wp2_with fail
    refine Ht.out.mono ?_
    rintro e w1 ⟨v1, rfl, hn1, hb1⟩
    go_wp2_with fail
    refine (Hl.out w1 v1 hn1.tab).mono ?_
    rintro e w2 ⟨v2, rfl, hn2, hb2⟩
    have Hb2 := Lib.hid (hb1.trans (hb2.mono hb1.size))
    clear hn1 hb1 hn2 hb2
    go_wp2
    go_ret2
    exact ⟨_, by rw [HO.out]; rfl, by rw [HV2.out]; exact New.nil _ _, Hb2.out⟩
  | true =>
    obtain ⟨n, hs, hn0, hn9⟩ := Hs.out rfl
    have HV2 := Lib.hid (show rv = turnT t n from by rw [HV.out, if_pos rfl, hs.1])
    have Hr2 := Lib.hid (fun w1 v1 (h : Tab w1 v1 t) => Hr.out n w1 v1 h hs hn0 hn9)
    clear hs hn0 hn9 Hr Hs HV
    go_enter Tryz.func50, Tryz.ntmps50
    go_wp2_with fail
    refine Ht.out.mono ?_
    rintro e w1 ⟨v1, rfl, hn1, hb1⟩
    go_wp2_with fail
    refine (Hl.out w1 v1 hn1.tab).mono ?_
    rintro e w2 ⟨v2, rfl, hn2, hb2⟩
    have Hb2 := Lib.hid (hb1.trans (hb2.mono hb1.size))
    have Hc := Lib.hid (Hr2.out w2 v2 hn2.tab)
    clear hn1 hb1 hn2 hb2 Hr2 Hl
    go_wp2_with fail
    refine Hc.out.mono ?_
    rintro e w3 ⟨v3, rfl, hn3, hb3⟩
    have Hn3 := Lib.hid (hn3.mono Hb2.out.size)
    have Hb3 := Lib.hid (Hb2.out.trans (hb3.mono Hb2.out.size))
    clear hn3 hb3
    go_wp2
    go_ret2
    exact ⟨_, by rw [HO.out]; rfl, by rw [HV2.out]; exact Hn3.out, Hb3.out⟩
set_option maxHeartbeats 400000 in
theorem spec_JoinIn_c {w : World} {va : Value} {m : List (List Int)} {i j : Int} (h1 : Tab w va m) :
    Calls Tryz.prog 92 #[va, .int .i64 i, .int .i64 j] w (Makes2 (OTab 3 46) w (joinInV m i j) (joinInOk m i j)) := by
  have Ht := Lib.hid (spec_TurnMatrix_c h1)
  obtain ⟨aa, ac, rfl, _, _, _⟩ := h1.shape


  have HO := Lib.hid (show joinInOk m i j = joinOk (turnV m) i j from rfl)
  have HV := Lib.hid (show joinInV m i j = if joinOk (turnV m) i j = true then turnT (joinV (turnV m) i j) (joinV (turnV m) i j).length else [] from rfl)
  have Hl := Lib.hid (fun w1 v1 (h : Tab w1 v1 (turnV m)) => spec_JoinOut_c (i := i) (j := j) h)
  have Hs := Lib.hid (fun h : joinOk (turnV m) i j = true => joinOk_sq h)
  have Hr := Lib.hid (fun (n : Nat) w1 v1 (h : Tab w1 v1 (joinV (turnV m) i j)) (hs : Sq n (joinV (turnV m) i j)) (h0 : 0 < n) (h9 : n ≤ 9) => l4Turn_c h hs h0 h9)
  clear h1
  generalize joinInOk m i j = ok at HO ⊢
  generalize joinInV m i j = rv at HV ⊢
  generalize joinOk (turnV m) i j = b at *
  generalize joinV (turnV m) i j = t at *
  cases b with
  | false =>
    have HV2 := Lib.hid (show rv = [] from HV.out)
    go_enter Tryz.func92, Tryz.ntmps92
    go_wp2_with fail
    refine Ht.out.mono ?_
    rintro e w1 ⟨v1, rfl, hn1, hb1⟩
    go_wp2_with fail
    refine (Hl.out w1 v1 hn1.tab).mono ?_
    rintro e w2 ⟨v2, rfl, hn2, hb2⟩
    have Hb2 := Lib.hid (hb1.trans (hb2.mono hb1.size))
    clear hn1 hb1 hn2 hb2
    go_wp2
    go_ret2
    exact ⟨_, by rw [HO.out]; rfl, by rw [HV2.out]; exact New.empty _ Hb2.out.size, Hb2.out.alloc Hb2.out.size _⟩
  | true =>
    obtain ⟨n, hs, hn0, hn9⟩ := Hs.out rfl
    have HV2 := Lib.hid (show rv = turnT t n from by rw [HV.out, if_pos rfl, hs.1])
    have Hr2 := Lib.hid (fun w1 v1 (h : Tab w1 v1 t) => Hr.out n w1 v1 h hs hn0 hn9)
    clear hs hn0 hn9 Hr Hs HV
    go_enter Tryz.func92, Tryz.ntmps92
    go_wp2_with fail
    refine Ht.out.mono ?_
    rintro e w1 ⟨v1, rfl, hn1, hb1⟩
    go_wp2_with fail
    refine (Hl.out w1 v1 hn1.tab).mono ?_
    rintro e w2 ⟨v2, rfl, hn2, hb2⟩
    have Hb2 := Lib.hid (hb1.trans (hb2.mono hb1.size))
    have Hc := Lib.hid (Hr2.out w2 v2 hn2.tab)
    clear hn1 hb1 hn2 hb2 Hr2 Hl
    go_wp2_with fail
    refine Hc.out.mono ?_
    rintro e w3 ⟨v3, rfl, hn3, hb3⟩
    have Hn3 := Lib.hid (hn3.mono Hb2.out.size)
    have Hb3 := Lib.hid (Hb2.out.trans (hb3.mono Hb2.out.size))
    clear hn3 hb3
    go_wp2
    go_ret2
    exact ⟨_, by rw [HO.out]; rfl, by rw [HV2.out]; exact Hn3.out, Hb3.out⟩
end Go.Proofs.YtlkgkfgpnnahdaaGreat
end
