/-
  Texts of this claim joined: laws for its walks, contracts of the functions that the law reaches.
-/
import Derived.Test.YtlkgkfgpnnahdaaRows
import Derived.Test.YtlkgkfgpnnahdaaFnLagsM1
import Derived.Test.YtlkgkfgpnnahdaaFnLagsM3
import Derived.Test.YtlkgkfgpnnahdaaFnLagsM4
import Derived.Test.YtlkgkfgpnnahdaaFnLagsM5
import Derived.StillTailTactics
import Derived.WalkSpells
import Derived.OrdersHeld
import Derived.Deep.RegionHeld3
import Derived.Deep.DeepCutAuto
section
/-
  JoinOut, the reference's: columns compared, a row added, a minor taken.
-/
namespace Go.Proofs.Ytlkgkfgpnnahdaa
open Go.RowKit Go.Deep Go.Sd

/-- A slice over a part of a row of numbers. -/
theorem Ints.part {w : World} {b o l : Nat} {g : Nat → Int} (h : ∀ j, j < l → w.cell? ⟨b, o + j, none⟩ = some (.int .i64 (g j))) (hb : b < w.heap.size) {s len c : Nat} (hs : s + len ≤ l) (hl : len ≤ c) (hc : c ≤ 9223372036854775807) :
    Ints w (.slice (some ⟨b, o + s, none⟩) len c) (rowOf' len (fun t => g (s + t))) := by
  refine ⟨(rowOf' len (fun t => g (s + t))).map (Value.int .i64), ⟨by rw [List.length_map, rowOf_len]; omega, _, c, by rw [List.length_map, rowOf_len], by rw [List.length_map, rowOf_len]; exact hl, hc, by simp, Or.inr ⟨b, o + s, rfl, hb, fun i u hu => ?_⟩⟩, by simp, fun i u x hu hx => ?_⟩
  · rw [List.getElem?_map, Option.map_eq_some_iff] at hu
    obtain ⟨x, hx, rfl⟩ := hu
    have hi : i < len := by have := (List.getElem?_eq_some_iff.1 hx).1; rwa [rowOf_len] at this
    rw [rowOf_at hi] at hx
    simp at hx
    rw [Nat.add_assoc, h (s + i) (by omega), hx]
  · rw [List.getElem?_map, hx] at hu
    simp at hu
    exact hu.symm

theorem Ints.capn {w : World} {a : Option Addr} {n c : Nat} {xs : List Int} (h : Ints w (.slice a n c) xs) : n = xs.length ∧ n ≤ c ∧ c ≤ 9223372036854775807 := by
  obtain ⟨a', c', hv, h1, h2, _⟩ := h.shape
  simp at hv
  obtain ⟨_, rfl, rfl⟩ := hv
  exact ⟨rfl, h1, h2⟩

def minorT (m : List (List Int)) (i j n : Nat) : List (List Int) := tabOf (n - 1) (n - 1) (fun k l => ent m (skip i k) (skip j l))

theorem rowOf_split {n J : Nat} (hJ : J < n) (g : Nat → Int) : [] ++ rowOf' J (fun t => g (0 + t)) ++ rowOf' (n - (J + 1)) (fun t => g (J + 1 + t)) = rowOf' (n - 1) (fun l => g (skip J l)) := by
  apply List.ext_getElem?
  intro k
  rw [List.nil_append]
  by_cases h1 : k < J
  · rw [List.getElem?_append_left (by rw [rowOf_len]; exact h1), rowOf_at h1, rowOf_at (by omega)]
    simp [skip, h1]
  · rw [List.getElem?_append_right (by rw [rowOf_len]; omega), rowOf_len]
    by_cases h2 : k < n - 1
    · rw [rowOf_at (by omega), rowOf_at h2]
      simp only [skip, if_neg h1]
      congr 2; omega
    · rw [List.getElem?_eq_none (by rw [rowOf_len]; omega), List.getElem?_eq_none (by rw [rowOf_len]; omega)]

set_option maxHeartbeats 400000 in
theorem l18Columns_c {w : World} {va : Value} {m : List (List Int)} {I J n : Nat} (h1 : Tab w va m) (hm : Sq n m) (hI : I < n) (hJ : J < n) (hn : n ≤ 9) :
    Calls Try.prog 80 #[va, .int .i64 I, .int .i64 J] w (Reads w (.bool (colsEq m I J n))) := by
  have hn0 : 0 < n := by omega
  obtain ⟨ab, ao, ac, rfl, hab, hae⟩ := h1.entAt hm.1 hm.2 hn0
  clear h1 hm
  go_enter Try.func80, Try.ntmps80
  go_wp2
  go_loopg [7] n (fun g ii wr => ∃ (k : Nat), ii = .int .i64 k ∧ k + g = n ∧ Hid (colsEq m I J n = allF (fun k => decide (ent m k I = ent m k J)) g k) ∧ Drawn w wr)
  case atStart => exact ⟨0, rfl, by omega, Lib.hid rfl, Drawn.refl _⟩
  case round =>
    obtain ⟨k, rfl, hk, H, hdr⟩ := hrel
    obtain ⟨g, hg⟩ : ∃ g, g = gk := ⟨_, rfl⟩
    rw [← hg] at H hk
    by_cases hlt : k < n
    · obtain ⟨g', rfl⟩ : ∃ t, g = t + 1 := ⟨g - 1, by omega⟩
      have H1 := Lib.hid (show colsEq m I J n = if decide (ent m k I = ent m k J) = true then allF (fun k => decide (ent m k I = ent m k J)) g' (k + 1) else false from H.out)
      obtain ⟨rb, ro, rc, hA1, hrb, _, hA2⟩ := hae.at hlt hn0
      have hA3 := hA2 I (by omega)
      have hA4 := hA2 J (by omega)
      have hrule := hdr.cell
      have hi1 : (I : Int) < (n : Int) := by omega
      have hi2 : (J : Int) < (n : Int) := by omega
      have hi3 : (k : Int) < (n : Int) := by omega
      clear H hA2 hae
      by_cases he : ent m k I = ent m k J
      · have H2 := Lib.hid (show colsEq m I J n = allF (fun k => decide (ent m k I = ent m k J)) g' (k + 1) from by rw [H1.out]; simp [he])
        have t1 : (ent m k I != ent m k J) = false := by simp [he]
        clear he H1
        go_wp2
        go_quiet (fail)
        go_wp2
        go_roundg g'
        case measure => omega
        case rel => exact ⟨k + 1, by go_num, by omega, H2, hdr.drewN _⟩
      · have H2 := Lib.hid (show colsEq m I J n = false from by rw [H1.out]; simp [he])
        have t1 : (ent m k I != ent m k J) = true := by simp [he]
        clear he H1
        go_wp2
        go_quiet (fail)
        go_wp2
        go_ret
        exact ⟨by rw [H2.out]; rfl, hdr.drewN _⟩
    · have e : g = 0 := by omega
      subst e
      have H1 := Lib.hid (show colsEq m I J n = true from H.out)
      clear H
      go_wp2
      go_ret
      exact ⟨by rw [H1.out]; rfl, hdr⟩

set_option maxHeartbeats 2000000 in
theorem l7Minor_c {w : World} {va : Value} {m : List (List Int)} {I J n : Nat} (h1 : Tab w va m) (hm : Sq n m) (hI : I < n) (hJ : J < n) (hn : n ≤ 9) :
    Calls Try.prog 82 #[va, .int .i64 I, .int .i64 J] w (Makes (OTab 3 33) w (minorT m I J n)) := by
  have hn0 : 0 < n := by omega
  obtain ⟨ab, ao, ac, rfl, hab, hae⟩ := h1.entAt hm.1 hm.2 hn0
  clear h1 hm
  go_enter Try.func82, Try.ntmps82
  go_wp2
  go_loopg [7, 8] n (fun g v ii wr => ∃ (k : Nat), ii = .int .i64 k ∧ k + g = n ∧ New (OTab 3 33) w.heap.size wr v ((minorT m I J n).take (cnt I k)) ∧ Below w.heap.size w wr)
  case atStart => exact ⟨0, rfl, by omega, by rw [cnt_zero]; exact New.empty w (Nat.le_refl _), (Below.refl _ _).alloc (Nat.le_refl _) _⟩
  case round =>
    obtain ⟨k, rfl, hk, hnew, hbel⟩ := hrel
    have hle := hbel.size
    have hae1 := hae.frame hab hbel
    have hab1 : ab < wr.heap.size := by omega
    have Hn := Lib.hid hnew
    have Hb := Lib.hid hbel
    have Hlk := Lib.hid (show ((minorT m I J n).take (cnt I k)).length ≤ n from by have := cnt_le I k; rw [List.length_take]; omega)
    clear hnew hbel hae
    by_cases hlt : k < n
    · by_cases hkI : k = I
      · have t1 : ((k : Int) == (I : Int)) = true := by simp [hkI]
        have Hs := Lib.hid (cnt_same I)
        have HkI := Lib.hid hkI
        clear hkI hae1
        go_wp2
        go_roundg (n - (k + 1))
        case measure => omega
        case rel => exact ⟨k + 1, by go_num, by omega, by have e := HkI.out; have h := Hn.out; rw [e] at h ⊢; rw [Hs.out]; exact h, Hb.out⟩
      · have t1 : ((k : Int) == (I : Int)) = false := by simp; omega
        obtain ⟨rb, ro, rc, hA1, hrb, hIn, hA2⟩ := hae1.at hlt hn0
        have hcap := Ints.capn hIn
        have hcp1 : n ≤ rc := hcap.2.1
        have hcp2 : rc ≤ 9223372036854775807 := hcap.2.2
        have Hp1 := Lib.hid (Ints.part hA2 hrb (s := 0) (len := J) (c := rc) (by omega) (by omega) hcp2)
        have Hp2 := Lib.hid (fun (hr : J + 1 < rc) => Ints.part hA2 hrb (s := J + 1) (len := n - (J + 1)) (c := rc - (J + 1)) (by omega) (by omega) (by omega))
        have Hat := Lib.hid (show (minorT m I J n)[cnt I k]? = some (rowOf' (n - 1) (fun l => ent m k (skip J l))) from by unfold minorT; rw [tabOf_at (cnt_lt hkI hI hlt), skip_cnt hkI])
        have Hcn := Lib.hid (cnt_next hkI)
        have hrb2 := hrb
        have Hsp := Lib.hid (rowOf_split hJ (ent m k))
        have hA1' : ∀ O, (wr.alloc O).cell? ⟨ab, ao + k, none⟩ = some (.slice (some ⟨rb, ro, none⟩) n rc) := fun O => by rw [← hA1]; exact World.cell?_alloc_lt _ _ _ hab1
        clear hkI hIn hcap hA2 hae1
        by_cases hrc : J + 1 < rc
        · have Hp2' := Lib.hid (Hp2.out hrc)
          clear Hp2
          have hne : ¬ rc = J + 1 := by omega
          go_wp2_with (first
            | (at_builtin; refine wpl_append_vals (f := Value.int .i64) (fun _ => rfl) rfl (.tmp 20) (.tmp 26) 33 rfl 3 (.int .i64 0) 8 Try.underlying33 infoI rfl (New.empty (R := OValR (Value.int .i64)) (lo := wr.heap.size) wr (Nat.le_refl _)) (by simp) (Ints.frame _ _ _ _ Hp1.out ((Below.refl _ _).alloc (Nat.le_refl _) _)) rfl rfl (by rw [rowOf_len]; simp; omega) (by rw [rowOf_len]; simp; omega) ?_; intro v1 w1 hn1 _ _ hb1; obtain ⟨xa, xn, xc, rfl⟩ := hn1.slice; have Hn1 := Lib.hid hn1; have Hb1 := Lib.hid (((Below.refl wr.heap.size wr).alloc (Nat.le_refl _) _).trans hb1); have hcell1 := Hb1.out.rule; clear hn1 hb1)
            | (at_builtin; refine wpl_append_vals (f := Value.int .i64) (fun _ => rfl) rfl (.tmp 29) (.tmp 36) 33 rfl 3 (.int .i64 0) 8 Try.underlying33 infoI rfl (w := w1) Hn1.out Hb1.out.size (Ints.frame _ _ _ _ Hp2'.out Hb1.out) rfl rfl (by simp only [List.length_append, rowOf_len, List.length_nil]; omega) (by simp only [List.length_append, rowOf_len, List.length_nil]; omega) ?_; intro v2 w2 hn2 _ _ hb2; obtain ⟨ya, yn, yc, rfl⟩ := hn2.slice; have Hn2 := Lib.hid (show New (OInts 3) wr.heap.size w2 _ (rowOf' (n - 1) (fun l => ent m k (skip J l))) from by rw [← Hsp.out]; exact hn2); have Hb2 := Lib.hid (Hb1.out.trans hb2); clear hn2 hb2)
            | (at_builtin; refine wpl_push (w0 := wr) (lo := w.heap.size) (OInts.kept _) rfl (.tmp 28) (.tmp 38) 24 rfl 33 (.slice none 0 0) 24 Try.underlying24 infoR rfl Hn.out hle (Hb2.out.alloc Hb2.out.size _) (New.keep (OInts.kept _) Hn2.out ((Below.refl w2.heap.size _).alloc (Nat.le_refl _) _) (Nat.le_refl _)) (bb := w2.heap.size) (c := 1) (by simp) rfl rfl (by have := Hlk.out; omega) (by have := Hlk.out; omega) ?_; intro v3 w3 hn3 _ _ hb3; have Hn3 := Lib.hid hn3; have Hb3 := Lib.hid hb3; clear hn3 hb3))
          go_roundg (n - (k + 1))
          case measure => omega
          case rel => exact ⟨k + 1, by go_num, by omega, by rw [Hcn.out, ← take_snoc' Hat.out]; exact Hn3.out, Hb.out.trans Hb3.out⟩
        · have hne : rc = J + 1 := by omega
          have hnJ : n = J + 1 := by omega
          have Hp2' := Lib.hid (show Ints wr (.slice (some ⟨rb, ro, none⟩) 0 0) (rowOf' (n - (J + 1)) (fun t => ent m k (J + 1 + t))) from by
            rw [show n - (J + 1) = 0 from by omega]
            exact ⟨[], ⟨by simp, _, 0, rfl, by simp, by simp, by simp, Or.inl rfl⟩, rfl, by simp⟩)
          clear Hp2
          have HnJ := Lib.hid hnJ
          subst hne
          clear hnJ
          go_wp2_with (first
            | (at_builtin; refine wpl_append_vals (f := Value.int .i64) (fun _ => rfl) rfl (.tmp 20) (.tmp 26) 33 rfl 3 (.int .i64 0) 8 Try.underlying33 infoI rfl (New.empty (R := OValR (Value.int .i64)) (lo := wr.heap.size) wr (Nat.le_refl _)) (by simp) (Ints.frame _ _ _ _ Hp1.out ((Below.refl _ _).alloc (Nat.le_refl _) _)) rfl rfl (by rw [rowOf_len]; simp; omega) (by rw [rowOf_len]; simp; omega) ?_; intro v1 w1 hn1 _ _ hb1; obtain ⟨xa, xn, xc, rfl⟩ := hn1.slice; have Hn1 := Lib.hid hn1; have Hb1 := Lib.hid (((Below.refl wr.heap.size wr).alloc (Nat.le_refl _) _).trans hb1); have hcell1 := Hb1.out.rule; clear hn1 hb1)
            | (at_builtin; refine wpl_append_vals (f := Value.int .i64) (fun _ => rfl) rfl (.tmp 29) (.tmp 36) 33 rfl 3 (.int .i64 0) 8 Try.underlying33 infoI rfl (w := w1) Hn1.out Hb1.out.size (Ints.frame _ _ _ _ Hp2'.out Hb1.out) rfl rfl (by simp only [List.length_append, rowOf_len, List.length_nil]; omega) (by simp only [List.length_append, rowOf_len, List.length_nil]; omega) ?_; intro v2 w2 hn2 _ _ hb2; obtain ⟨ya, yn, yc, rfl⟩ := hn2.slice; have Hn2 := Lib.hid (show New (OInts 3) wr.heap.size w2 _ (rowOf' (n - 1) (fun l => ent m k (skip J l))) from by rw [← Hsp.out]; exact hn2); have Hb2 := Lib.hid (Hb1.out.trans hb2); clear hn2 hb2)
            | (at_builtin; refine wpl_push (w0 := wr) (lo := w.heap.size) (OInts.kept _) rfl (.tmp 28) (.tmp 38) 24 rfl 33 (.slice none 0 0) 24 Try.underlying24 infoR rfl Hn.out hle (Hb2.out.alloc Hb2.out.size _) (New.keep (OInts.kept _) Hn2.out ((Below.refl w2.heap.size _).alloc (Nat.le_refl _) _) (Nat.le_refl _)) (bb := w2.heap.size) (c := 1) (by simp) rfl rfl (by have := Hlk.out; omega) (by have := Hlk.out; omega) ?_; intro v3 w3 hn3 _ _ hb3; have Hn3 := Lib.hid hn3; have Hb3 := Lib.hid hb3; clear hn3 hb3))
          go_roundg (n - (k + 1))
          case measure => omega
          case rel => exact ⟨k + 1, by go_num, by omega, by rw [Hcn.out, ← take_snoc' Hat.out]; exact Hn3.out, Hb.out.trans Hb3.out⟩
    · have e : k = n := by omega
      subst e
      have hr := Hn.out
      rw [cnt_full hI, show (minorT m I J k).take (k - 1) = minorT m I J k from tabOf_full] at hr
      have Hr := Lib.hid hr
      clear hr
      go_wp2
      go_ret
      exact ⟨_, rfl, Hr.out, Hb.out⟩

/-- The table with the first c numbers of row j added to row i. -/
def sumF (m : List (List Int)) (I J n c : Nat) : List (List Int) := tabOf n n (fun k l => if k = I ∧ l < c then ent m I l + ent m J l else ent m k l)
theorem sumF_start {m : List (List Int)} {I J n : Nat} (hm : Sq n m) : sumF m I J n 0 = m := by
  conv => rhs; rw [tab_eq hm.1 hm.2]
  exact tabOf_congr fun k _ l _ => by simp
theorem sumF_row {m : List (List Int)} {I J n c : Nat} (hI : I < n) : (sumF m I J n c)[I]? = some (rowOf' n (fun l => if I = I ∧ l < c then ent m I l + ent m J l else ent m I l)) := tabOf_at hI
theorem sumF_at {m : List (List Int)} {I J n c : Nat} (hc : c < n) : (rowOf' n (fun l => if I = I ∧ l < c then ent m I l + ent m J l else ent m I l))[c]? = some (ent m I c) := by rw [rowOf_at hc]; simp
theorem sumF_set {m : List (List Int)} {I J n c : Nat} : (sumF m I J n c).set I ((rowOf' n (fun l => if I = I ∧ l < c then ent m I l + ent m J l else ent m I l)).set c (ent m I c + ent m J c)) = sumF m I J n (c + 1) := by
  unfold sumF
  rw [tabOf_set2 n n (fun k l => if k = I ∧ l < c then ent m I l + ent m J l else ent m k l) I c]
  refine tabOf_congr fun k _ l _ => ?_
  by_cases h : k = I ∧ l = c
  · obtain ⟨rfl, rfl⟩ := h; simp
  · rw [if_neg h]
    by_cases h2 : k = I ∧ l < c
    · rw [if_pos h2, if_pos (by omega)]
    · rw [if_neg h2, if_neg (by omega)]
theorem sumF_sq (m : List (List Int)) (I J n c : Nat) : Sq n (sumF m I J n c) := ⟨tabOf_len _ _ _, fun _ hr => mem_tabOf hr⟩
theorem minor_sum {m : List (List Int)} {I J n : Nat} (_hJ : J < n) : minorT (sumF m I J n n) J J n = joinT m I J n := by
  unfold minorT joinT
  refine tabOf_congr fun k hk l hl => ?_
  have h1 := skip_lt (j := J) hk
  have h2 := skip_lt (j := J) hl
  unfold sumF
  rw [ent_tabOf h1 h2]
  unfold joinE
  by_cases h : skip J k = I
  · rw [if_pos ⟨h, h2⟩, if_pos h, h]
  · rw [if_neg (fun e => h e.1), if_neg h]

set_option maxHeartbeats 2000000 in
set_option maxRecDepth 100000 in
theorem spec_JoinOut_c {w : World} {va : Value} {m : List (List Int)} {i j : Int} (h1 : Tab w va m) :
    Calls Try.prog 12 #[va, .int .i64 i, .int .i64 j] w (Makes2 (OTab 3 33) w (joinV m i j) (joinOk m i j)) := by
  have hsa := h1.shape
  obtain ⟨aa, ac, rfl, _, _, _⟩ := hsa
  have Hc := Lib.hid (spec_IsMatrix_c h1)
  cases hm : isMat m with
  | false =>
    have HK := Lib.hid (show joinOk m i j = false from by unfold joinOk; rw [hm]; rfl)
    have HV := Lib.hid (show joinV m i j = [] from by unfold joinV; rw [HK.out]; rfl)
    rw [hm] at Hc
    rw [HK.out]
    clear h1 hm
    go_enter Try.func12, Try.ntmps12
    go_wp2_with fail
    refine Hc.out.mono ?_
    rintro e w' ⟨rfl, rfl⟩
    go_wp2
    go_ret2
    exact ⟨_, rfl, by rw [HV.out]; exact New.empty w (Nat.le_refl _), (Below.refl _ _).alloc (Nat.le_refl _) _⟩
  | true =>
    rw [hm] at Hc
    have sm := isMat_sq hm
    by_cases hij : 0 ≤ i ∧ i < j ∧ j < m.length
    · obtain ⟨I, rfl⟩ : ∃ I : Nat, i = (I : Int) := ⟨i.toNat, by omega⟩
      obtain ⟨J, rfl⟩ : ∃ J : Nat, j = (J : Int) := ⟨j.toNat, by omega⟩
      have HO := Lib.hid (show joinOk m I J = (colsEq m I J m.length && isMat (joinT m I J m.length)) from by unfold joinOk; rw [hm]; simp [hij])
      have HV := Lib.hid (show joinV m I J = if joinOk m I J = true then joinT m I J m.length else [] from rfl)
      generalize joinOk m I J = ok at HO HV ⊢
      generalize joinV m I J = rv at HV ⊢
      have Hbd := Lib.hid (fun k l (hk : k < m.length) (hl : l < m.length) => joinE_bd (j := J) hm hk (by omega) hl)
      clear hm
      generalize hn : m.length = n at *
      have hIJ : I < J := by omega
      have hJn : J < n := by omega
      have hn0 : 0 < n := by omega
      have hn9 : n ≤ 9 := sm.2.2
      have hIn : I < n := by omega
      have dI : decide ((I : Int) < 0) = false := by simp
      have dJ : decide (J ≤ I) = false := by simp; omega
      have dn : decide (n ≤ J) = false := by simp; omega
      obtain ⟨ab, ao, ac', hv1, hab, hae⟩ := h1.entAt hn sm.1.2 hn0
      obtain ⟨rfl, rfl⟩ : aa = some ⟨ab, ao, none⟩ ∧ ac = ac' := by simp at hv1; exact hv1
      have Hcol := Lib.hid (l18Columns_c (I := I) (J := J) h1 sm.1 hIn hJn hn9)
      cases hcs : colsEq m I J n with
      | false =>
        have HK := Lib.hid (show ok = false from by rw [HO.out, hcs]; rfl)
        have HV2 := Lib.hid (show rv = [] from by rw [HV.out, HK.out]; rfl)
        rw [hcs] at Hcol
        clear h1 sm hij hv1 hn hcs hae
        go_enter Try.func12, Try.ntmps12
        go_wp2_with fail
        refine Hc.out.mono ?_
        rintro e w' ⟨rfl, rfl⟩
        go_wp2_with fail
        refine Hcol.out.mono ?_
        rintro e w1 ⟨rfl, hdr⟩
        have hb1 := hdr.below w.heap.size
        have Hb1 := Lib.hid hb1
        have hz1 := hb1.size
        clear hb1 hdr
        go_wp2
        go_ret2
        exact ⟨_, by rw [HK.out]; rfl, by rw [HV2.out]; exact New.empty w1 hz1, Hb1.out.alloc hz1 _⟩
      | true =>
        rw [hcs] at Hcol
        have Hcp := Lib.hid (fun w1 (hb : Below w.heap.size w w1) => l4Copy_c (Tab.frame _ _ _ _ h1 hb) (by omega) (fun r hr => by rw [sm.1.2 r hr]; omega))
        have Hsq := Lib.hid sm.1
        have HC := Lib.hid hcs
        clear h1 sm hij hv1 hn hcs
        go_enter Try.func12, Try.ntmps12
        go_wp2_with fail
        refine Hc.out.mono ?_
        rintro e w' ⟨rfl, rfl⟩
        go_wp2_with fail
        refine Hcol.out.mono ?_
        rintro e w1 ⟨rfl, hdr⟩
        have hb1 := hdr.below w.heap.size
        clear hdr
        go_wp2_with fail
        refine (Hcp.out _ hb1).mono ?_
        rintro e w2 ⟨v2, rfl, hn2, hb2⟩
        have hae2 := (hae.frame hab hb1)
        have hz1 := hb1.size
        have hab1 : ab < w1.heap.size := by omega
        have Hb1 := Lib.hid hb1
        rw [← sumF_start (I := I) (J := J) Hsq.out] at hn2
        obtain ⟨gb, gc, _, _, rfl, _, hgb, hgb2, _⟩ := hn2.tab_at (sumF_row hIn) (sumF_at hn0)
        rw [(sumF_sq m I J n 0).1] at hn2 ⊢
        have Hn2 := Lib.hid hn2
        have Hb2 := Lib.hid hb2
        clear hn2 hb2 hb1 hae Hcp
        go_wp2
        go_loopg [9] n (fun g kk wr => ∃ (k : Nat), kk = .int .i64 k ∧ k + g = n ∧ New (OTab 3 33) w1.heap.size wr (.slice (some ⟨gb, 0, none⟩) n gc) (sumF m I J n k) ∧ Below w1.heap.size w1 wr)
        case atStart => exact ⟨0, rfl, by omega, Hn2.out, Hb2.out⟩
        case round =>
          obtain ⟨k, rfl, hk, hnew, hbel⟩ := hrel
          clear Hn2 Hb2
          by_cases hlt : k < n
          · obtain ⟨rb, ro, rc, hA1, hrb, _, hA2⟩ := hae2.at hJn hn0
            have hA3 := hA2 k hlt
            obtain ⟨b', c', sb, sc, hv, _, _, _, hcl1, _, hsb, _, hcl2, hfr, hst⟩ := hnew.tab_at (sumF_row hIn) (sumF_at hlt)
            obtain rfl : b' = gb := by simp at hv; exact hv.1.symm
            rw [rowOf_len] at hcl1
            have Hst := Lib.hid (by have := hst (ent m I k + ent m J k); rw [sumF_set] at this; exact this)
            obtain ⟨hd1, hd2, hd3, hd4⟩ := Hbd.out I k hIn hlt
            have Hb3 := Lib.hid (hbel.setCell (p := ⟨sb, k, none⟩) hsb (.int .i64 (ent m I k + ent m J k)))
            have hrule := hbel.rule
            have hi1 : (I : Int) < (n : Int) := by omega
            have hi2 : (J : Int) < (n : Int) := by omega
            have hi3 : (k : Int) < (n : Int) := by omega
            generalize ent m I k = X at *
            generalize ent m J k = Y at *
            clear hv hst hnew hA2 hbel hae2
            go_wp2
            go_still_tail 21, (by kernel_rfl)
            go_wp2
            go_roundg (n - (k + 1))
            case measure => omega
            case rel => exact ⟨k + 1, by go_num, by omega, New.heap (OTab.kept _ _) Hst.out rfl, Hb3.out.drew⟩
          · have e : n = k := by omega
            subst e
            clear hk
            have Hm := Lib.hid (l7Minor_c (I := J) (J := J) hnew.tab (sumF_sq m I J n n) hJn hJn hn9)
            rw [minor_sum hJn] at Hm
            have hz2 := hbel.size
            have Hb3 := Lib.hid hbel
            clear hnew hbel hae2
            go_wp2_with fail
            refine Hm.out.mono ?_
            rintro e w3 ⟨v3, rfl, hn3, hb3⟩
            have hz3 := hb3.size
            have Hb4 := Lib.hid (Hb1.out.trans ((Hb3.out.trans (hb3.mono hz2)).mono hz1))
            have Hi := Lib.hid (spec_IsMatrix_c hn3.tab)
            cases hp : isMat (joinT m I J n) with
            | false =>
              have HK := Lib.hid (show ok = false from by rw [HO.out, hp]; simp)
              have HV2 := Lib.hid (show rv = [] from by rw [HV.out, HK.out]; rfl)
              rw [hp] at Hi
              clear hp hn3 hb3
              go_wp2_with fail
              refine Hi.out.mono ?_
              rintro e w' ⟨rfl, rfl⟩
              go_wp2
              go_ret2
              exact ⟨_, by rw [HK.out]; rfl, by rw [HV2.out]; exact New.empty w3 (by omega), Hb4.out.alloc (by omega) _⟩
            | true =>
              have HK := Lib.hid (show ok = true from by rw [HO.out, hp, HC.out]; rfl)
              have HV2 := Lib.hid (show rv = joinT m I J n from by rw [HV.out, HK.out]; rfl)
              have Hn3 := Lib.hid (hn3.mono (show w.heap.size ≤ wr.heap.size by omega))
              rw [hp] at Hi
              clear hp hn3 hb3
              go_wp2_with fail
              refine Hi.out.mono ?_
              rintro e w' ⟨rfl, rfl⟩
              go_wp2
              go_ret2
              exact ⟨_, by rw [HK.out]; rfl, by rw [HV2.out]; exact Hn3.out, Hb4.out⟩
    · have HK := Lib.hid (show joinOk m i j = false from by unfold joinOk; simp [hij])
      have HV := Lib.hid (show joinV m i j = [] from by unfold joinV; rw [HK.out]; rfl)
      rw [HK.out]
      clear h1 hm sm
      by_cases h0 : i < 0
      · clear hij
        go_enter Try.func12, Try.ntmps12
        go_wp2_with fail
        refine Hc.out.mono ?_
        rintro e w' ⟨rfl, rfl⟩
        go_wp2
        go_ret2
        exact ⟨_, rfl, by rw [HV.out]; exact New.empty w (Nat.le_refl _), (Below.refl _ _).alloc (Nat.le_refl _) _⟩
      by_cases h1 : j ≤ i
      · clear hij
        go_enter Try.func12, Try.ntmps12
        go_wp2_with fail
        refine Hc.out.mono ?_
        rintro e w' ⟨rfl, rfl⟩
        go_wp2
        go_ret2
        exact ⟨_, rfl, by rw [HV.out]; exact New.empty w (Nat.le_refl _), (Below.refl _ _).alloc (Nat.le_refl _) _⟩
      have h2 : (m.length : Int) ≤ j := by omega
      clear hij
      go_enter Try.func12, Try.ntmps12
      go_wp2_with fail
      refine Hc.out.mono ?_
      rintro e w' ⟨rfl, rfl⟩
      go_wp2
      go_ret2
      exact ⟨_, rfl, by rw [HV.out]; exact New.empty w (Nat.le_refl _), (Below.refl _ _).alloc (Nat.le_refl _) _⟩

theorem joinV_bd (m : List (List Int)) (i j : Int) : (joinV m i j).length ≤ 9 ∧ ∀ x, x ∈ joinV m i j → x.length ≤ 9 := by
  unfold joinV
  split
  · rename_i h
    unfold joinOk at h
    simp only [Bool.and_eq_true] at h
    have h1 := isMat_sq h.2
    exact ⟨h1.2.2, fun x hx => by rw [h1.1.2 x hx]; exact h1.2.2⟩
  · simp
end Go.Proofs.Ytlkgkfgpnnahdaa
end

section
/-
  Determinants and turned polynomials: the plain model.
-/
namespace Go.Proofs.Ytlkgkfgpnnahdaa
open Go.RowKit Go.Deep Go.Sd

def nineOk (x : Int) : Bool := decide (x ≤ 9)
def smallM (m : List (List Int)) : Bool := isMat m && (decide (m.length ≤ 4) && m.all (fun r => r.all nineOk))

def sgn (j : Nat) : Int := if j % 2 = 0 then 1 else -1
theorem sgn_next (j : Nat) : sgn (j + 1) = -sgn j := by
  unfold sgn
  by_cases h : j % 2 = 0
  · rw [if_pos h, if_neg (by omega)]
  · rw [if_neg h, if_pos (by omega)]; rfl
theorem sgn_bd (j : Nat) : sgn j = 1 ∨ sgn j = -1 := by
  unfold sgn
  by_cases h : j % 2 = 0
  · rw [if_pos h]; exact Or.inl rfl
  · rw [if_neg h]; exact Or.inr rfl

/-- The sum of the first j terms of an expansion by the first row. -/
def detSum (t : List (List Int)) (f : Nat → Int) : Nat → Int
  | 0 => 0
  | j + 1 => if ent t 0 j ≠ 0 then detSum t f j + sgn j * ent t 0 j * f j else detSum t f j
def detR : Nat → List (List Int) → Int
  | 0, _ => 1
  | g + 1, t => detSum t (fun j => detR g (minorT t 0 j (g + 1))) (g + 1)

theorem minorT_sq (t : List (List Int)) (i j n : Nat) : Sq (n - 1) (minorT t i j n) := ⟨tabOf_len _ _ _, fun _ h => mem_tabOf h⟩
theorem minorT_bd {t : List (List Int)} {i j n : Nat} {B : Int} (hs : Sq n t) (h : Bd B t) : Bd B (minorT t i j n) := by
  intro r hr x hx
  obtain ⟨k, hk, rfl⟩ := List.mem_map.1 hr
  obtain ⟨l, hl, rfl⟩ := List.mem_map.1 hx
  have hk2 := List.mem_range.1 hk
  have hl2 := List.mem_range.1 hl
  exact h.ent hs.2 (by rw [hs.1]; exact skip_lt hk2) (skip_lt hl2)

def detB : Nat → Int
  | 0 => 1
  | 1 => 9
  | 2 => 162
  | 3 => 4374
  | _ => 157464
theorem prod_bd {x y X Y : Int} (hx : -X ≤ x ∧ x ≤ X) (hy : -Y ≤ y ∧ y ≤ Y) : -(X * Y) ≤ x * y ∧ x * y ≤ X * Y := by
  have hX : 0 ≤ X := by omega
  have hY : 0 ≤ Y := by omega
  have h1 : x.natAbs * y.natAbs ≤ X.toNat * Y.toNat := Nat.mul_le_mul (by omega) (by omega)
  have h2 : (x * y).natAbs = x.natAbs * y.natAbs := Int.natAbs_mul x y
  have h3 : ((X.toNat * Y.toNat : Nat) : Int) = X * Y := by rw [Int.natCast_mul, Int.toNat_of_nonneg hX, Int.toNat_of_nonneg hY]
  omega
theorem term_bd {j : Nat} {x y Y : Int} (hx : -9 ≤ x ∧ x ≤ 9) (hy : -Y ≤ y ∧ y ≤ Y) : -(9 * Y) ≤ sgn j * x * y ∧ sgn j * x * y ≤ 9 * Y := by
  refine prod_bd ?_ hy
  rcases sgn_bd j with h | h <;> rw [h] <;> omega
theorem detSum_bd {t : List (List Int)} {f : Nat → Int} {n : Nat} {Y : Int} (hs : Sq n t) (h0 : 0 < n) (h : Bd 9 t) (hf : ∀ j, j < n → -Y ≤ f j ∧ f j ≤ Y) (hY : 0 ≤ Y) : ∀ j, j ≤ n → -((j : Int) * (9 * Y)) ≤ detSum t f j ∧ detSum t f j ≤ (j : Int) * (9 * Y)
  | 0, _ => by simp [detSum]
  | j + 1, hj => by
    have h1 := detSum_bd hs h0 h hf hY j (by omega)
    have h2 := term_bd (j := j) (h.ent (i := 0) (j := j) hs.2 (by rw [hs.1]; exact h0) (by omega)) (hf j (by omega))
    have h3 : ((j + 1 : Nat) : Int) * (9 * Y) = (j : Int) * (9 * Y) + 9 * Y := by rw [Int.natCast_add, Int.add_mul]; omega
    rw [h3]
    unfold detSum
    by_cases hz : ent t 0 j ≠ 0
    · rw [if_pos hz]; omega
    · rw [if_neg hz]; omega
theorem detR_bd : ∀ (g : Nat) (t : List (List Int)), g ≤ 4 → Sq g t → Bd 9 t → -(detB g) ≤ detR g t ∧ detR g t ≤ detB g
  | 0, _, _, _, _ => by unfold detR; decide
  | g + 1, t, hg, hs, h => by
    have hf : ∀ j, j < g + 1 → -(detB g) ≤ detR g (minorT t 0 j (g + 1)) ∧ detR g (minorT t 0 j (g + 1)) ≤ detB g := fun j _ => detR_bd g _ (by omega) (minorT_sq t 0 j (g + 1)) (minorT_bd hs h)
    have hY : 0 ≤ detB g := by
      match g, hg with
      | 0, _ => decide
      | 1, _ => decide
      | 2, _ => decide
      | 3, _ => decide
    have h1 := detSum_bd hs (by omega) h hf hY (g + 1) (Nat.le_refl _)
    have h2 : ((g + 1 : Nat) : Int) * (9 * detB g) = detB (g + 1) := by
      match g, hg with
      | 0, _ => decide
      | 1, _ => decide
      | 2, _ => decide
      | 3, _ => decide
    rw [h2] at h1
    exact h1
end Go.Proofs.Ytlkgkfgpnnahdaa
end

section
/-
  Turned polynomials and zeta numbers: the plain model and its bounds.
-/
namespace Go.Proofs.Ytlkgkfgpnnahdaa
open Go.RowKit Go.Deep Go.Sd

/-- The numbers below i whose bit stands in s. -/
def subL (s : Nat) (i : Nat) : List Int := ((List.range i).filter fun k => s.testBit k).map Int.ofNat
theorem subL_zero (s : Nat) : subL s 0 = [] := rfl
theorem subL_yes {s i : Nat} (h : s.testBit i = true) : subL s (i + 1) = subL s i ++ [(i : Int)] := by
  unfold subL
  rw [List.range_succ, List.filter_append, List.map_append]
  simp [h]
theorem subL_no {s i : Nat} (h : s.testBit i = false) : subL s (i + 1) = subL s i := by
  unfold subL
  rw [List.range_succ, List.filter_append, List.map_append]
  simp [h]
theorem subL_len (s i : Nat) : (subL s i).length ≤ i := by
  unfold subL
  rw [List.length_map]
  exact Nat.le_trans (List.length_filter_le _ _) (by simp)
theorem subL_mem {s i : Nat} {x : Int} (h : x ∈ subL s i) : 0 ≤ x ∧ x < (i : Int) := by
  obtain ⟨k, hk, rfl⟩ := List.mem_map.1 h
  have := List.mem_range.1 (List.mem_filter.1 hk).1
  exact ⟨Int.natCast_nonneg _, Int.ofNat_lt.2 this⟩
def partT (m : List (List Int)) (l : List Int) : List (List Int) := tabOf l.length l.length (fun i j => ent m (l.getD i 0).toNat (l.getD j 0).toNat)
theorem partT_sq (m : List (List Int)) (l : List Int) : Sq l.length (partT m l) := ⟨tabOf_len _ _ _, fun _ h => mem_tabOf h⟩
theorem getD_lt {l : List Int} {n : Nat} (h : ∀ x, x ∈ l → 0 ≤ x ∧ x < (n : Int)) {i : Nat} (hi : i < l.length) : (l.getD i 0).toNat < n := by
  have e : l.getD i 0 = l[i] := by simp [List.getD, hi]
  have := h l[i] (List.getElem_mem hi)
  rw [e]
  omega
theorem partT_bd {m : List (List Int)} {n : Nat} {B : Int} {l : List Int} (hs : Sq n m) (h : Bd B m) (hl : ∀ x, x ∈ l → 0 ≤ x ∧ x < (n : Int)) : Bd B (partT m l) := by
  intro r hr x hx
  obtain ⟨k, hk, rfl⟩ := List.mem_map.1 hr
  obtain ⟨j, hj, rfl⟩ := List.mem_map.1 hx
  have hk2 := List.mem_range.1 hk
  have hj2 := List.mem_range.1 hj
  exact h.ent hs.2 (by rw [hs.1]; exact getD_lt hl hk2) (getD_lt hl hj2)
def detP (m : List (List Int)) (l : List Int) : Int := detR l.length (partT m l)
theorem detB_mono (k : Nat) : 0 ≤ detB k ∧ detB k ≤ 157464 := by
  match k with
  | 0 | 1 | 2 | 3 => decide
  | k + 4 => exact ⟨show (0 : Int) ≤ 157464 by decide, Int.le_refl _⟩
theorem detP_bd {m : List (List Int)} {n : Nat} {l : List Int} (hs : Sq n m) (hn : n ≤ 4) (h : Bd 9 m) (hl : ∀ x, x ∈ l → 0 ≤ x ∧ x < (n : Int)) (hln : l.length ≤ n) : -(detB l.length) ≤ detP m l ∧ detP m l ≤ detB l.length :=
  detR_bd _ _ (by omega) (partT_sq m l) (partT_bd hs h hl)
/-- The sum of the principal minors of a size over the first s sets. -/
def minS (m : List (List Int)) (n k : Nat) : Nat → Int
  | 0 => 0
  | s + 1 => if (subL s n).length = k then minS m n k s + detP m (subL s n) else minS m n k s
theorem minS_bd {m : List (List Int)} {n k : Nat} (hs : Sq n m) (hn : n ≤ 4) (h : Bd 9 m) : ∀ s : Nat, -((s : Int) * detB k) ≤ minS m n k s ∧ minS m n k s ≤ (s : Int) * detB k
  | 0 => by simp [minS]
  | s + 1 => by
    have h1 := minS_bd (k := k) hs hn h s
    have h3 : ((s + 1 : Nat) : Int) * detB k = (s : Int) * detB k + detB k := by rw [Int.natCast_add, Int.add_mul]; omega
    have h4 := (detB_mono k).1
    rw [h3]
    unfold minS
    split
    · rename_i he
      have h2 := detP_bd (l := subL s n) hs hn h (fun x hx => subL_mem hx) (subL_len s n)
      rw [he] at h2
      omega
    · omega
def coef (m : List (List Int)) (n k : Nat) : Int := sgn k * minS m n k (2 ^ n)
theorem pow16 {n : Nat} (h : n ≤ 4) : 2 ^ n ≤ 16 := by
  match n, h with
  | 0, _ | 1, _ | 2, _ | 3, _ | 4, _ => decide
theorem sgn_mul_bd (j : Nat) {x B : Int} (h : -B ≤ x ∧ x ≤ B) : -B ≤ sgn j * x ∧ sgn j * x ≤ B := by
  rcases sgn_bd j with e | e <;> rw [e] <;> omega
theorem minS_bd16 {m : List (List Int)} {n k : Nat} (hs : Sq n m) (hn : n ≤ 4) (h : Bd 9 m) {s : Nat} (hsn : s ≤ 2 ^ n) : -(16 * detB k) ≤ minS m n k s ∧ minS m n k s ≤ 16 * detB k := by
  have h1 := minS_bd (k := k) hs hn h s
  have h2 := pow16 hn
  have h3 : (s : Int) * detB k ≤ 16 * detB k := Int.mul_le_mul_of_nonneg_right (by omega) (detB_mono k).1
  omega
theorem coef_bd {m : List (List Int)} {n k : Nat} (hs : Sq n m) (hn : n ≤ 4) (h : Bd 9 m) : -(16 * detB k) ≤ coef m n k ∧ coef m n k ≤ 16 * detB k :=
  sgn_mul_bd k (minS_bd16 hs hn h (Nat.le_refl _))
/-- Zeros at the end go. -/
def cutN (p : List Int) : Nat → Nat
  | 0 => 0
  | n + 1 => if p.getD n 0 = 0 then cutN p n else n + 1
theorem cutN_le (p : List Int) : ∀ n, cutN p n ≤ n
  | 0 => Nat.le_refl _
  | n + 1 => by
    have := cutN_le p n
    unfold cutN
    split <;> omega
def cutL (p : List Int) : List Int := p.take (cutN p p.length)
theorem cutL_len (p : List Int) : (cutL p).length ≤ p.length := by unfold cutL; rw [List.length_take]; omega
def coefs (m : List (List Int)) (n : Nat) : List Int := (List.range (n + 1)).map (coef m n)
def turnedP (m : List (List Int)) : List Int := if smallM m = true then cutL (coefs m m.length) else []
theorem smallM_sq {m : List (List Int)} (h : smallM m = true) : isMat m = true ∧ m.length ≤ 4 ∧ Bd 9 m := by
  unfold smallM at h
  simp only [Bool.and_eq_true, decide_eq_true_eq] at h
  refine ⟨h.1, h.2.1, fun r hr x hx => ?_⟩
  have h1 := List.all_eq_true.1 (List.all_eq_true.1 h.2.2 r hr) x hx
  have h2 := isMat_bd h.1 r hr x hx
  unfold nineOk at h1
  simp at h1
  omega
theorem turnedP_at {m : List (List Int)} {k : Nat} {x : Int} (h : (turnedP m)[k]? = some x) : k ≤ 4 ∧ -(16 * detB k) ≤ x ∧ x ≤ 16 * detB k := by
  unfold turnedP at h
  split at h
  · rename_i hm
    obtain ⟨hm1, hm4, hb⟩ := smallM_sq hm
    unfold cutL at h
    rw [List.getElem?_take] at h
    split at h
    · unfold coefs at h
      rw [List.getElem?_map] at h
      obtain ⟨j, hj, rfl⟩ := Option.map_eq_some_iff.1 h
      have hj1 := List.getElem?_eq_some_iff.1 hj
      obtain ⟨hj2, hj3⟩ := hj1
      simp at hj2 hj3
      subst hj3
      exact ⟨by omega, coef_bd (isMat_sq hm1).1 hm4 hb⟩
    · cases h
  · simp at h
theorem turnedP_len (m : List (List Int)) : (turnedP m).length ≤ 5 := by
  unfold turnedP
  split
  · rename_i hm
    obtain ⟨-, hm4, -⟩ := smallM_sq hm
    have := cutL_len (coefs m m.length)
    have h2 : (coefs m m.length).length = m.length + 1 := by simp [coefs]
    omega
  · simp
/-! Zeta numbers. -/
def zSum (t out : List Int) (k : Nat) : Nat → Int
  | 0 => 0
  | i + 1 => zSum t out k i - t.getD (i + 1) 0 * out.getD (k - (i + 1)) 0
def zRnd (t : List Int) (k : Nat) : Nat := min k (t.length - 1)
def zetaL (t : List Int) : Nat → List Int
  | 0 => [1]
  | k + 1 => zetaL t k ++ [zSum t (zetaL t k) (k + 1) (zRnd t (k + 1))]
def zetaV (m : List (List Int)) (n : Int) : List Int := if smallM m = true ∧ 0 ≤ n ∧ n ≤ 8 then zetaL (turnedP m) n.toNat else []
theorem zetaL_len (t : List Int) : ∀ k, (zetaL t k).length = k + 1
  | 0 => rfl
  | k + 1 => by simp [zetaL, zetaL_len t k]
theorem zetaV_len (m : List (List Int)) (n : Int) : (zetaV m n).length ≤ 9 := by
  unfold zetaV
  split
  · rw [zetaL_len]; omega
  · simp
def P200 (k : Nat) : Int := 200 ^ k
theorem P200_succ (k : Nat) : P200 (k + 1) = 200 * P200 k := by unfold P200; rw [Int.pow_succ]; omega
theorem P200_pos (k : Nat) : 1 ≤ P200 k := by
  induction k with
  | zero => decide
  | succ k ih => rw [P200_succ]; omega
def wgt : Nat → Int
  | 1 => 72
  | _ => 7
theorem coef_wgt {i : Nat} {x y : Int} {k : Nat} (hi : 1 ≤ i) (hik : i ≤ k) (h4 : i ≤ 4) (hx : -(16 * detB i) ≤ x ∧ x ≤ 16 * detB i) (hy : -(P200 (k - i)) ≤ y ∧ y ≤ P200 (k - i)) : -(wgt i * P200 k) ≤ 100 * (x * y) ∧ 100 * (x * y) ≤ wgt i * P200 k := by
  have h := prod_bd hx hy
  obtain ⟨j, rfl⟩ : ∃ j, k = j + i := ⟨k - i, by omega⟩
  rw [Nat.add_sub_cancel] at h
  have hp := P200_pos j
  match i, hi, h4 with
  | 1, _, _ =>
    have e : P200 (j + 1) = 200 * P200 j := P200_succ j
    rw [e]
    have e1 : detB 1 = 9 := rfl
    have e2 : wgt 1 = 72 := rfl
    rw [e1] at h
    rw [e2]
    omega
  | 2, _, _ =>
    have e : P200 (j + 2) = 40000 * P200 j := by rw [P200_succ, P200_succ]; omega
    rw [e]
    have e1 : detB 2 = 162 := rfl
    have e2 : wgt 2 = 7 := rfl
    rw [e1] at h
    rw [e2]
    omega
  | 3, _, _ =>
    have e : P200 (j + 3) = 8000000 * P200 j := by rw [P200_succ, P200_succ, P200_succ]; omega
    rw [e]
    have e1 : detB 3 = 4374 := rfl
    have e2 : wgt 3 = 7 := rfl
    rw [e1] at h
    rw [e2]
    omega
  | 4, _, _ =>
    have e : P200 (j + 4) = 1600000000 * P200 j := by rw [P200_succ, P200_succ, P200_succ, P200_succ]; omega
    rw [e]
    have e1 : detB 4 = 157464 := rfl
    have e2 : wgt 4 = 7 := rfl
    rw [e1] at h
    rw [e2]
    omega
def TBd (t : List Int) : Prop := t.length ≤ 5 ∧ ∀ (k : Nat) (x : Int), t[k]? = some x → -(16 * detB k) ≤ x ∧ x ≤ 16 * detB k
theorem turnedP_tbd (m : List (List Int)) : TBd (turnedP m) := ⟨turnedP_len m, fun _ _ h => (turnedP_at h).2⟩
def ZBd (out : List Int) : Prop := ∀ (k : Nat) (x : Int), out[k]? = some x → -(P200 k) ≤ x ∧ x ≤ P200 k
theorem getD_at {l : List Int} {i : Nat} (h : i < l.length) : l[i]? = some (l.getD i 0) := by simp [List.getD, h]
theorem zTerm_bd {t out : List Int} {k i : Nat} (ht : TBd t) (ho : ZBd out) (hi : 1 ≤ i) (hik : i ≤ k) (hit : i < t.length) (hok : k - i < out.length) : -(wgt i * P200 k) ≤ 100 * (t.getD i 0 * out.getD (k - i) 0) ∧ 100 * (t.getD i 0 * out.getD (k - i) 0) ≤ wgt i * P200 k :=
  coef_wgt hi hik (by have := ht.1; omega) (ht.2 i _ (getD_at hit)) (ho _ _ (getD_at hok))
theorem zSum_bd {t out : List Int} {k : Nat} (ht : TBd t) (ho : ZBd out) (hl : out.length = k) : ∀ i, i ≤ zRnd t k → (-(100 * P200 k) ≤ 100 * zSum t out k i ∧ 100 * zSum t out k i ≤ 100 * P200 k) ∧ (i = 0 ∨ (-((65 + 7 * (i : Int)) * P200 k) ≤ 100 * zSum t out k i ∧ 100 * zSum t out k i ≤ (65 + 7 * (i : Int)) * P200 k))
  | 0, _ => by
    have := P200_pos k
    exact ⟨by simp only [zSum]; omega, Or.inl rfl⟩
  | i + 1, hi => by
    have h1 := (zSum_bd ht ho hl i (by omega)).2
    have h0 := ht.1
    unfold zRnd at hi
    have h2 := zTerm_bd (k := k) (i := i + 1) ht ho (by omega) (by omega) (by omega) (by omega)
    have hp := P200_pos k
    have e : zSum t out k (i + 1) = zSum t out k i - t.getD (i + 1) 0 * out.getD (k - (i + 1)) 0 := rfl
    rw [e]
    generalize t.getD (i + 1) 0 * out.getD (k - (i + 1)) 0 = y at *
    have h4 : i + 1 ≤ 4 := by omega
    generalize P200 k = q at *
    have key : -((65 + 7 * ((i + 1 : Nat) : Int)) * q) ≤ 100 * (zSum t out k i - y) ∧ 100 * (zSum t out k i - y) ≤ (65 + 7 * ((i + 1 : Nat) : Int)) * q := by
      match i, h4 with
      | 0, _ => simp only [zSum, wgt] at *; omega
      | 1, _ => simp only [wgt] at h2; generalize zSum t out k 1 = s at *; omega
      | 2, _ => simp only [wgt] at h2; generalize zSum t out k 2 = s at *; omega
      | 3, _ => simp only [wgt] at h2; generalize zSum t out k 3 = s at *; omega
    refine ⟨?_, Or.inr key⟩
    have h5 : (65 + 7 * ((i + 1 : Nat) : Int)) * q ≤ 100 * q := Int.mul_le_mul_of_nonneg_right (by omega) (by omega)
    omega
theorem zetaL_bd {t : List Int} (ht : TBd t) : ∀ k, ZBd (zetaL t k)
  | 0 => by
    intro k x h
    have h1 := (List.getElem?_eq_some_iff.1 h).1
    simp [zetaL] at h1
    subst h1
    simp [zetaL] at h
    subst h
    decide
  | k + 1 => by
    intro j x h
    unfold zetaL at h
    by_cases hj : j < k + 1
    · rw [List.getElem?_append_left (by rw [zetaL_len]; exact hj)] at h
      exact zetaL_bd ht k j x h
    · rw [List.getElem?_append_right (by rw [zetaL_len]; omega), zetaL_len] at h
      have h1 := (List.getElem?_eq_some_iff.1 h).1
      simp at h1
      obtain rfl : j = k + 1 := by omega
      simp at h
      subst h
      have h2 := (zSum_bd ht (zetaL_bd ht k) (zetaL_len t k) _ (Nat.le_refl (zRnd t (k + 1)))).1
      omega
theorem P200_le {k : Nat} (h : k ≤ 8) : P200 k ≤ 2560000000000000000 := by
  match k, h with
  | 0, _ | 1, _ | 2, _ | 3, _ | 4, _ | 5, _ | 6, _ | 7, _ | 8, _ => decide
end Go.Proofs.Ytlkgkfgpnnahdaa
end

section
/-
  The runs of append, told ahead of a walk: one own element, a slice of plain values.
-/
namespace Go.Sd
open Go.RowKit Go.Deep
section
variable {P : Program} {w : World}
theorem run_push {α : Type} {R : OwnRel α} (hR : Kept R) (t ty : TypeId)
    (e : TypeId) (z : Value) (bytes : Nat) (ht : P.underlying t = some (.slice e)) (hinfo : (P.info? e).map (fun i => (i.zero, i.size, i.bytes)) = some (some z, 1, bytes)) (hz1 : z.cells = #[z])
    {w0 : World} {lo : Nat} {v : Value} {xs : List α} (h0 : New (OwnOf e R) lo w0 v xs) (hlo : lo ≤ w0.heap.size) (hb : Below w0.heap.size w0 w)
    {u : Value} {y : α} (hu : New R w0.heap.size w u y) {bb : Nat} {c : Nat} (hcell : w.cell? ⟨bb, 0, none⟩ = some u)
    (hbytes : (xs.length + 1) * bytes ≤ 140737488355328) (h63 : xs.length + 1 ≤ 9223372036854775807) :
    ∃ v' w', (Builtin.append_ #[t, t] ty #[v, .slice (some ⟨bb, 0, none⟩) 1 c]).run P w = .ok v' w' ∧ New (OwnOf e R) lo w' v' (xs ++ [y]) ∧ w.grownBy w' v.ownBlock ∧ Below lo w0 w' := by
  obtain ⟨i, hi, hzz⟩ := Option.map_eq_some_iff.1 hinfo
  simp only [Prod.mk.injEq] at hzz
  obtain ⟨hz, hsz, hby⟩ := hzz
  obtain ⟨F, ⟨us, Fs, how, hl, hr, rfl⟩, hnd, hge⟩ := h0
  obtain ⟨G, hG, hGn, hGe⟩ := hu
  have hul : us.length = xs.length := by simpa using how.1
  have hvlt : ∀ k, v.ownBlock = some k → lo ≤ k ∧ k < w0.heap.size := fun k hk => ⟨hge k (by simp [hk]), (how.lt k hk).2⟩
  have how1 : w.ownsRow 0 e 1 v xs.length us := ownsRow_keep how fun b hb' => hb.block b (hvlt b hb').2
  obtain ⟨v', w', hrun, how', hg, _, hat⟩ := run_append_own_at (P := P) w 0 t ty e i z 1 bytes ht hi hz hsz hby (by rw [hz1]; rfl) (by decide) v xs.length us how1 ⟨bb, 0, none⟩ 1 c [u] (by simp)
    (by
      intro j u' hj
      match j, hj with
      | 0, hj =>
        simp at hj
        subst hj
        simpa [Addr.add] using hcell)
    (by
      intro u' hu'
      simp at hu'
      subst hu'
      exact hR.one _ _ _ _ hG) h63 hbytes (Nat.zero_le _)
  have hlt0 : ∀ b, b ∈ Fs.flatten → b < w0.heap.size := fun b hb' => by
    obtain ⟨H, hH, hb2⟩ := List.mem_flatten.1 hb'
    obtain ⟨j, hj⟩ := List.getElem?_of_mem hH
    have hj1 : j < Fs.length := (List.getElem?_eq_some_iff.1 hj).1
    exact hR.lt _ _ _ _ (hr j us[j] xs[j] H (List.getElem?_eq_getElem (by omega)) (List.getElem?_eq_getElem (by omega)) hj) b hb2
  have hsize := hb.size
  have hGlt : ∀ b, b ∈ G → b < w.heap.size := hR.lt _ _ _ _ hG
  have hnd' := List.nodup_append.1 hnd
  have hnv : ∀ k, v.ownBlock = some k → k ∉ Fs.flatten := fun k hk hm => hnd'.2.2 k (by simp [hk]) k hm rfl
  refine ⟨v', w', hrun, ⟨v'.ownBlock.toList ++ (Fs ++ [G]).flatten, ⟨us ++ [u], Fs ++ [G], by simpa using how', by simp [hl], ?_, rfl⟩, ?_, ?_⟩, hg, ?_⟩
  · intro j u' x' G' hu' hx' hG'
    by_cases hj : j < xs.length
    · rw [List.getElem?_append_left (by omega)] at hu' hx' hG'
      refine hR.keep _ _ _ _ _ (hr j u' x' G' hu' hx' hG') fun b hb' => ?_
      have hm : b ∈ Fs.flatten := List.mem_flatten_of_mem (List.mem_of_getElem? hG') hb'
      have h1 := hlt0 b hm
      rw [hg.block b (by omega) (fun e => hnv b e.symm hm), hb.block b h1]
    · have hj2 : j = xs.length := by
        have := (List.getElem?_eq_some_iff.1 hx').1
        simp at this; omega
      subst hj2
      rw [List.getElem?_append_right (by omega)] at hu' hx' hG'
      simp [hul, hl] at hu' hx' hG'
      subst hu' hx' hG'
      refine hR.keep _ _ _ _ _ hG fun b hb' => hg.block b (hGlt b hb') fun e => ?_
      have := hvlt b e.symm
      have := hGe b hb'
      omega
  · simp only [List.flatten_append, List.flatten_cons, List.flatten_nil, List.append_nil]
    refine List.nodup_append.2 ⟨by cases v'.ownBlock <;> simp, List.nodup_append.2 ⟨hnd'.2.1, hGn, ?_⟩, ?_⟩
    · intro p hp q hq e
      subst e
      have := hlt0 p hp
      have := hGe p hq
      omega
    · intro p hp q hq e
      subst e
      simp at hp
      rcases hat with hat | hat
      · rw [hat] at hp
        rcases List.mem_append.1 hq with hq | hq
        · exact hnv p hp hq
        · have := hvlt p hp
          have := hGe p hq
          omega
      · rw [hat] at hp
        simp at hp
        rcases List.mem_append.1 hq with hq | hq
        · have := hlt0 p hq; omega
        · have := hGlt p hq; omega
  · intro b hb'
    rcases List.mem_append.1 hb' with hb' | hb'
    · simp at hb'
      rcases hat with hat | hat
      · rw [hat] at hb'; exact (hvlt b hb').1
      · rw [hat] at hb'; simp at hb'; omega
    · simp at hb'
      rcases hb' with ⟨H, hH, hb'⟩ | hb'
      · exact hge b (by simp; exact Or.inr ⟨H, hH, hb'⟩)
      · have := hGe b hb'; omega
  · exact (hb.mono hlo).grown hg (by omega) (fun k hk => (hvlt k hk).1)
theorem run_vals {α : Type} {f : α → Value} (hf : ∀ x, (f x).oneCell' = true) (t ty : TypeId)
    (e : TypeId) (z : Value) (bytes : Nat) (ht : P.underlying t = some (.slice e)) (hinfo : (P.info? e).map (fun i => (i.zero, i.size, i.bytes)) = some (some z, 1, bytes)) (hz1 : z.cells = #[z])
    {lo : Nat} {v : Value} {ys : List α} (h0 : New (OwnOf e (OValR f)) lo w v ys) (hlo : lo ≤ w.heap.size)
    {v2 : Value} {xs : List α} (h2 : SlOf (ValR f) w v2 xs)
    (hbytes : (ys.length + xs.length) * bytes ≤ 140737488355328) (h63 : ys.length + xs.length ≤ 9223372036854775807) :
    ∃ v' w', (Builtin.append_ #[t, t] ty #[v, v2]).run P w = .ok v' w' ∧ New (OwnOf e (OValR f)) lo w' v' (ys ++ xs) ∧ w.grownBy w' v.ownBlock ∧ Below lo w w' := by
  obtain ⟨i, hi, hzz⟩ := Option.map_eq_some_iff.1 hinfo
  simp only [Prod.mk.injEq] at hzz
  obtain ⟨hz, hsz, hby⟩ := hzz
  have h0' := h0
  obtain ⟨F, ⟨us, Fs, how, hl, hr, rfl⟩, hnd, hge⟩ := h0
  have hul : us.length = ys.length := by simpa using how.1
  have hvlt : ∀ k, v.ownBlock = some k → lo ≤ k ∧ k < w.heap.size := fun k hk => ⟨hge k (by simp [hk]), (how.lt k hk).2⟩
  obtain ⟨vs, hsl, hvl, hvr⟩ := h2
  have hvs : vs = xs.map f := by
    apply List.ext_getElem?
    intro j
    by_cases hj : j < xs.length
    · rw [List.getElem?_map, List.getElem?_eq_getElem hj, List.getElem?_eq_getElem (by omega)]
      exact congrArg some (hvr j _ _ (List.getElem?_eq_getElem (by omega)) (List.getElem?_eq_getElem hj))
    · rw [List.getElem?_eq_none (by omega), List.getElem?_eq_none (by simp; omega)]
  subst hvs
  obtain ⟨_, ad, c, hv2, _, _, hn, hcells⟩ := hsl
  simp only [List.length_map] at hv2
  have key : ∀ (ad : Addr), (∀ (j : Nat) (u : Value), (xs.map f)[j]? = some u → w.cell? (ad.add j) = some u) → v2 = .slice (some ad) xs.length c → ∃ v' w', (Builtin.append_ #[t, t] ty #[v, v2]).run P w = .ok v' w' ∧ New (OwnOf e (OValR f)) lo w' v' (ys ++ xs) ∧ w.grownBy w' v.ownBlock ∧ Below lo w w' := by
    intro ad had hv2'
    obtain ⟨v', w', hrun, how', hg, _, hat⟩ := run_append_own_at (P := P) w 0 t ty e i z 1 bytes ht hi hz hsz hby (by rw [hz1]; rfl) (by decide) v ys.length us how ad xs.length c (xs.map f) (by simp) had
      (by
        intro u hu
        obtain ⟨y, _, rfl⟩ := List.mem_map.1 hu
        exact hf y) h63 hbytes (Nat.zero_le _)
    have hFs : ∀ G, G ∈ Fs → G = [] := fun G hG => by
      obtain ⟨j, hj⟩ := List.getElem?_of_mem hG
      have hj1 : j < Fs.length := (List.getElem?_eq_some_iff.1 hj).1
      exact (hr j us[j] ys[j] G (List.getElem?_eq_getElem (by omega)) (List.getElem?_eq_getElem (by omega)) hj).2
    have hfl : (Fs ++ List.replicate xs.length []).flatten = [] := by
      rw [List.flatten_eq_nil_iff]
      intro G hG
      rcases List.mem_append.1 hG with hG | hG
      · exact hFs G hG
      · exact (List.mem_replicate.1 hG).2
    refine ⟨v', w', by rw [hv2']; exact hrun, ⟨_, ⟨us ++ xs.map f, Fs ++ List.replicate xs.length [], by simpa using how', by simp [hl], ?_, rfl⟩, ?_, ?_⟩, hg, (Below.of_grown hg hlo fun k hk => (hvlt k hk).1)⟩
    · intro j u' x' G' hu' hx' hG'
      by_cases hj : j < ys.length
      · rw [List.getElem?_append_left (by omega)] at hu' hx' hG'
        exact hr j u' x' G' hu' hx' hG'
      · rw [List.getElem?_append_right (by omega)] at hu' hx' hG'
        rw [hul, List.getElem?_map, hx'] at hu'
        simp at hu'
        exact ⟨hu'.symm, (List.mem_replicate.1 (List.mem_of_getElem? hG')).2⟩
    · rw [hfl]
      cases v'.ownBlock <;> simp
    · intro b hb
      rw [hfl] at hb
      simp at hb
      rcases hat with hat | hat
      · rw [hat] at hb; exact (hvlt b hb).1
      · rw [hat] at hb; simp at hb; omega
  cases ad with
  | none =>
    have hx0 : xs = [] := by
      rcases hcells with h | ⟨b, o, h, _⟩
      · simpa using h
      · cases h
    subst hx0
    have := hn rfl
    subst this
    refine ⟨v, w, ?_, by rw [List.append_nil]; exact h0', ⟨rfl, rfl, rfl, Nat.le_refl _, fun _ _ _ => rfl⟩, Below.refl _ _⟩
    rw [hv2]
    exact run_append_owned_none (P := P) w 0 t ty e i 1 ht hi v _ us how
  | some ad =>
    rcases hcells with hnil | ⟨b, o, had, _, hc⟩
    · exact key ad (by rw [hnil]; simp) hv2
    · cases had
      refine key _ (fun j u hj => ?_) hv2
      have := hc j u hj
      cases j <;> simpa [Addr.add] using this
end
end Go.Sd
end

section
/-
  A region that draws its order and whose last operation writes a cell that the region reads: the condition on the world is asked only while operations are left.
-/
namespace Go.Sd
open Go.RowKit Go.Deep
section
variable {P : Program} {ops : Array Oper} {Q : Exit → Act → World → Prop} {md : Region.Mode} {S : World → Prop}
/-- Some operation is left. -/
def Rem (listed : Array Bool) : Prop := ∃ k : Nat, listed[k]? = some false
/-- Some operation that is left waits for number i. -/
def waited (md : Region.Mode) (ops : Array Oper) (listed : Array Bool) (i : Nat) : Bool := (List.range ops.size).any fun m => (listed[m]? == some false) && (decide (m ≠ i) && (match ops[m]? with | some om => om.after.any (fun e => Region.binds md e && decide (e.on = i)) | none => false))
def wpAnyL (P : Program) (md : Region.Mode) (ops : Array Oper) (Q : Exit → Act → World → Prop) (S : World → Prop) : Nat → Array Bool → Act → World → Prop
  | 0, listed, a, w => Region.ready md ops listed = [] ∧ Q .normal a w
  | fuel + 1, listed, a, w =>
    (Region.ready md ops listed = [] → Q .normal a w) ∧
    ∀ i ∈ Region.ready md ops listed, wpOp P ops Q i (fun a' w' => (Rem (listed.setIfInBounds i true) → S w') ∧ wpAnyL P md ops Q S fuel (listed.setIfInBounds i true) a' w') a w
theorem wpAny_of_L : ∀ (fuel : Nat) (listed : Array Bool) (a : Act) (w : World), wpAnyL P md ops Q S fuel listed a w → wpAny P md ops Q fuel listed a w
  | 0, _, _, _, h => h
  | fuel + 1, _, _, _, h => ⟨h.1, fun i hi => wpOp_mono (fun _ _ h' => wpAny_of_L fuel _ _ _ h'.2) (h.2 i hi)⟩
theorem wpAnyL_first {i : Nat} {oi : Oper} {v : Value} (hi : ops[i]? = some oi) (hsel : ∀ (j : Nat) (o : Oper) cs b, ops[j]? = some o → o.op ≠ .select cs b)
    (hQ : ∀ c a w, Q (.panic c) (a.put oi.dst v) w → Q (.panic c) a w) :
    ∀ (fuel : Nat) (listed : Array Bool) (a : Act) (w : World),
      (∀ j oj, ops[j]? = some oj → j ≠ i → listed.getD j true = false → (∀ e ∈ oj.after, Region.binds md e = true → e.on ≠ i) → oi.apart ops oj = true) →
      i ∈ Region.ready md ops listed → (∃ m om, ops[m]? = some om ∧ listed[m]? = some false ∧ m ≠ i ∧ ∃ e ∈ om.after, Region.binds md e = true ∧ e.on = i) → YieldsIf P ops S oi v a → S w →
      wpAnyL P md ops Q S fuel (listed.setIfInBounds i true) (a.put oi.dst v) w → wpAnyL P md ops Q S (fuel + 1) listed a w := by
  intro fuel
  induction fuel with
  | zero =>
    intro listed a w _ hr _ hy hS H
    refine ⟨fun h => (by rw [h] at hr; cases hr), fun j hj => ?_⟩
    by_cases e : j = i
    · subst e; exact hy.wpOp hi hS ⟨fun _ => hS, H⟩
    · have h1 := ready_mono hj e
      rw [H.1] at h1
      cases h1
  | succ fuel ih =>
    intro listed a w hfree hr hm hy hS H
    refine ⟨fun h => (by rw [h] at hr; cases hr), fun j hj => ?_⟩
    by_cases e : j = i
    · subst e; exact hy.wpOp hi hS ⟨fun _ => hS, H⟩
    · have hn := H.2 j (ready_mono hj e)
      obtain ⟨hju, oj, hoj, hall⟩ := mem_ready.1 hj
      have hnot : ∀ f ∈ oj.after, Region.binds md f = true → f.on ≠ i := fun f hf hb he => by
        have g1 := hall f hf hb
        have g0 := (mem_ready.1 hr).1
        rw [he] at g1
        by_cases hl : i < listed.size
        · simp [hl] at g0 g1; rw [g0] at g1; cases g1
        · simp [Array.getElem?_eq_none (Nat.le_of_not_lt hl)] at g1
      have hp := wpOp_putIf hoj (hfree j oj hoj e hju hnot) (fun cs b => hsel i oi cs b hi) (fun cs b => hsel j oj cs b hoj) hQ hy hn
      have hir : i ∈ Region.ready md ops (listed.setIfInBounds j true) := ready_mono hr (fun h => e h.symm)
      have hfr : ∀ k ok, ops[k]? = some ok → k ≠ i → (listed.setIfInBounds j true).getD k true = false → (∀ f ∈ ok.after, Region.binds md f = true → f.on ≠ i) → oi.apart ops ok = true := fun k ok hk hki hun hno => by
        refine hfree k ok hk hki ?_ hno
        by_cases hjk : j = k
        · subst hjk; exact hju
        · rw [getD_set_ne true hjk] at hun; exact hun
      refine wpOp_mono (fun a' w' h => ?_) hp
      obtain ⟨m, om, h1, h2, h3, f, hf, hb, he⟩ := hm
      have hjm : j ≠ m := fun h0 => by
        subst h0
        rw [hoj] at h1
        obtain rfl := Option.some.inj h1
        exact hnot f hf hb he
      have hSw : S w' := h.2.1 ⟨m, by rw [Array.getElem?_setIfInBounds_ne hjm, Array.getElem?_setIfInBounds_ne (Ne.symm h3)]; exact h2⟩
      refine ⟨fun _ => hSw, ih _ a' w' hfr hir ⟨m, om, h1, by rw [Array.getElem?_setIfInBounds_ne hjm]; exact h2, h3, f, hf, hb, he⟩ h.1 hSw ?_⟩
      rw [Array.setIfInBounds_comm _ _ e]
      exact h.2.2
theorem waited_spec {listed : Array Bool} {i : Nat} (h : waited md ops listed i = true) : ∃ m om, ops[m]? = some om ∧ listed[m]? = some false ∧ m ≠ i ∧ ∃ e ∈ om.after, Region.binds md e = true ∧ e.on = i := by
  unfold waited at h
  obtain ⟨m, _, h⟩ := List.any_eq_true.1 h
  simp only [Bool.and_eq_true, beq_iff_eq, decide_eq_true_eq] at h
  obtain ⟨h1, h2, h3⟩ := h
  cases hm : ops[m]? with
  | none => rw [hm] at h3; cases h3
  | some om =>
    rw [hm] at h3
    obtain ⟨k, hk, he⟩ := Array.any_eq_true.1 h3
    simp only [Bool.and_eq_true, decide_eq_true_eq] at he
    exact ⟨m, om, hm, h1, h2, _, Array.getElem_mem hk, he⟩
theorem wpAnyL_take (i : Nat) {oi : Oper} {v : Value} {fuel : Nat} {listed : Array Bool} {a : Act} {w : World} (hi : ops[i]? = some oi)
    (hs : Region.noSelect ops = true) (hf : Region.free md ops listed i = true) (hr : (Region.ready md ops listed).contains i = true) (hw : waited md ops listed i = true)
    (hQ : ∀ c a w, Q (.panic c) (a.put oi.dst v) w → Q (.panic c) a w) (hy : YieldsIf P ops S oi v a) (hS : S w)
    (h : wpAnyL P md ops Q S fuel (listed.setIfInBounds i true) (a.put oi.dst v) w) : wpAnyL P md ops Q S (fuel + 1) listed a w :=
  wpAnyL_first hi (Region.noSelect_spec hs) hQ fuel listed a w (Region.free_spec hi hf) (by simpa using hr) (waited_spec hw) hy hS h
/-- One alone may come up. -/
theorem wpAnyL_one (i : Nat) {o : Oper} {fuel : Nat} {listed : Array Bool} {a : Act} {w : World} (hr : Region.ready md ops listed = [i]) (ho : ops[i]? = some o)
    (h : ∀ K' : Act → World → Prop, Shut (∀ a w, (Rem (listed.setIfInBounds i true) → S w) → wpAnyL P md ops Q S fuel (listed.setIfInBounds i true) a w → K' a w) → if Region.wanted o (yielded ops a.tmps) = true then Oper.wp P o a w K' Q else K' (a.put o.dst undef) w) : wpAnyL P md ops Q S (fuel + 1) listed a w :=
  ⟨fun h0 => (by rw [hr] at h0; cases h0), fun j hj => by
    rw [hr] at hj
    obtain rfl := List.mem_singleton.1 hj
    exact wpOp_step ho fun K' hK => h K' fun a w hS hW => hK a w ⟨hS, hW⟩⟩
theorem wpAnyL_done {listed : Array Bool} {a : Act} {w : World} (hr : Region.ready md ops listed = []) (h : Q .normal a w) : ∀ fuel, wpAnyL P md ops Q S fuel listed a w
  | 0 => ⟨hr, h⟩
  | _ + 1 => ⟨fun _ => h, by rw [hr]; simp⟩
theorem wp_region_L (S : World → Prop) {id : Nat} {a : Act} {w : World} (hm : P.follows .mixedOrders = true) (h : wpAnyL P .any ops Q S ops.size (Array.replicate ops.size false) a w.drew) : (Code.region id ops true).wp P Q a w :=
  wp_region_any hm (wpAny_of_L _ _ _ _ h)
/-- All of the listed have come up. -/
def allUp (listed : Array Bool) : Bool := listed.all id
theorem not_rem {listed : Array Bool} (h : allUp listed = true) : ¬ Rem listed := by
  rintro ⟨k, hk⟩
  unfold allUp at h
  have hl := (Array.getElem?_eq_some_iff.1 hk)
  have := Array.all_eq_true.1 h k hl.1
  rw [hl.2] at this
  cases this
end
end Go.Sd
end

section
/-
  IsSmall, both sides; a table without a row and a column (the program's).
-/
namespace Go.Sd
open Go.RowKit Go.Deep
theorem Tab.rowOf {w : World} {v : Value} {m : List (List Int)} (h : Tab w v m) {i : Nat} {r : List Int} (hr : m[i]? = some r) : ∃ b o c a' c', v = .slice (some ⟨b, o, none⟩) m.length c ∧ b < w.heap.size ∧ w.cell? ⟨b, o + i, none⟩ = some (.slice a' r.length c') ∧ Ints w (.slice a' r.length c') r := by
  obtain ⟨a, c, rfl, -, -, hc⟩ := h.shape
  have hi := (List.getElem?_eq_some_iff.1 hr).1
  obtain ⟨b, o, rfl, hb, hx⟩ := hc (by omega)
  obtain ⟨u, hu, hru⟩ := hx i r hr
  obtain ⟨a', c', rfl, -⟩ := hru.shape
  exact ⟨b, o, c, a', c', rfl, hb, hu, hru⟩
theorem Ints.elOf {w : World} {v : Value} {xs : List Int} (h : Ints w v xs) {j : Nat} {x : Int} (hx : xs[j]? = some x) : ∃ b o c, v = .slice (some ⟨b, o, none⟩) xs.length c ∧ b < w.heap.size ∧ w.cell? ⟨b, o + j, none⟩ = some (.int .i64 x) := by
  obtain ⟨a, c, rfl, -, -, hc⟩ := h.shape
  have hi := (List.getElem?_eq_some_iff.1 hx).1
  obtain ⟨b, o, rfl, hb, hx'⟩ := hc (by omega)
  obtain ⟨u, hu, hru⟩ := hx' j x hx
  exact ⟨b, o, c, rfl, hb, by rw [hu, show u = .int .i64 x from hru]⟩
end Go.Sd
namespace Go.Proofs.Ytlkgkfgpnnahdaa
open Go.RowKit Go.Deep Go.Sd
set_option linter.unusedSimpArgs false
theorem all_drop {α : Type} {p : α → Bool} {xs : List α} {k : Nat} {x : α} (h : xs[k]? = some x) : (xs.drop k).all p = (p x && (xs.drop (k + 1)).all p) := by
  obtain ⟨h1, h2⟩ := List.getElem?_eq_some_iff.1 h
  rw [List.drop_eq_getElem_cons h1, h2, List.all_cons]
def nines (m : List (List Int)) : Bool := m.all fun r => r.all nineOk
set_option maxHeartbeats 1000000 in
set_option maxRecDepth 100000 in
theorem impl_IsSmall_c {w : World} {v : Value} {m : List (List Int)} (h : Tab w v m) :
    Calls Try.prog 121 #[v] w fun e w' => e = .returned (.bool (smallM m)) ∧ w' = w := by
  have HI := Lib.hid (impl_IsMatrix_c h)
  have HT := Lib.hid h
  obtain ⟨va, vc, rfl, -⟩ := h.shape
  have hlen := h.len
  have HM := Lib.hid (show smallM m = (isMat m && (decide (m.length ≤ 4) && nines m)) from rfl)
  generalize smallM m = R at HM ⊢
  clear h
  cases him : isMat m with
  | false =>
    have HF := Lib.hid (show R = false from by rw [HM.out, him]; rfl)
    rw [him] at HI
    clear HM HT him
    go_enter Try.func121, Try.ntmps121
    go_wp2_with fail
    (with_reducible refine HI.out.mono ?_)
    rintro e w0 ⟨rfl, rfl⟩
    go_wp2
    go_ret
    exact ⟨by rw [HF.out]; rfl, rfl⟩
  | true =>
  rw [him] at HI HM
  clear him
  by_cases h4 : 4 < m.length
  · have h4i : (4 : Int) < (m.length : Int) := by omega
    have HF := Lib.hid (show R = false from by rw [HM.out, show decide (m.length ≤ 4) = false from decide_eq_false (by omega)]; rfl)
    clear HM HT
    go_enter Try.func121, Try.ntmps121
    go_wp2_with fail
    (with_reducible refine HI.out.mono ?_)
    rintro e w0 ⟨rfl, rfl⟩
    go_wp2
    go_ret
    exact ⟨by rw [HF.out]; rfl, rfl⟩
  have h4i : ¬ ((4 : Int) < (m.length : Int)) := by omega
  have HR := Lib.hid (show R = (m.drop 0).all (fun r => r.all nineOk) from by rw [HM.out, show decide (m.length ≤ 4) = true from decide_eq_true (by omega)]; rfl)
  clear HM
  obtain ⟨n, hn⟩ : ∃ n, n = m.length := ⟨_, rfl⟩
  have Hn := Lib.hid hn
  have HT' := Lib.hid (show Tab w (.slice va n vc) m from by rw [hn]; exact HT.out)
  have hn4 : n ≤ 4 := by omega
  rw [← hn] at h4i hlen HI ⊢
  clear HT hn h4
  go_enter Try.func121, Try.ntmps121
  go_wp2_with fail
  (with_reducible refine HI.out.mono ?_)
  rintro e w0 ⟨rfl, rfl⟩
  go_wp2
  go_loopg [17] n (fun g i wr => ∃ (k : Nat), i = .int .i64 k ∧ k + g = n ∧ Hid (R = (m.drop k).all (fun r => r.all nineOk)) ∧ wr = w)
  case atStart => exact ⟨0, rfl, by omega, HR, rfl⟩
  case round =>
    clear HR
    obtain ⟨k, rfl, hk, HR, rfl⟩ := hrel
    by_cases hkn : k < n
    · have hki : (k : Int) < (n : Int) := by omega
      obtain ⟨g, rfl⟩ : ∃ x, gk = x + 1 := ⟨gk - 1, by omega⟩
      obtain ⟨row, hrow, -⟩ := at_lt (xs := m) (k := k) (by have := Hn.out; omega)
      obtain ⟨b, o, c, ra, rc, hv, -, g1, hri⟩ := HT'.out.rowOf hrow
      simp only [Value.slice.injEq] at hv
      obtain ⟨rfl, -, rfl⟩ := hv
      have HR1 := Lib.hid (show R = ((row.drop 0).all nineOk && (m.drop (k + 1)).all (fun r => r.all nineOk)) from by rw [HR.out, all_drop hrow]; rfl)
      have hrl := hri.len
      obtain ⟨rn, hrn⟩ : ∃ n, n = row.length := ⟨_, rfl⟩
      have Hrn := Lib.hid hrn
      rw [← hrn] at g1 hri hrl
      have Hri := Lib.hid hri
      clear hrow hri HR hrn
      go_wp2
      go_loopg [23] rn (fun g2 i wr2 => ∃ (j : Nat), i = .int .i64 j ∧ j + g2 = rn ∧ Hid (R = ((row.drop j).all nineOk && (m.drop (k + 1)).all (fun r => r.all nineOk))) ∧ wr2 = wr)
      case atStart => exact ⟨0, rfl, by omega, HR1, rfl⟩
      case round =>
        clear HR1 g1
        obtain ⟨j, rfl, hj, HR, rfl⟩ := hrel
        by_cases hjn : j < rn
        · have hji : (j : Int) < (rn : Int) := by omega
          obtain ⟨g2, rfl⟩ : ∃ x, gk = x + 1 := ⟨gk - 1, by omega⟩
          obtain ⟨x, hx, -⟩ := at_lt (xs := row) (k := j) (by have := Hrn.out; omega)
          obtain ⟨b2, o2, c2, hv, -, g2'⟩ := Hri.out.elOf hx
          simp only [Value.slice.injEq] at hv
          obtain ⟨rfl, -, rfl⟩ := hv
          have HR1 := Lib.hid (show R = ((nineOk x && (row.drop (j + 1)).all nineOk) && (m.drop (k + 1)).all (fun r => r.all nineOk)) from by rw [HR.out, all_drop hx])
          clear hx HR
          by_cases h9 : 9 < x
          · have HF := Lib.hid (show R = false from by rw [HR1.out, show nineOk x = false from decide_eq_false (by omega)]; rfl)
            clear HR1
            go_wp2
            go_ret
            exact ⟨by rw [HF.out]; rfl, rfl⟩
          · have HF := Lib.hid (show R = ((row.drop (j + 1)).all nineOk && (m.drop (k + 1)).all (fun r => r.all nineOk)) from by rw [HR1.out, show nineOk x = true from decide_eq_true (by omega)]; rfl)
            clear HR1
            go_wp2
            go_roundg g2
            case measure => omega
            case rel => exact ⟨j + 1, by go_num, by omega, HF, rfl⟩
        · have hji : ¬ ((j : Int) < (rn : Int)) := by omega
          have HF := Lib.hid (show R = (m.drop (k + 1)).all (fun r => r.all nineOk) from by rw [HR.out, drop_len (by have := Hrn.out; omega)]; rfl)
          clear HR
          go_wp2
          go_roundg g
          case measure => omega
          case rel => exact ⟨k + 1, by go_num, by omega, HF, rfl⟩
    · have hki : ¬ ((k : Int) < (n : Int)) := by omega
      have HF := Lib.hid (show R = true from by rw [HR.out, drop_len (by have := Hn.out; omega)]; rfl)
      clear HR
      go_wp2
      go_ret
      exact ⟨by rw [HF.out]; rfl, rfl⟩
set_option maxHeartbeats 1000000 in
set_option maxRecDepth 100000 in
theorem spec_IsSmall_c {w : World} {v : Value} {m : List (List Int)} (h : Tab w v m) :
    Calls Try.prog 44 #[v] w fun e w' => e = .returned (.bool (smallM m)) ∧ w' = w := by
  have HI := Lib.hid (spec_IsMatrix_c h)
  have HT := Lib.hid h
  obtain ⟨va, vc, rfl, -⟩ := h.shape
  have hlen := h.len
  have HM := Lib.hid (show smallM m = (isMat m && (decide (m.length ≤ 4) && nines m)) from rfl)
  generalize smallM m = R at HM ⊢
  obtain ⟨N, hN⟩ : ∃ N, N = nines m := ⟨_, rfl⟩
  rw [← hN] at HM
  have HR := Lib.hid (show N = (m.drop 0).all (fun r => r.all nineOk) from hN)
  clear h hN
  obtain ⟨n, hn⟩ : ∃ n, n = m.length := ⟨_, rfl⟩
  have Hn := Lib.hid hn
  have HT' := Lib.hid (show Tab w (.slice va n vc) m from by rw [hn]; exact HT.out)
  generalize isMat m = im at HI HM
  rw [← hn] at hlen HI HM ⊢
  clear HT hn
  go_enter Try.func44, Try.ntmps44
  go_wp2
  go_loopg [3] n (fun g i wr => ∃ (k : Nat), i = .int .i64 k ∧ k + g = n ∧ Hid (N = (m.drop k).all (fun r => r.all nineOk)) ∧ wr = w)
  case atStart => exact ⟨0, rfl, by omega, HR, rfl⟩
  case round =>
    clear HR
    obtain ⟨k, rfl, hk, HR, rfl⟩ := hrel
    by_cases hkn : k < n
    · have hki : (k : Int) < (n : Int) := by omega
      obtain ⟨g, rfl⟩ : ∃ x, gk = x + 1 := ⟨gk - 1, by omega⟩
      obtain ⟨row, hrow, -⟩ := at_lt (xs := m) (k := k) (by have := Hn.out; omega)
      obtain ⟨b, o, c, ra, rc, hv, -, g1, hri⟩ := HT'.out.rowOf hrow
      simp only [Value.slice.injEq] at hv
      obtain ⟨rfl, -, rfl⟩ := hv
      have HR1 := Lib.hid (show N = ((row.drop 0).all nineOk && (m.drop (k + 1)).all (fun r => r.all nineOk)) from by rw [HR.out, all_drop hrow]; rfl)
      have hrl := hri.len
      obtain ⟨rn, hrn⟩ : ∃ n, n = row.length := ⟨_, rfl⟩
      have Hrn := Lib.hid hrn
      rw [← hrn] at g1 hri hrl
      have Hri := Lib.hid hri
      clear hrow hri HR hrn
      go_wp2
      go_loopg [4] rn (fun g2 i wr2 => ∃ (j : Nat), i = .int .i64 j ∧ j + g2 = rn ∧ Hid (N = ((row.drop j).all nineOk && (m.drop (k + 1)).all (fun r => r.all nineOk))) ∧ wr2 = wr)
      case atStart => exact ⟨0, rfl, by omega, HR1, rfl⟩
      case round =>
        clear HR1
        obtain ⟨j, rfl, hj, HR, rfl⟩ := hrel
        by_cases hjn : j < rn
        · have hji : (j : Int) < (rn : Int) := by omega
          obtain ⟨g2, rfl⟩ : ∃ x, gk = x + 1 := ⟨gk - 1, by omega⟩
          obtain ⟨x, hx, -⟩ := at_lt (xs := row) (k := j) (by have := Hrn.out; omega)
          obtain ⟨b2, o2, c2, hv, -, g2'⟩ := Hri.out.elOf hx
          simp only [Value.slice.injEq] at hv
          obtain ⟨rfl, -, rfl⟩ := hv
          have HR1 := Lib.hid (show N = ((nineOk x && (row.drop (j + 1)).all nineOk) && (m.drop (k + 1)).all (fun r => r.all nineOk)) from by rw [HR.out, all_drop hx])
          clear hx HR
          by_cases h9 : 9 < x
          · have HF := Lib.hid (show R = false from by rw [HM.out, HR1.out, show nineOk x = false from decide_eq_false (by omega)]; simp)
            clear HR1 HM HI
            go_wp2
            go_ret
            exact ⟨by rw [HF.out]; rfl, rfl⟩
          · have HF := Lib.hid (show N = ((row.drop (j + 1)).all nineOk && (m.drop (k + 1)).all (fun r => r.all nineOk)) from by rw [HR1.out, show nineOk x = true from decide_eq_true (by omega)]; rfl)
            clear HR1
            go_wp2
            go_roundg g2
            case measure => omega
            case rel => exact ⟨j + 1, by go_num, by omega, HF, rfl⟩
        · have hji : ¬ ((j : Int) < (rn : Int)) := by omega
          have HF := Lib.hid (show N = (m.drop (k + 1)).all (fun r => r.all nineOk) from by rw [HR.out, drop_len (by have := Hrn.out; omega)]; rfl)
          clear HR
          go_wp2
          go_roundg g
          case measure => omega
          case rel => exact ⟨k + 1, by go_num, by omega, HF, rfl⟩
    · have hki : ¬ ((k : Int) < (n : Int)) := by omega
      have HF := Lib.hid (show R = (im && decide (n ≤ 4)) from by rw [HM.out, HR.out, drop_len (by have := Hn.out; omega)]; simp)
      clear HR HM
      go_wp2_with fail
      (with_reducible refine HI.out.mono ?_)
      rintro e w0 ⟨rfl, rfl⟩
      cases im with
      | false =>
        go_wp2
        go_ret
        exact ⟨by rw [HF.out]; rfl, rfl⟩
      | true =>
        go_wp2
        go_ret
        exact ⟨by rw [HF.out, show (true && decide (n ≤ 4)) = decide ((n : Int) ≤ 4) from by rw [Bool.true_and]; exact decide_eq_decide.2 (by omega)]; rfl, rfl⟩
end Go.Proofs.Ytlkgkfgpnnahdaa
end
