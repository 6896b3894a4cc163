/-
  JoinOut, the reference's: columns compared, a row added, a minor taken.
-/
import Derived.Test.YtdohepngandajaaRows
import Derived.Test.YtdohepngandajaaBase
import Derived.Test.YtdohepngandajaaTabs
import Derived.Test.YtdohepngandajaaMat
import Derived.Test.YtdohepngandajaaAlike
import Derived.Test.YtdohepngandajaaPower
import Derived.Test.YtdohepngandajaaJoin
import Derived.StillTailTactics
import Derived.WalkSpells
namespace Go.Proofs.Ytdohepngandajaa
open Go.RowKit Go.Deep Go.Sd

/-- A slice over a part of a row of numbers. -/
theorem Ints.part {w : World} {b o l : Nat} {g : Nat → Int} (h : ∀ j, j < l → w.cell? ⟨b, o + j, none⟩ = some (.int .i64 (g j))) (hb : b < w.heap.size) {s len c : Nat} (hs : s + len ≤ l) (hl : len ≤ c) (hc : c ≤ 9223372036854775807) :
    Ints w (.slice (some ⟨b, o + s, none⟩) len c) (rowOf' len (fun t => g (s + t))) := by
  refine ⟨(rowOf' len (fun t => g (s + t))).map (Value.int .i64), ⟨by rw [List.length_map, rowOf_len]; omega, _, c, by rw [List.length_map, rowOf_len], by rw [List.length_map, rowOf_len]; exact hl, hc, by simp, Or.inr ⟨b, o + s, rfl, hb, fun i u hu => ?_⟩⟩, by simp, fun i u x hu hx => ?_⟩
  · rw [List.getElem?_map, Option.map_eq_some_iff] at hu
    obtain ⟨x, hx, rfl⟩ := hu
    have hi : i < len := by have := (List.getElem?_eq_some_iff.1 hx).1; rwa [rowOf_len] at this
    rw [rowOf_at hi] at hx
    simp at hx
    rw [Nat.add_assoc, h (s + i) (by omega), hx]
  · rw [List.getElem?_map, hx] at hu
    simp at hu
    exact hu.symm

theorem Ints.capn {w : World} {a : Option Addr} {n c : Nat} {xs : List Int} (h : Ints w (.slice a n c) xs) : n = xs.length ∧ n ≤ c ∧ c ≤ 9223372036854775807 := by
  obtain ⟨a', c', hv, h1, h2, _⟩ := h.shape
  simp at hv
  obtain ⟨_, rfl, rfl⟩ := hv
  exact ⟨rfl, h1, h2⟩

def minorT (m : List (List Int)) (i j n : Nat) : List (List Int) := tabOf (n - 1) (n - 1) (fun k l => ent m (skip i k) (skip j l))

theorem rowOf_split {n J : Nat} (hJ : J < n) (g : Nat → Int) : [] ++ rowOf' J (fun t => g (0 + t)) ++ rowOf' (n - (J + 1)) (fun t => g (J + 1 + t)) = rowOf' (n - 1) (fun l => g (skip J l)) := by
  apply List.ext_getElem?
  intro k
  rw [List.nil_append]
  by_cases h1 : k < J
  · rw [List.getElem?_append_left (by rw [rowOf_len]; exact h1), rowOf_at h1, rowOf_at (by omega)]
    simp [skip, h1]
  · rw [List.getElem?_append_right (by rw [rowOf_len]; omega), rowOf_len]
    by_cases h2 : k < n - 1
    · rw [rowOf_at (by omega), rowOf_at h2]
      simp only [skip, if_neg h1]
      congr 2; omega
    · rw [List.getElem?_eq_none (by rw [rowOf_len]; omega), List.getElem?_eq_none (by rw [rowOf_len]; omega)]

set_option maxHeartbeats 400000 in
theorem l18Columns_c {w : World} {va : Value} {m : List (List Int)} {I J n : Nat} (h1 : Tab w va m) (hm : Sq n m) (hI : I < n) (hJ : J < n) (hn : n ≤ 9) :
    Calls Try.prog 197 #[va, .int .i64 I, .int .i64 J] w (Reads w (.bool (colsEq m I J n))) := by
  have hn0 : 0 < n := by omega
  obtain ⟨ab, ao, ac, rfl, hab, hae⟩ := h1.entAt hm.1 hm.2 hn0
  clear h1 hm
  go_enter Try.func197, Try.ntmps197
  go_wp2
  go_loopg [7] n (fun g ii wr => ∃ (k : Nat), ii = .int .i64 k ∧ k + g = n ∧ Hid (colsEq m I J n = allF (fun k => decide (ent m k I = ent m k J)) g k) ∧ Drawn w wr)
  case atStart => exact ⟨0, rfl, by omega, Lib.hid rfl, Drawn.refl _⟩
  case round =>
    obtain ⟨k, rfl, hk, H, hdr⟩ := hrel
    obtain ⟨g, hg⟩ : ∃ g, g = gk := ⟨_, rfl⟩
    rw [← hg] at H hk
    by_cases hlt : k < n
    · obtain ⟨g', rfl⟩ : ∃ t, g = t + 1 := ⟨g - 1, by omega⟩
      have H1 := Lib.hid (show colsEq m I J n = if decide (ent m k I = ent m k J) = true then allF (fun k => decide (ent m k I = ent m k J)) g' (k + 1) else false from H.out)
      obtain ⟨rb, ro, rc, hA1, hrb, _, hA2⟩ := hae.at hlt hn0
      have hA3 := hA2 I (by omega)
      have hA4 := hA2 J (by omega)
      have hrule := hdr.cell
      have hi1 : (I : Int) < (n : Int) := by omega
      have hi2 : (J : Int) < (n : Int) := by omega
      have hi3 : (k : Int) < (n : Int) := by omega
      clear H hA2 hae
      by_cases he : ent m k I = ent m k J
      · have H2 := Lib.hid (show colsEq m I J n = allF (fun k => decide (ent m k I = ent m k J)) g' (k + 1) from by rw [H1.out]; simp [he])
        have t1 : (ent m k I != ent m k J) = false := by simp [he]
        clear he H1
        go_wp2
        go_quiet (fail)
        go_wp2
        go_roundg g'
        case measure => omega
        case rel => exact ⟨k + 1, by go_num, by omega, H2, hdr.drewN _⟩
      · have H2 := Lib.hid (show colsEq m I J n = false from by rw [H1.out]; simp [he])
        have t1 : (ent m k I != ent m k J) = true := by simp [he]
        clear he H1
        go_wp2
        go_quiet (fail)
        go_wp2
        go_ret
        exact ⟨by rw [H2.out]; rfl, hdr.drewN _⟩
    · have e : g = 0 := by omega
      subst e
      have H1 := Lib.hid (show colsEq m I J n = true from H.out)
      clear H
      go_wp2
      go_ret
      exact ⟨by rw [H1.out]; rfl, hdr⟩

set_option maxHeartbeats 2000000 in
theorem l7Minor_c {w : World} {va : Value} {m : List (List Int)} {I J n : Nat} (h1 : Tab w va m) (hm : Sq n m) (hI : I < n) (hJ : J < n) (hn : n ≤ 9) :
    Calls Try.prog 198 #[va, .int .i64 I, .int .i64 J] w (Makes (OTab 3 50) w (minorT m I J n)) := by
  have hn0 : 0 < n := by omega
  obtain ⟨ab, ao, ac, rfl, hab, hae⟩ := h1.entAt hm.1 hm.2 hn0
  clear h1 hm
  go_enter Try.func198, Try.ntmps198
  go_wp2
  go_loopg [7, 8] n (fun g v ii wr => ∃ (k : Nat), ii = .int .i64 k ∧ k + g = n ∧ New (OTab 3 50) w.heap.size wr v ((minorT m I J n).take (cnt I k)) ∧ Below w.heap.size w wr)
  case atStart => exact ⟨0, rfl, by omega, by rw [cnt_zero]; exact New.empty w (Nat.le_refl _), (Below.refl _ _).alloc (Nat.le_refl _) _⟩
  case round =>
    obtain ⟨k, rfl, hk, hnew, hbel⟩ := hrel
    have hle := hbel.size
    have hae1 := hae.frame hab hbel
    have hab1 : ab < wr.heap.size := by omega
    have Hn := Lib.hid hnew
    have Hb := Lib.hid hbel
    have Hlk := Lib.hid (show ((minorT m I J n).take (cnt I k)).length ≤ n from by have := cnt_le I k; rw [List.length_take]; omega)
    clear hnew hbel hae
    by_cases hlt : k < n
    · by_cases hkI : k = I
      · have t1 : ((k : Int) == (I : Int)) = true := by simp [hkI]
        have Hs := Lib.hid (cnt_same I)
        have HkI := Lib.hid hkI
        clear hkI hae1
        go_wp2
        go_roundg (n - (k + 1))
        case measure => omega
        case rel => exact ⟨k + 1, by go_num, by omega, by have e := HkI.out; have h := Hn.out; rw [e] at h ⊢; rw [Hs.out]; exact h, Hb.out⟩
      · have t1 : ((k : Int) == (I : Int)) = false := by simp; omega
        obtain ⟨rb, ro, rc, hA1, hrb, hIn, hA2⟩ := hae1.at hlt hn0
        have hcap := Ints.capn hIn
        have hcp1 : n ≤ rc := hcap.2.1
        have hcp2 : rc ≤ 9223372036854775807 := hcap.2.2
        have Hp1 := Lib.hid (Ints.part hA2 hrb (s := 0) (len := J) (c := rc) (by omega) (by omega) hcp2)
        have Hp2 := Lib.hid (fun (hr : J + 1 < rc) => Ints.part hA2 hrb (s := J + 1) (len := n - (J + 1)) (c := rc - (J + 1)) (by omega) (by omega) (by omega))
        have Hat := Lib.hid (show (minorT m I J n)[cnt I k]? = some (rowOf' (n - 1) (fun l => ent m k (skip J l))) from by unfold minorT; rw [tabOf_at (cnt_lt hkI hI hlt), skip_cnt hkI])
        have Hcn := Lib.hid (cnt_next hkI)
        have hrb2 := hrb
        have Hsp := Lib.hid (rowOf_split hJ (ent m k))
        have hA1' : ∀ O, (wr.alloc O).cell? ⟨ab, ao + k, none⟩ = some (.slice (some ⟨rb, ro, none⟩) n rc) := fun O => by rw [← hA1]; exact World.cell?_alloc_lt _ _ _ hab1
        clear hkI hIn hcap hA2 hae1
        by_cases hrc : J + 1 < rc
        · have Hp2' := Lib.hid (Hp2.out hrc)
          clear Hp2
          have hne : ¬ rc = J + 1 := by omega
          go_wp2_with (first
            | (at_builtin; refine wpl_append_vals (f := Value.int .i64) (fun _ => rfl) rfl (.tmp 20) (.tmp 26) 50 rfl 3 (.int .i64 0) 8 Try.underlying50 infoI rfl (New.empty (R := OValR (Value.int .i64)) (lo := wr.heap.size) wr (Nat.le_refl _)) (by simp) (Ints.frame _ _ _ _ Hp1.out ((Below.refl _ _).alloc (Nat.le_refl _) _)) rfl rfl (by rw [rowOf_len]; simp; omega) (by rw [rowOf_len]; simp; omega) ?_; intro v1 w1 hn1 _ _ hb1; obtain ⟨xa, xn, xc, rfl⟩ := hn1.slice; have Hn1 := Lib.hid hn1; have Hb1 := Lib.hid (((Below.refl wr.heap.size wr).alloc (Nat.le_refl _) _).trans hb1); have hcell1 := Hb1.out.rule; clear hn1 hb1)
            | (at_builtin; refine wpl_append_vals (f := Value.int .i64) (fun _ => rfl) rfl (.tmp 29) (.tmp 36) 50 rfl 3 (.int .i64 0) 8 Try.underlying50 infoI rfl (w := w1) Hn1.out Hb1.out.size (Ints.frame _ _ _ _ Hp2'.out Hb1.out) rfl rfl (by simp only [List.length_append, rowOf_len, List.length_nil]; omega) (by simp only [List.length_append, rowOf_len, List.length_nil]; omega) ?_; intro v2 w2 hn2 _ _ hb2; obtain ⟨ya, yn, yc, rfl⟩ := hn2.slice; have Hn2 := Lib.hid (show New (OInts 3) wr.heap.size w2 _ (rowOf' (n - 1) (fun l => ent m k (skip J l))) from by rw [← Hsp.out]; exact hn2); have Hb2 := Lib.hid (Hb1.out.trans hb2); clear hn2 hb2)
            | (at_builtin; refine wpl_push (w0 := wr) (lo := w.heap.size) (OInts.kept _) rfl (.tmp 28) (.tmp 38) 41 rfl 50 (.slice none 0 0) 24 Try.underlying41 infoR rfl Hn.out hle (Hb2.out.alloc Hb2.out.size _) (New.keep (OInts.kept _) Hn2.out ((Below.refl w2.heap.size _).alloc (Nat.le_refl _) _) (Nat.le_refl _)) (bb := w2.heap.size) (c := 1) (by simp) rfl rfl (by have := Hlk.out; omega) (by have := Hlk.out; omega) ?_; intro v3 w3 hn3 _ _ hb3; have Hn3 := Lib.hid hn3; have Hb3 := Lib.hid hb3; clear hn3 hb3))
          go_roundg (n - (k + 1))
          case measure => omega
          case rel => exact ⟨k + 1, by go_num, by omega, by rw [Hcn.out, ← take_snoc' Hat.out]; exact Hn3.out, Hb.out.trans Hb3.out⟩
        · have hne : rc = J + 1 := by omega
          have hnJ : n = J + 1 := by omega
          have Hp2' := Lib.hid (show Ints wr (.slice (some ⟨rb, ro, none⟩) 0 0) (rowOf' (n - (J + 1)) (fun t => ent m k (J + 1 + t))) from by
            rw [show n - (J + 1) = 0 from by omega]
            exact ⟨[], ⟨by simp, _, 0, rfl, by simp, by simp, by simp, Or.inl rfl⟩, rfl, by simp⟩)
          clear Hp2
          have HnJ := Lib.hid hnJ
          subst hne
          clear hnJ
          go_wp2_with (first
            | (at_builtin; refine wpl_append_vals (f := Value.int .i64) (fun _ => rfl) rfl (.tmp 20) (.tmp 26) 50 rfl 3 (.int .i64 0) 8 Try.underlying50 infoI rfl (New.empty (R := OValR (Value.int .i64)) (lo := wr.heap.size) wr (Nat.le_refl _)) (by simp) (Ints.frame _ _ _ _ Hp1.out ((Below.refl _ _).alloc (Nat.le_refl _) _)) rfl rfl (by rw [rowOf_len]; simp; omega) (by rw [rowOf_len]; simp; omega) ?_; intro v1 w1 hn1 _ _ hb1; obtain ⟨xa, xn, xc, rfl⟩ := hn1.slice; have Hn1 := Lib.hid hn1; have Hb1 := Lib.hid (((Below.refl wr.heap.size wr).alloc (Nat.le_refl _) _).trans hb1); have hcell1 := Hb1.out.rule; clear hn1 hb1)
            | (at_builtin; refine wpl_append_vals (f := Value.int .i64) (fun _ => rfl) rfl (.tmp 29) (.tmp 36) 50 rfl 3 (.int .i64 0) 8 Try.underlying50 infoI rfl (w := w1) Hn1.out Hb1.out.size (Ints.frame _ _ _ _ Hp2'.out Hb1.out) rfl rfl (by simp only [List.length_append, rowOf_len, List.length_nil]; omega) (by simp only [List.length_append, rowOf_len, List.length_nil]; omega) ?_; intro v2 w2 hn2 _ _ hb2; obtain ⟨ya, yn, yc, rfl⟩ := hn2.slice; have Hn2 := Lib.hid (show New (OInts 3) wr.heap.size w2 _ (rowOf' (n - 1) (fun l => ent m k (skip J l))) from by rw [← Hsp.out]; exact hn2); have Hb2 := Lib.hid (Hb1.out.trans hb2); clear hn2 hb2)
            | (at_builtin; refine wpl_push (w0 := wr) (lo := w.heap.size) (OInts.kept _) rfl (.tmp 28) (.tmp 38) 41 rfl 50 (.slice none 0 0) 24 Try.underlying41 infoR rfl Hn.out hle (Hb2.out.alloc Hb2.out.size _) (New.keep (OInts.kept _) Hn2.out ((Below.refl w2.heap.size _).alloc (Nat.le_refl _) _) (Nat.le_refl _)) (bb := w2.heap.size) (c := 1) (by simp) rfl rfl (by have := Hlk.out; omega) (by have := Hlk.out; omega) ?_; intro v3 w3 hn3 _ _ hb3; have Hn3 := Lib.hid hn3; have Hb3 := Lib.hid hb3; clear hn3 hb3))
          go_roundg (n - (k + 1))
          case measure => omega
          case rel => exact ⟨k + 1, by go_num, by omega, by rw [Hcn.out, ← take_snoc' Hat.out]; exact Hn3.out, Hb.out.trans Hb3.out⟩
    · have e : k = n := by omega
      subst e
      have hr := Hn.out
      rw [cnt_full hI, show (minorT m I J k).take (k - 1) = minorT m I J k from tabOf_full] at hr
      have Hr := Lib.hid hr
      clear hr
      go_wp2
      go_ret
      exact ⟨_, rfl, Hr.out, Hb.out⟩

/-- The table with the first c numbers of row j added to row i. -/
def sumF (m : List (List Int)) (I J n c : Nat) : List (List Int) := tabOf n n (fun k l => if k = I ∧ l < c then ent m I l + ent m J l else ent m k l)
theorem sumF_start {m : List (List Int)} {I J n : Nat} (hm : Sq n m) : sumF m I J n 0 = m := by
  conv => rhs; rw [tab_eq hm.1 hm.2]
  exact tabOf_congr fun k _ l _ => by simp
theorem sumF_row {m : List (List Int)} {I J n c : Nat} (hI : I < n) : (sumF m I J n c)[I]? = some (rowOf' n (fun l => if I = I ∧ l < c then ent m I l + ent m J l else ent m I l)) := tabOf_at hI
theorem sumF_at {m : List (List Int)} {I J n c : Nat} (hc : c < n) : (rowOf' n (fun l => if I = I ∧ l < c then ent m I l + ent m J l else ent m I l))[c]? = some (ent m I c) := by rw [rowOf_at hc]; simp
theorem sumF_set {m : List (List Int)} {I J n c : Nat} : (sumF m I J n c).set I ((rowOf' n (fun l => if I = I ∧ l < c then ent m I l + ent m J l else ent m I l)).set c (ent m I c + ent m J c)) = sumF m I J n (c + 1) := by
  unfold sumF
  rw [tabOf_set2 n n (fun k l => if k = I ∧ l < c then ent m I l + ent m J l else ent m k l) I c]
  refine tabOf_congr fun k _ l _ => ?_
  by_cases h : k = I ∧ l = c
  · obtain ⟨rfl, rfl⟩ := h; simp
  · rw [if_neg h]
    by_cases h2 : k = I ∧ l < c
    · rw [if_pos h2, if_pos (by omega)]
    · rw [if_neg h2, if_neg (by omega)]
theorem sumF_sq (m : List (List Int)) (I J n c : Nat) : Sq n (sumF m I J n c) := ⟨tabOf_len _ _ _, fun _ hr => mem_tabOf hr⟩
theorem minor_sum {m : List (List Int)} {I J n : Nat} (_hJ : J < n) : minorT (sumF m I J n n) J J n = joinT m I J n := by
  unfold minorT joinT
  refine tabOf_congr fun k hk l hl => ?_
  have h1 := skip_lt (j := J) hk
  have h2 := skip_lt (j := J) hl
  unfold sumF
  rw [ent_tabOf h1 h2]
  unfold joinE
  by_cases h : skip J k = I
  · rw [if_pos ⟨h, h2⟩, if_pos h, h]
  · rw [if_neg (fun e => h e.1), if_neg h]

set_option maxHeartbeats 2000000 in
set_option maxRecDepth 100000 in
theorem spec_JoinOut_c {w : World} {va : Value} {m : List (List Int)} {i j : Int} (h1 : Tab w va m) :
    Calls Try.prog 153 #[va, .int .i64 i, .int .i64 j] w (Makes2 (OTab 3 50) w (joinV m i j) (joinOk m i j)) := by
  have hsa := h1.shape
  obtain ⟨aa, ac, rfl, _, _, _⟩ := hsa
  have Hc := Lib.hid (spec_IsMatrix_c h1)
  cases hm : isMat m with
  | false =>
    have HK := Lib.hid (show joinOk m i j = false from by unfold joinOk; rw [hm]; rfl)
    have HV := Lib.hid (show joinV m i j = [] from by unfold joinV; rw [HK.out]; rfl)
    rw [hm] at Hc
    rw [HK.out]
    clear h1 hm
    go_enter Try.func153, Try.ntmps153
    go_wp2_with fail
    refine Hc.out.mono ?_
    rintro e w' ⟨rfl, rfl⟩
    go_wp2
    go_ret2
    exact ⟨_, rfl, by rw [HV.out]; exact New.empty w (Nat.le_refl _), (Below.refl _ _).alloc (Nat.le_refl _) _⟩
  | true =>
    rw [hm] at Hc
    have sm := isMat_sq hm
    by_cases hij : 0 ≤ i ∧ i < j ∧ j < m.length
    · obtain ⟨I, rfl⟩ : ∃ I : Nat, i = (I : Int) := ⟨i.toNat, by omega⟩
      obtain ⟨J, rfl⟩ : ∃ J : Nat, j = (J : Int) := ⟨j.toNat, by omega⟩
      have HO := Lib.hid (show joinOk m I J = (colsEq m I J m.length && isMat (joinT m I J m.length)) from by unfold joinOk; rw [hm]; simp [hij])
      have HV := Lib.hid (show joinV m I J = if joinOk m I J = true then joinT m I J m.length else [] from rfl)
      generalize joinOk m I J = ok at HO HV ⊢
      generalize joinV m I J = rv at HV ⊢
      have Hbd := Lib.hid (fun k l (hk : k < m.length) (hl : l < m.length) => joinE_bd (j := J) hm hk (by omega) hl)
      clear hm
      generalize hn : m.length = n at *
      have hIJ : I < J := by omega
      have hJn : J < n := by omega
      have hn0 : 0 < n := by omega
      have hn9 : n ≤ 9 := sm.2.2
      have hIn : I < n := by omega
      have dI : decide ((I : Int) < 0) = false := by simp
      have dJ : decide (J ≤ I) = false := by simp; omega
      have dn : decide (n ≤ J) = false := by simp; omega
      obtain ⟨ab, ao, ac', hv1, hab, hae⟩ := h1.entAt hn sm.1.2 hn0
      obtain ⟨rfl, rfl⟩ : aa = some ⟨ab, ao, none⟩ ∧ ac = ac' := by simp at hv1; exact hv1
      have Hcol := Lib.hid (l18Columns_c (I := I) (J := J) h1 sm.1 hIn hJn hn9)
      cases hcs : colsEq m I J n with
      | false =>
        have HK := Lib.hid (show ok = false from by rw [HO.out, hcs]; rfl)
        have HV2 := Lib.hid (show rv = [] from by rw [HV.out, HK.out]; rfl)
        rw [hcs] at Hcol
        clear h1 sm hij hv1 hn hcs hae
        go_enter Try.func153, Try.ntmps153
        go_wp2_with fail
        refine Hc.out.mono ?_
        rintro e w' ⟨rfl, rfl⟩
        go_wp2_with fail
        refine Hcol.out.mono ?_
        rintro e w1 ⟨rfl, hdr⟩
        have hb1 := hdr.below w.heap.size
        have Hb1 := Lib.hid hb1
        have hz1 := hb1.size
        clear hb1 hdr
        go_wp2
        go_ret2
        exact ⟨_, by rw [HK.out]; rfl, by rw [HV2.out]; exact New.empty w1 hz1, Hb1.out.alloc hz1 _⟩
      | true =>
        rw [hcs] at Hcol
        have Hcp := Lib.hid (fun w1 (hb : Below w.heap.size w w1) => l4Copy_c (Tab.frame _ _ _ _ h1 hb) (by omega) (fun r hr => by rw [sm.1.2 r hr]; omega))
        have Hsq := Lib.hid sm.1
        have HC := Lib.hid hcs
        clear h1 sm hij hv1 hn hcs
        go_enter Try.func153, Try.ntmps153
        go_wp2_with fail
        refine Hc.out.mono ?_
        rintro e w' ⟨rfl, rfl⟩
        go_wp2_with fail
        refine Hcol.out.mono ?_
        rintro e w1 ⟨rfl, hdr⟩
        have hb1 := hdr.below w.heap.size
        clear hdr
        go_wp2_with fail
        refine (Hcp.out _ hb1).mono ?_
        rintro e w2 ⟨v2, rfl, hn2, hb2⟩
        have hae2 := (hae.frame hab hb1)
        have hz1 := hb1.size
        have hab1 : ab < w1.heap.size := by omega
        have Hb1 := Lib.hid hb1
        rw [← sumF_start (I := I) (J := J) Hsq.out] at hn2
        obtain ⟨gb, gc, _, _, rfl, _, hgb, hgb2, _⟩ := hn2.tab_at (sumF_row hIn) (sumF_at hn0)
        rw [(sumF_sq m I J n 0).1] at hn2 ⊢
        have Hn2 := Lib.hid hn2
        have Hb2 := Lib.hid hb2
        clear hn2 hb2 hb1 hae Hcp
        go_wp2
        go_loopg [9] n (fun g kk wr => ∃ (k : Nat), kk = .int .i64 k ∧ k + g = n ∧ New (OTab 3 50) w1.heap.size wr (.slice (some ⟨gb, 0, none⟩) n gc) (sumF m I J n k) ∧ Below w1.heap.size w1 wr)
        case atStart => exact ⟨0, rfl, by omega, Hn2.out, Hb2.out⟩
        case round =>
          obtain ⟨k, rfl, hk, hnew, hbel⟩ := hrel
          clear Hn2 Hb2
          by_cases hlt : k < n
          · obtain ⟨rb, ro, rc, hA1, hrb, _, hA2⟩ := hae2.at hJn hn0
            have hA3 := hA2 k hlt
            obtain ⟨b', c', sb, sc, hv, _, _, _, hcl1, _, hsb, _, hcl2, hfr, hst⟩ := hnew.tab_at (sumF_row hIn) (sumF_at hlt)
            obtain rfl : b' = gb := by simp at hv; exact hv.1.symm
            rw [rowOf_len] at hcl1
            have Hst := Lib.hid (by have := hst (ent m I k + ent m J k); rw [sumF_set] at this; exact this)
            obtain ⟨hd1, hd2, hd3, hd4⟩ := Hbd.out I k hIn hlt
            have Hb3 := Lib.hid (hbel.setCell (p := ⟨sb, k, none⟩) hsb (.int .i64 (ent m I k + ent m J k)))
            have hrule := hbel.rule
            have hi1 : (I : Int) < (n : Int) := by omega
            have hi2 : (J : Int) < (n : Int) := by omega
            have hi3 : (k : Int) < (n : Int) := by omega
            generalize ent m I k = X at *
            generalize ent m J k = Y at *
            clear hv hst hnew hA2 hbel hae2
            go_wp2
            go_still_tail 21, (by kernel_rfl)
            go_wp2
            go_roundg (n - (k + 1))
            case measure => omega
            case rel => exact ⟨k + 1, by go_num, by omega, New.heap (OTab.kept _ _) Hst.out rfl, Hb3.out.drew⟩
          · have e : n = k := by omega
            subst e
            clear hk
            have Hm := Lib.hid (l7Minor_c (I := J) (J := J) hnew.tab (sumF_sq m I J n n) hJn hJn hn9)
            rw [minor_sum hJn] at Hm
            have hz2 := hbel.size
            have Hb3 := Lib.hid hbel
            clear hnew hbel hae2
            go_wp2_with fail
            refine Hm.out.mono ?_
            rintro e w3 ⟨v3, rfl, hn3, hb3⟩
            have hz3 := hb3.size
            have Hb4 := Lib.hid (Hb1.out.trans ((Hb3.out.trans (hb3.mono hz2)).mono hz1))
            have Hi := Lib.hid (spec_IsMatrix_c hn3.tab)
            cases hp : isMat (joinT m I J n) with
            | false =>
              have HK := Lib.hid (show ok = false from by rw [HO.out, hp]; simp)
              have HV2 := Lib.hid (show rv = [] from by rw [HV.out, HK.out]; rfl)
              rw [hp] at Hi
              clear hp hn3 hb3
              go_wp2_with fail
              refine Hi.out.mono ?_
              rintro e w' ⟨rfl, rfl⟩
              go_wp2
              go_ret2
              exact ⟨_, by rw [HK.out]; rfl, by rw [HV2.out]; exact New.empty w3 (by omega), Hb4.out.alloc (by omega) _⟩
            | true =>
              have HK := Lib.hid (show ok = true from by rw [HO.out, hp, HC.out]; rfl)
              have HV2 := Lib.hid (show rv = joinT m I J n from by rw [HV.out, HK.out]; rfl)
              have Hn3 := Lib.hid (hn3.mono (show w.heap.size ≤ wr.heap.size by omega))
              rw [hp] at Hi
              clear hp hn3 hb3
              go_wp2_with fail
              refine Hi.out.mono ?_
              rintro e w' ⟨rfl, rfl⟩
              go_wp2
              go_ret2
              exact ⟨_, by rw [HK.out]; rfl, by rw [HV2.out]; exact Hn3.out, Hb4.out⟩
    · have HK := Lib.hid (show joinOk m i j = false from by unfold joinOk; simp [hij])
      have HV := Lib.hid (show joinV m i j = [] from by unfold joinV; rw [HK.out]; rfl)
      rw [HK.out]
      clear h1 hm sm
      by_cases h0 : i < 0
      · clear hij
        go_enter Try.func153, Try.ntmps153
        go_wp2_with fail
        refine Hc.out.mono ?_
        rintro e w' ⟨rfl, rfl⟩
        go_wp2
        go_ret2
        exact ⟨_, rfl, by rw [HV.out]; exact New.empty w (Nat.le_refl _), (Below.refl _ _).alloc (Nat.le_refl _) _⟩
      by_cases h1 : j ≤ i
      · clear hij
        go_enter Try.func153, Try.ntmps153
        go_wp2_with fail
        refine Hc.out.mono ?_
        rintro e w' ⟨rfl, rfl⟩
        go_wp2
        go_ret2
        exact ⟨_, rfl, by rw [HV.out]; exact New.empty w (Nat.le_refl _), (Below.refl _ _).alloc (Nat.le_refl _) _⟩
      have h2 : (m.length : Int) ≤ j := by omega
      clear hij
      go_enter Try.func153, Try.ntmps153
      go_wp2_with fail
      refine Hc.out.mono ?_
      rintro e w' ⟨rfl, rfl⟩
      go_wp2
      go_ret2
      exact ⟨_, rfl, by rw [HV.out]; exact New.empty w (Nat.le_refl _), (Below.refl _ _).alloc (Nat.le_refl _) _⟩

theorem joinV_bd (m : List (List Int)) (i j : Int) : (joinV m i j).length ≤ 9 ∧ ∀ x, x ∈ joinV m i j → x.length ≤ 9 := by
  unfold joinV
  split
  · rename_i h
    unfold joinOk at h
    simp only [Bool.and_eq_true] at h
    have h1 := isMat_sq h.2
    exact ⟨h1.2.2, fun x hx => by rw [h1.1.2 x hx]; exact h1.2.2⟩
  · simp
end Go.Proofs.Ytdohepngandajaa
