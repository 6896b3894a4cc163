/-
  Texts of this claim joined: laws for its walks, contracts of the functions that the law reaches.
-/
import Derived.Test.YtdohepngandajaaRows
import Derived.Test.YtdohepngandajaaResolveLabelsM1
import Derived.Test.YtdohepngandajaaResolveLabelsM2
import Derived.Test.YtdohepngandajaaResolveLabelsM3
import Derived.Test.YtdohepngandajaaResolveLabelsM5
import Derived.Test.YtdohepngandajaaResolveLabelsM12
import Derived.Test.YtdohepngandajaaResolveLabelsM13
import Derived.Test.YtdohepngandajaaResolveLabelsM11
import Derived.Test.YtdohepngandajaaResolveLabelsM4
import Derived.IntWalk
import Derived.Deep.RegionHeld3
import Derived.Deep.DeepCutAuto
import Derived.Test.YtdohepngandajaaResolveLabelsM7
import Derived.Test.YtdohepngandajaaResolveLabelsM8
import Derived.Maps.OwnSet
section
/-
  The sets that are reached, and where each letter leads from each: the reference's l15Sets.
-/
namespace Go.Proofs.Ytdohepngandajaa
open Go.RowKit Go.Deep Go.Sd
set_option linter.unusedSimpArgs false
abbrev natL (xs : List Nat) : List Int := xs.map fun s : Nat => (s : Int)
theorem idx_at {sets : List Nat} (h : sets.Nodup) {i t : Nat} (hi : sets[i]? = some t) : sets.idxOf t = i := by
  obtain ⟨hl, e⟩ := List.getElem?_eq_some_iff.1 hi
  have hm : t ∈ sets := List.mem_of_getElem? hi
  have h1 : sets.idxOf t < sets.length := List.idxOf_lt_length_iff.2 hm
  have h2 : sets[sets.idxOf t] = t := List.getElem_idxOf h1
  rcases Nat.lt_trichotomy (sets.idxOf t) i with h3 | h3 | h3
  · exact absurd (h2.trans e.symm) (List.pairwise_iff_getElem.1 h _ _ h1 hl h3)
  · exact h3
  · exact absurd (e.trans h2.symm) (List.pairwise_iff_getElem.1 h _ _ hl h1 h3)
set_option maxHeartbeats 4000000 in
set_option maxRecDepth 100000 in
theorem l15Sets_c {w : World} {v : Value} {l : Lb} (h : LabR w v l) (ho : okArcs l.2.1 l.2.2) (hS1 : 1 ≤ l.2.1) (hS2 : l.2.1 ≤ 12) (hL1 : 1 ≤ l.1) (hL2 : l.1 ≤ 3) :
    Calls Try.prog 85 #[v] w fun e w' => ∃ r s, e = .returned (.tuple #[r, s]) ∧ Apart (OInts 3) (OTab 3 50) w.heap.size w' r (natL (bfsS l.2.2 l.1.toNat 4096 [allN l.2.1] 0 []).1) s (bfsS l.2.2 l.1.toNat 4096 [allN l.2.1] 0 []).2 ∧ Below w.heap.size w w' := by
  have Hfr := Lib.hid (fun w1 (hb : Below w.heap.size w w1) => LabR.frame _ _ _ _ h hb)
  obtain ⟨L, S, xs⟩ := l
  obtain ⟨_, rfl, -, a, c, rfl, -, -, -, -⟩ := h
  simp only at *
  generalize hn : xs.length = n at *
  clear hn
  obtain ⟨N, rfl⟩ := Int.eq_ofNat_of_zero_le (show 0 ≤ L by omega)
  obtain ⟨p, rfl⟩ := Int.eq_ofNat_of_zero_le (show 0 ≤ S by omega)
  rw [show (N : Int).toNat = N from rfl]
  obtain ⟨P, hP, hP1, hP2, hwp⟩ := shl_one p (by omega)
  obtain ⟨A, rfl⟩ : ∃ x, P = x + 1 := ⟨P - 1, by omega⟩
  have hA : allN (p : Int) = A := by unfold allN; rw [show (p : Int).toNat = p from rfl, hP]; rfl
  rw [hA]
  replace hwp : wrap64 (2 ^ p) = (A : Int) + 1 := by rw [hwp]; omega
  have hwA : wrap64 (A : Int) = (A : Int) := IntWalk.wrap64_in _ (by omega)
  have hA0 : 0 < A := by
    have : 2 ^ 1 ≤ 2 ^ p := Nat.pow_le_pow_right (by decide) (by omega)
    omega
  have HO := Lib.hid (show OkS [A] from ⟨by simp, fun s hs => by simp at hs; subst hs; omega⟩)
  have HSt := Lib.hid (fun w' (hb : Below w.heap.size w w') q (hq : q < 4096) x => spec_step_c (Hfr.out w' hb) ho hS2 hq x)
  have Hlt := Lib.hid (fun q x => stepN_lt ho hS2 q x)
  simp only at HSt Hlt
  obtain ⟨T, hT⟩ : ∃ T, T = bfsS xs N 4096 [A] 0 [] := ⟨_, rfl⟩
  rw [← hT]
  have HT := Lib.hid hT.symm
  clear hT
  have hp1 : p < 64 := by omega
  have hN3 : N ≤ 3 := by omega
  clear hP hA ho hS1 hS2 hL1 hL2 hP1 hP2 hA0 Hfr
  obtain ⟨w1, ex, hb1, c0, c1, c2, m1⟩ := boxA3_ex w 28 (.int .i64 (N : Int)) (.int .i64 (p : Int)) (.slice a n c)
  have A1 := Lib.hid hb1
  clear hb1
  go_enter Try.func85, Try.ntmps85
  go_wp2
  clear hwp hwA hp1 ex
  obtain ⟨w3, e3⟩ : ∃ x, x = ((w1.alloc (.cells #[.int .i64 (A : Int)] 3)).alloc (.cells #[] 50)) := ⟨_, rfl⟩
  rw [← e3]
  have HS0 := Lib.hid (show Sep w1.heap.size w3 [Res.ints 3 (.slice (some ⟨w1.heap.size, 0, none⟩) 1 1) (natL [A]), Res.of (OTab 3 50) (OTab.kept _ _).held (.slice (some ⟨w1.heap.size + 1, 0, none⟩) 0 0) []] from by
    have h1 := (Sep.nil w1.heap.size w1).new (OInts.kept 3).held ((Below.refl _ _).alloc (Nat.le_refl _) _) (Nat.le_refl _) (New.oneInt (e := 3) w1 (A : Int))
    have hz : (w1.alloc (.cells #[.int .i64 (A : Int)] 3)).heap.size = w1.heap.size + 1 := by simp
    have h2 := h1.new (OTab.kept 3 50).held ((Below.refl _ _).alloc (Nat.le_refl _) _) (by simp) (New.empty (e := 50) (R := OInts 3) (w1.alloc (.cells #[.int .i64 (A : Int)] 3)) (Nat.le_refl _))
    rw [hz, ← e3] at h2
    exact h2.swap)
  have HB0 := Lib.hid (show Below w1.heap.size w1 w3 from by rw [e3]; exact ((Below.refl _ _).alloc (Nat.le_refl _) _).alloc (by simp) _)
  have K0 := Lib.hid c0
  have K1 := Lib.hid c1
  have K2 := Lib.hid c2
  clear e3 c0 c1 c2
  go_loopg [4, 5, 6] 4096 (fun g vs vn i wr => ∃ (k : Nat) (sets : List Nat) (next : List (List Int)) (la na : Option Addr) (lc nc : Nat), vs = .slice la sets.length lc ∧ vn = .slice na next.length nc ∧ i = .int .i64 k ∧ k + g = 4096 ∧ next.length = k ∧ Hid (OkS sets) ∧ Hid (bfsS xs N g sets k next = T) ∧ Hid (Sep w1.heap.size wr [Res.ints 3 vs (natL sets), Res.of (OTab 3 50) (OTab.kept _ _).held vn next]) ∧ Hid (Below w1.heap.size w1 wr))
  case atStart => exact ⟨0, [A], [], _, _, _, _, rfl, rfl, rfl, by omega, rfl, HO, HT, HS0, HB0⟩
  case round =>
    clear HO HT HS0 HB0
    obtain ⟨k, sets, next, la, na, lc, nc, rfl, rfl, rfl, hk, hnk, HO, HT, HS, HB⟩ := hrel
    have Hl := Lib.hid HO.out.len
    by_cases hlt : k < sets.length
    · obtain ⟨s, hs, _⟩ := at_lt hlt
      obtain ⟨wq, rfl⟩ : ∃ x, x = wr := ⟨_, rfl⟩
      have hl := Hl.out
      have hz := HB.out.size
      obtain ⟨g, rfl⟩ : ∃ x, gk = x + 1 := ⟨gk - 1, by omega⟩
      have HT2 := Lib.hid (show bfsS xs N g (rowS xs s N 0 sets []).1 (k + 1) (next ++ [(rowS xs s N 0 sets []).2]) = T from by have h := HT.out; unfold bfsS at h; rw [hs] at h; exact h)
      have Hs := Lib.hid hs
      have HS2 := Lib.hid ((HS.out.new (OInts.kept 3).held ((Below.refl _ _).alloc (Nat.le_refl _) _) hz (New.empty (e := 3) (R := OIntR) wq (Nat.le_refl _))).swap)
      have HB2 := Lib.hid (HB.out.alloc hz (.cells #[] 3))
      have hki : (k : Int) < (sets.length : Int) := by omega
      obtain ⟨w2, e2⟩ : ∃ x, x = wq.alloc (.cells #[] 3) := ⟨_, rfl⟩
      rw [← e2] at HS2 HB2
      have e2s := e2.symm
      have Hnk := Lib.hid hnk
      clear HT HS HB hs e2 hnk
      go_wp2
      clear e2s
      go_loopg [4, 7, 8] N (fun g2 vs vr i wx => ∃ (x : Nat) (sets : List Nat) (row : List Int) (la ra : Option Addr) (lc rc : Nat), vs = .slice la sets.length lc ∧ vr = .slice ra row.length rc ∧ i = .int .i64 x ∧ x + g2 = N ∧ row.length = x ∧ k < sets.length ∧ Hid (OkS sets) ∧ Hid (sets[k]? = some s) ∧ Hid (bfsS xs N g (rowS xs s g2 x sets row).1 (k + 1) (next ++ [(rowS xs s g2 x sets row).2]) = T) ∧ Hid (Sep w1.heap.size wx [Res.ints 3 vs (natL sets), Res.ints 3 vr row, Res.of (OTab 3 50) (OTab.kept _ _).held (.slice na next.length nc) next]) ∧ Hid (Below w1.heap.size w1 wx))
      case atStart => exact ⟨0, sets, [], _, _, _, _, rfl, rfl, rfl, by omega, rfl, hlt, HO, Hs, HT2, HS2, HB2⟩
      case round =>
        clear HO Hs HT2 HS2 HB2 Hl hl hlt hki hz
        obtain ⟨x, sets, row, la, ra, lc, rc, rfl, rfl, rfl, hx, hrow, hlt, HO, Hs, HT2, HS, HB⟩ := hrel
        obtain ⟨wx, rfl⟩ : ∃ x, x = wr := ⟨_, rfl⟩
        have Hl := Lib.hid HO.out.len
        have xc0 := (HB.out.cell (p := ⟨w.heap.size, 0, none⟩) m1).trans K0.out
        have xc1 := (HB.out.cell (p := ⟨w.heap.size, 1, none⟩) m1).trans K1.out
        have xc2 := (HB.out.cell (p := ⟨w.heap.size, 2, none⟩) m1).trans K2.out
        have hz := HB.out.size
        by_cases hxl : x < N
        · obtain ⟨g2, hg2⟩ : ∃ y, gk = y + 1 := ⟨gk - 1, by omega⟩
          subst hg2
          obtain ⟨_, _, hv, _, hq⟩ := HS.out.intsAt
          obtain ⟨bl, e1, hbl, hcl⟩ := hq (by simp; omega)
          simp at hv
          obtain ⟨rfl, rfl⟩ := hv
          subst e1
          have f0 := hcl k (s : Int) (by simp [Hs.out])
          have Hcl := Lib.hid hcl
          have hs4 := (HO.out.2 s (List.mem_of_getElem? Hs.out)).2
          have HA := Lib.hid (A1.out.trans (HB.out.mono A1.out.size))
          have C1 := Lib.hid (fun w' (hb : Below w.heap.size w w') => HSt.out w' hb s hs4 (x : Int))
          have Htl := Lib.hid (Hlt.out s (x : Int))
          have HTx := Lib.hid (show bfsS xs N g (rowS xs s g2 (x + 1) (addS sets (stepN xs s (x : Int))) (row ++ [posS sets (stepN xs s (x : Int))])).1 (k + 1) (next ++ [(rowS xs s g2 (x + 1) (addS sets (stepN xs s (x : Int))) (row ++ [posS sets (stepN xs s (x : Int))])).2]) = T from HT2.out)
          generalize stepN xs s (x : Int) = t at C1 Htl HTx
          have hkl : (k : Int) < (sets.length : Int) := by omega
          have hxN : (x : Int) < (N : Int) := by omega
          have hS0 : wx.cell? ⟨w.heap.size, 0, none⟩ = some (.int .i64 (N : Int)) ∧ wx.cell? ⟨w.heap.size, 1, none⟩ = some (.int .i64 (p : Int)) ∧ wx.cell? ⟨w.heap.size, 2, none⟩ = some (.slice a n c) ∧ wx.cell? ⟨bl, k, none⟩ = some (.int .i64 (s : Int)) := ⟨xc0, xc1, xc2, f0⟩
          have hSd : wx.drew.cell? ⟨w.heap.size, 0, none⟩ = some (.int .i64 (N : Int)) ∧ wx.drew.cell? ⟨w.heap.size, 1, none⟩ = some (.int .i64 (p : Int)) ∧ wx.drew.cell? ⟨w.heap.size, 2, none⟩ = some (.slice a n c) ∧ wx.drew.cell? ⟨bl, k, none⟩ = some (.int .i64 (s : Int)) := hS0
          have m1x : w.heap.size < wx.heap.size := Nat.lt_of_lt_of_le m1 hz
          have HSS := Lib.hid (fun (w' : World) (hb3 : Below wx.heap.size wx w') => (show w'.cell? ⟨w.heap.size, 0, none⟩ = some (.int .i64 (N : Int)) ∧ w'.cell? ⟨w.heap.size, 1, none⟩ = some (.int .i64 (p : Int)) ∧ w'.cell? ⟨w.heap.size, 2, none⟩ = some (.slice a n c) ∧ w'.cell? ⟨bl, k, none⟩ = some (.int .i64 (s : Int)) from ⟨(hb3.cell (p := ⟨w.heap.size, 0, none⟩) m1x).trans hS0.1, (hb3.cell (p := ⟨w.heap.size, 1, none⟩) m1x).trans hS0.2.1, (hb3.cell (p := ⟨w.heap.size, 2, none⟩) m1x).trans hS0.2.2.1, (hb3.cell (p := ⟨bl, k, none⟩) hbl).trans hS0.2.2.2⟩))
          have B1 := (Below.refl wx.heap.size wx).drew
          have HA1 := HA.out.trans (B1.mono HA.out.size)
          clear hcl hq HT2 f0 xc1 xc2 hs4
          go_wp2
          go_region_held3 (fun w' => w'.cell? ⟨w.heap.size, 0, none⟩ = some (.int .i64 (N : Int)) ∧ w'.cell? ⟨w.heap.size, 1, none⟩ = some (.int .i64 (p : Int)) ∧ w'.cell? ⟨w.heap.size, 2, none⟩ = some (.slice a n c) ∧ w'.cell? ⟨bl, k, none⟩ = some (.int .i64 (s : Int)))
            (first | with_reducible exact hS1 | with_reducible exact hSd | with_reducible exact hS0 | go_keep)
            ((first
              | (go_at_call 148; (with_reducible refine (C1.out _ HA1).mono ?_); rintro e w4 ⟨rfl, hb2⟩; have hb3 := B1.trans hb2; have hS1 := HSS.out w4 hb3; clear hb2)
              | fail))
          clear hS0 hSd HSS B1 HA1 hS1 xc0
          have H34 := Lib.hid hb3
          have hz4 := hb3.size
          have HS4 := Lib.hid (HS.out.below hb3 (Nat.le_refl _))
          have HB4 := Lib.hid (HB.out.trans (hb3.mono hz))
          have Hk := Lib.hid (fun (i z : Nat) (hi : sets[i]? = some z) => (show w4.cell? ⟨bl, i, none⟩ = some (.int .i64 (z : Int)) from (H34.out.cell (p := ⟨bl, i, none⟩) hbl).trans (Hcl.out i (z : Int) (by simp [hi]))))
          have hbl4 : bl < w4.heap.size := by omega
          have hz14 : w1.heap.size ≤ w4.heap.size := by omega
          clear HS HB H34 Hcl hbl hb3 HA C1 hz4
          have hl := Hl.out
          by_cases ht0 : t = 0
          · subst ht0
            have HTy := Lib.hid (show bfsS xs N g (rowS xs s g2 (x + 1) sets (row ++ [-1])).1 (k + 1) (next ++ [(rowS xs s g2 (x + 1) sets (row ++ [-1])).2]) = T from by have h := HTx.out; rw [show addS sets 0 = sets from by unfold addS; rw [if_pos (Or.inl rfl)], show posS sets 0 = -1 from rfl] at h; exact h)
            obtain ⟨ra', rc', w9, hr9, hs9, hb9⟩ := HS4.out.swap.pushInt (P := Try.prog) 50 50 Try.underlying50 infoI (by omega) (-1) (by omega) 3
            have e9 : (row ++ [(-1)]).length = x + 1 := by simp [hrow]
            rw [e9] at hr9 hs9
            have HS9 := Lib.hid hs9.swap
            have HB9 := Lib.hid (HB4.out.trans hb9)
            have Hr9 := Lib.hid hr9
            have E9 := Lib.hid e9
            rw [hrow] at Hr9
            clear hr9 hs9 hb9 e9
            clear HTx Hk HS4 HB4
            go_wp2
            go_loopg [10, 11] 0 (fun g3 va i wy => va = .int .i64 (-1) ∧ i = .int .i64 0 ∧ w4 = wy)
            case atStart => exact ⟨rfl, rfl, rfl⟩
            case round =>
              obtain ⟨rfl, rfl, rfl⟩ := hrel
              go_wp2_with (first
                | (at_builtin; refine wpl_append_run rfl (.tmp 68) (.tmp 70) 50 rfl rfl rfl Hr9.out ?_)
                | fail)
              go_roundg (N - (x + 1))
              case measure => omega
              case rel => exact ⟨x + 1, sets, row ++ [-1], _, _, _, _, rfl, by rw [E9.out], by go_num, by omega, E9.out, hlt, HO, Hs, by rw [show N - (x + 1) = g2 by omega]; exact HTy, HS9, HB9⟩
          · have ht1 : 0 < t := by omega
            have ht2 : (0 : Int) < (t : Int) := by omega
            go_wp2
            go_loopg [10, 11] sets.length (fun g3 va i wy => ∃ (j : Nat) (q : Int), va = .int .i64 q ∧ i = .int .i64 j ∧ j + g3 = sets.length ∧ Hid (q = if t ∈ sets.take j then (sets.idxOf t : Int) else -1) ∧ w4 = wy)
            case atStart => exact ⟨0, -1, rfl, rfl, by omega, Lib.hid (by simp), rfl⟩
            case round =>
              obtain ⟨j, q, rfl, rfl, hj, HK, rfl⟩ := hrel
              by_cases hjl : j < sets.length
              · obtain ⟨z, hzz, _⟩ := at_lt hjl
                have g0 := Hk.out j z hzz
                have HTk := Lib.hid (show sets.take (j + 1) = sets.take j ++ [z] from (take_snoc' hzz).symm)
                have Hzz := Lib.hid hzz
                have hji : (j : Int) < (sets.length : Int) := by omega
                clear hzz
                by_cases q1 : z = t
                · subst q1
                  have t1 : ((z : Int) == (z : Int)) = true := by simp
                  go_wp2
                  go_roundg (sets.length - (j + 1))
                  case measure => omega
                  case rel => exact ⟨j + 1, (j : Int), rfl, by go_num, by omega, Lib.hid (by rw [HTk.out, if_pos (by simp), idx_at HO.out.1 Hzz.out]), rfl⟩
                · have t1 : ((z : Int) == (t : Int)) = false := by simp; omega
                  have HK2 := Lib.hid (show q = if t ∈ sets.take (j + 1) then (sets.idxOf t : Int) else -1 from by rw [HK.out, HTk.out]; have e : (t ∈ sets.take j ++ [z]) ↔ t ∈ sets.take j := (by simp; intro e; exact absurd e.symm q1); simp only [e])
                  clear HK
                  go_wp2
                  go_roundg (sets.length - (j + 1))
                  case measure => omega
                  case rel => exact ⟨j + 1, q, rfl, by go_num, by omega, HK2, rfl⟩
              · have hje : j = sets.length := by omega
                have HK2 := Lib.hid (show q = if t ∈ sets then (sets.idxOf t : Int) else -1 from by rw [HK.out, hje, List.take_of_length_le (Nat.le_refl _)])
                have hji : ¬ ((j : Int) < (sets.length : Int)) := by omega
                clear HK Hk hj hje hjl
                by_cases hm : t ∈ sets
                · have hq : q = (sets.idxOf t : Int) := by rw [HK2.out, if_pos hm]
                  have hq0 : ¬ (q < 0) := by omega
                  have HTy := Lib.hid (show bfsS xs N g (rowS xs s g2 (x + 1) sets (row ++ [q])).1 (k + 1) (next ++ [(rowS xs s g2 (x + 1) sets (row ++ [q])).2]) = T from by have h := HTx.out; rw [show addS sets t = sets from (by unfold addS; rw [if_pos (Or.inr hm)]), show posS sets t = q from (by unfold posS; rw [if_neg ht0, hq])] at h; exact h)
                  obtain ⟨ra', rc', w9, hr9, hs9, hb9⟩ := HS4.out.swap.pushInt (P := Try.prog) 50 50 Try.underlying50 infoI (by omega) q (by omega) 3
                  have e9 : (row ++ [q]).length = x + 1 := by simp [hrow]
                  rw [e9] at hr9 hs9
                  have HS9 := Lib.hid hs9.swap
                  have HB9 := Lib.hid (HB4.out.trans hb9)
                  have Hr9 := Lib.hid hr9
                  have E9 := Lib.hid e9
                  rw [hrow] at Hr9
                  clear hr9 hs9 hb9 e9
                  clear HTx HS4 HB4 HK2 hq hm
                  go_wp2_with (first
                    | (at_builtin; refine wpl_append_run rfl (.tmp 68) (.tmp 70) 50 rfl rfl rfl Hr9.out ?_)
                    | fail)
                  go_roundg (N - (x + 1))
                  case measure => omega
                  case rel => exact ⟨x + 1, sets, row ++ [q], _, _, _, _, rfl, by rw [E9.out], by go_num, by omega, E9.out, hlt, HO, Hs, by rw [show N - (x + 1) = g2 by omega]; exact HTy, HS9, HB9⟩
                · have hq : q = -1 := by rw [HK2.out, if_neg hm]
                  subst hq
                  have HTy := Lib.hid (show bfsS xs N g (rowS xs s g2 (x + 1) (sets ++ [t]) (row ++ [(sets.length : Int)])).1 (k + 1) (next ++ [(rowS xs s g2 (x + 1) (sets ++ [t]) (row ++ [(sets.length : Int)])).2]) = T from by have h := HTx.out; rw [show addS sets t = sets ++ [t] from (by unfold addS; rw [if_neg (by simp [ht0, hm])]), show posS sets t = (sets.length : Int) from (by unfold posS; rw [if_neg ht0, List.idxOf_eq_length hm])] at h; exact h)
                  have HO2 := Lib.hid (show OkS (sets ++ [t]) from by have h := HO.out.add Htl.out; rwa [show addS sets t = sets ++ [t] from (by unfold addS; rw [if_neg (by simp [ht0, hm])])] at h)
                  obtain ⟨la', lc', w8, hr8, hs8, hb8⟩ := HS4.out.pushInt (P := Try.prog) 50 50 Try.underlying50 infoI hz14 (t : Int) (by simp; omega) 3
                  have e8 : natL sets ++ [(t : Int)] = natL (sets ++ [t]) := by simp
                  have e8' : (natL (sets ++ [t])).length = sets.length + 1 := by simp
                  rw [e8, e8'] at hr8 hs8
                  have HS8 := Lib.hid hs8
                  have HB8 := Lib.hid (HB4.out.trans hb8)
                  have hz8 := hb8.size
                  have Hr8 := Lib.hid hr8
                  have Hs2 := Lib.hid (show (sets ++ [t])[k]? = some s from by rw [List.getElem?_append_left hlt]; exact Hs.out)
                  have Hlt2 := Lib.hid (show k < (sets ++ [t]).length from by simp; omega)
                  have E8 := Lib.hid (show (sets ++ [t]).length = sets.length + 1 from by simp)
                  clear hs8 hb8 hr8 e8 e8'
                  obtain ⟨ra', rc', w9, hr9, hs9, hb9⟩ := HS8.out.swap.pushInt (P := Try.prog) 50 50 Try.underlying50 infoI (by omega) (sets.length : Int) (by omega) 3
                  have e9 : (row ++ [(sets.length : Int)]).length = x + 1 := by simp [hrow]
                  rw [e9] at hr9 hs9
                  have HS9 := Lib.hid hs9.swap
                  have HB9 := Lib.hid (HB8.out.trans hb9)
                  have Hr9 := Lib.hid hr9
                  have E9 := Lib.hid e9
                  rw [hrow] at Hr9
                  clear hr9 hs9 hb9 e9
                  clear HTx HS4 HB4 HK2 hm HS8 HB8
                  go_wp2_with (first
                    | (at_builtin; refine wpl_append_run rfl (.tmp 64) (.tmp 66) 50 rfl rfl rfl Hr8.out ?_)
                    | (at_builtin; refine wpl_append_run rfl (.tmp 68) (.tmp 70) 50 rfl rfl rfl Hr9.out ?_)
                    | fail)
                  go_roundg (N - (x + 1))
                  case measure => omega
                  case rel => exact ⟨x + 1, sets ++ [t], row ++ [(sets.length : Int)], _, _, _, _, by rw [E8.out], by rw [E9.out], by go_num, by omega, E9.out, Hlt2.out, HO2, Hs2, by rw [show N - (x + 1) = g2 by omega]; exact HTy, HS9, HB9⟩
        · have hg : gk = 0 := by omega
          have HTy := Lib.hid (show bfsS xs N g sets (k + 1) (next ++ [row]) = T from by have h := HT2.out; rw [hg] at h; exact h)
          have hxi : ¬ ((x : Int) < (N : Int)) := by omega
          have hl := Hl.out
          have hnk := Hnk.out
          obtain ⟨v', w6, hr6, hs6, hb6⟩ := HS.out.third.swap23.absorb (P := Try.prog) (OInts.kept 3) 41 41 (.slice none 0 0) 24 Try.underlying41 infoR rfl hz (w1 := wx.alloc (.cells #[.slice ra row.length rc] 50)) ((Below.refl _ _).alloc (Nat.le_refl _) _) (bb := wx.heap.size) (c := 1) (World.cell?_alloc_at _ _ _ 0 rfl) (by omega) (by omega)
          obtain ⟨na', nc', ev, _⟩ := (New.tab hs6.headNew).shape
          rw [ev] at hr6 hs6
          have e6 : (next ++ [row]).length = k + 1 := by simp; exact Hnk.out
          rw [e6] at hr6 hs6
          have HS6 := Lib.hid hs6.swap
          have HB6 := Lib.hid (HB.out.trans hb6)
          rw [hrow] at hr6 ⊢
          have Hr6 := Lib.hid hr6
          clear hrow
          have E6 := Lib.hid e6
          clear hnk hr6 hs6 hb6 ev e6 HS HB HT2 xc1 xc2
          go_wp2_with (first
            | (at_builtin; refine wpl_append_run rfl (.tmp 72) (.tmp 74) 41 rfl rfl rfl Hr6.out ?_)
            | fail)
          go_roundg g
          case measure => omega
          case rel => exact ⟨k + 1, sets, next ++ [row], _, _, _, _, rfl, by rw [E6.out], by go_num, by omega, E6.out, HO, HTy, HS6, HB6⟩
    · have HF := Lib.hid (show T = (sets, next) from by
        rw [← HT.out]
        cases gk with
        | zero => rfl
        | succ g => unfold bfsS; rw [List.getElem?_eq_none (by omega)])
      have Hz := Lib.hid (A1.out.trans (HB.out.mono A1.out.size))
      have hki : ¬ ((k : Int) < (sets.length : Int)) := by omega
      have HP := Lib.hid HS.out
      have hz := A1.out.size
      clear HS HB HT hnk
      go_wp2
      go_ret2
      refine ⟨_, _, rfl, ?_, Hz.out⟩
      rw [HF.out]
      exact (HP.out.apart).mono hz
end Go.Proofs.Ytdohepngandajaa
end

section
/-
  LeastRank, the reference's.
-/
namespace Go.Proofs.Ytdohepngandajaa
open Go.RowKit Go.Deep Go.Sd
set_option linter.unusedSimpArgs false
def popI (s : Nat) : Int := (popN s : Int)
def leastRM (l : Lb) : Int := if resolvM l = true then (bfsS l.2.2 l.1.toNat 4096 [allN l.2.1] 0 []).1.foldl (minF popI) l.2.1 else 0
theorem resolv_facts {l : Lb} (h : resolvM l = true) : okArcs l.2.1 l.2.2 ∧ 1 ≤ l.2.1 ∧ l.2.1 ≤ 12 ∧ 1 ≤ l.1 ∧ l.1 ≤ 3 := isLab_ok (resolvM_lab h)
theorem bfs_ok {xs : List Arc3} {S : Int} (ho : okArcs S xs) (hS1 : 1 ≤ S) (hS2 : S ≤ 12) (L : Nat) : ∀ (f : Nat) (sets : List Nat) (k : Nat) (next : List (List Int)), OkS sets → OkS (bfsS xs L f sets k next).1
  | 0, _, _, _, h => h
  | f + 1, sets, k, next, h => by
    unfold bfsS
    split
    · exact h
    · exact bfs_ok ho hS1 hS2 L f _ _ _ (rowS_ok (fun s x => stepN_lt ho hS2 s x) _ _ _ _ _ h)
theorem all_ok {S : Int} (hS1 : 1 ≤ S) (hS2 : S ≤ 12) : OkS [allN S] := by
  have h1 := allN_lt hS2
  have h2 : 2 ^ 1 ≤ 2 ^ S.toNat := Nat.pow_le_pow_right (by decide) (by omega)
  refine ⟨by simp, fun s hs => ?_⟩
  simp at hs
  subst hs
  exact ⟨by unfold allN; omega, h1⟩
theorem minF_eq (f : Nat → Int) (a : Int) (s : Nat) : minF f a s = if a < f s then a else f s := by
  unfold minF
  split <;> split <;> omega
end Go.Proofs.Ytdohepngandajaa
end

section
/-
  ResolveLabels: the model, and that the program's way of making it comes to the same.
-/
namespace Go.Proofs.Ytdohepngandajaa
open Go.RowKit Go.Deep Go.Sd
/-- The arcs of one row, of all rows. -/
def rowA (k : Nat) : Nat → List Int → List Arc3
  | _, [] => []
  | x, t :: r => (if 0 ≤ t then [((k : Int), t, (x : Int))] else []) ++ rowA k (x + 1) r
def arcsN : Nat → List (List Int) → List Arc3
  | _, [] => []
  | k, r :: rs => rowA k 0 r ++ arcsN (k + 1) rs
theorem rowA_snoc (k : Nat) (t : Int) : ∀ (r : List Int) (x : Nat), rowA k x (r ++ [t]) = rowA k x r ++ (if 0 ≤ t then [((k : Int), t, ((x + r.length : Nat) : Int))] else [])
  | [], x => by simp [rowA]
  | u :: r, x => by
    show _ ++ rowA k (x + 1) (r ++ [t]) = (_ ++ rowA k (x + 1) r) ++ _
    rw [rowA_snoc k t r (x + 1), List.append_assoc, List.length_cons, show x + 1 + r.length = x + (r.length + 1) by omega]
theorem arcsN_snoc (r : List Int) : ∀ (rs : List (List Int)) (k : Nat), arcsN k (rs ++ [r]) = arcsN k rs ++ rowA (k + rs.length) 0 r
  | [], k => by simp [arcsN]
  | u :: rs, k => by
    show _ ++ arcsN (k + 1) (rs ++ [r]) = (_ ++ arcsN (k + 1) rs) ++ _
    rw [arcsN_snoc r rs (k + 1), List.append_assoc, List.length_cons, show k + 1 + rs.length = k + (rs.length + 1) by omega]
theorem rowA_len (k : Nat) : ∀ (r : List Int) (x : Nat), (rowA k x r).length ≤ r.length
  | [], _ => by simp [rowA]
  | t :: r, x => by
    have h := rowA_len k r (x + 1)
    unfold rowA
    split <;> simp <;> omega
theorem arcsN_len {m : Nat} : ∀ (rs : List (List Int)) (k : Nat), (∀ r, r ∈ rs → r.length ≤ m) → (arcsN k rs).length ≤ rs.length * m
  | [], _, _ => by simp [arcsN]
  | r :: rs, k, h => by
    have h1 := rowA_len k r 0
    have h2 := arcsN_len rs (k + 1) (fun r' hr => h r' (by simp [hr]))
    have h3 := h r (by simp)
    unfold arcsN
    rw [List.length_append, List.length_cons, Nat.add_mul]
    omega
theorem rowS_len (A : List Arc3) (s : Nat) : ∀ (n x : Nat) (sets : List Nat) (row : List Int), (rowS A s n x sets row).2.length = row.length + n
  | 0, _, _, _ => rfl
  | n + 1, x, sets, row => by
    unfold rowS
    rw [rowS_len A s n (x + 1)]
    simp; omega
theorem rowS_cnt (A : List Arc3) (s : Nat) : ∀ (n x : Nat) (sets : List Nat) (row : List Int), (rowS A s n x sets row).1.length ≤ sets.length + n
  | 0, _, _, _ => Nat.le_refl _
  | n + 1, x, sets, row => by
    unfold rowS
    have h := rowS_cnt A s n (x + 1) (addS sets (stepN A s (x : Int))) (row ++ [posS sets (stepN A s (x : Int))])
    have h2 : (addS sets (stepN A s (x : Int))).length ≤ sets.length + 1 := by unfold addS; split <;> simp
    omega
theorem bfsS_pre (A : List Arc3) (L : Nat) : ∀ (f : Nat) (sets : List Nat) (k : Nat) (next : List (List Int)), ∃ u, (bfsS A L f sets k next).1 = sets ++ u
  | 0, sets, _, _ => ⟨[], by simp [bfsS]⟩
  | f + 1, sets, k, next => by
    unfold bfsS
    cases sets[k]? with
    | none => exact ⟨[], by simp⟩
    | some s =>
      obtain ⟨u, hu⟩ := rowS_pre (A := A) s L 0 sets []
      obtain ⟨v, hv⟩ := bfsS_pre A L f (rowS A s L 0 sets []).1 (k + 1) (next ++ [(rowS A s L 0 sets []).2])
      exact ⟨u ++ v, by simp only; rw [hv, hu, List.append_assoc]⟩
theorem bfsS_rows (A : List Arc3) (L : Nat) : ∀ (f : Nat) (sets : List Nat) (k : Nat) (next : List (List Int)), (∀ r, r ∈ next → r.length = L) → ∀ r, r ∈ (bfsS A L f sets k next).2 → r.length = L
  | 0, _, _, _, h => h
  | f + 1, sets, k, next, h => by
    unfold bfsS
    cases sets[k]? with
    | none => exact h
    | some s =>
      refine bfsS_rows A L f _ _ _ fun r hr => ?_
      rcases List.mem_append.1 hr with hr | hr
      · exact h r hr
      · simp at hr; subst hr; rw [rowS_len]; simp
theorem bfsS_many (A : List Arc3) (L : Nat) : ∀ (f : Nat) (sets : List Nat) (k : Nat) (next : List (List Int)), next.length = k → k ≤ sets.length → (bfsS A L f sets k next).2.length ≤ (bfsS A L f sets k next).1.length
  | 0, _, _, _, h, hk => by simp only [bfsS]; omega
  | f + 1, sets, k, next, h, hk => by
    unfold bfsS
    cases e : sets[k]? with
    | none => simp only; omega
    | some s =>
      obtain ⟨u, hu⟩ := rowS_pre (A := A) s L 0 sets []
      have hl := (List.getElem?_eq_some_iff.1 e).1
      refine bfsS_many A L f _ _ _ (by simp; omega) ?_
      rw [hu, List.length_append]; omega
/-! The program's way: arcs at once, and an end as soon as there are more than 12 sets. -/
def rowR (A : List Arc3) (s k : Nat) : Nat → Nat → List Nat → List Arc3 → List Nat × List Arc3
  | 0, _, sets, arcs => (sets, arcs)
  | n + 1, x, sets, arcs => rowR A s k n (x + 1) (addS sets (stepN A s (x : Int))) (if stepN A s (x : Int) = 0 then arcs else arcs ++ [((k : Int), posS sets (stepN A s (x : Int)), (x : Int))])
def bfsR (A : List Arc3) (L : Nat) : Nat → List Nat → Nat → List Arc3 → Option (List Nat × List Arc3)
  | 0, sets, _, arcs => some (sets, arcs)
  | f + 1, sets, k, arcs => match sets[k]? with
    | none => some (sets, arcs)
    | some s => if 12 < (rowR A s k L 0 sets arcs).1.length then none else bfsR A L f (rowR A s k L 0 sets arcs).1 (k + 1) (rowR A s k L 0 sets arcs).2
theorem rowR_eq (A : List Arc3) (s k : Nat) (B : List Arc3) : ∀ (n : Nat) (sets : List Nat) (row : List Int), rowR A s k n row.length sets (B ++ rowA k 0 row) = ((rowS A s n row.length sets row).1, B ++ rowA k 0 (rowS A s n row.length sets row).2)
  | 0, _, _ => rfl
  | n + 1, sets, row => by
    unfold rowR rowS
    have h := rowR_eq A s k B n (addS sets (stepN A s (row.length : Int))) (row ++ [posS sets (stepN A s (row.length : Int))])
    rw [List.length_append, List.length_singleton, rowA_snoc, Nat.zero_add] at h
    rw [← h]
    congr 1
    unfold posS
    by_cases e : stepN A s (row.length : Int) = 0
    · rw [if_pos e, if_pos e, if_neg (by omega), List.append_nil]
    · rw [if_neg e, if_neg e, if_pos (by omega), List.append_assoc]
theorem bfsR_eq (A : List Arc3) (L : Nat) : ∀ (f : Nat) (sets : List Nat) (k : Nat) (next : List (List Int)), next.length = k → sets.length ≤ 12 →
    bfsR A L f sets k (arcsN 0 next) = if 12 < (bfsS A L f sets k next).1.length then none else some ((bfsS A L f sets k next).1, arcsN 0 (bfsS A L f sets k next).2)
  | 0, sets, k, next, _, hl => (if_neg (show ¬ 12 < sets.length by omega)).symm
  | f + 1, sets, k, next, hk, hl => by
    unfold bfsR bfsS
    cases e : sets[k]? with
    | none => exact (if_neg (show ¬ 12 < sets.length by omega)).symm
    | some s =>
      simp only
      have h1 := rowR_eq A s k (arcsN 0 next) L sets []
      rw [show (rowA k 0 [] : List Arc3) = [] from rfl, List.append_nil] at h1
      rw [show ([] : List Int).length = 0 from rfl] at h1
      rw [h1]
      have h2 := arcsN_snoc (rowS A s L 0 sets []).2 next 0
      rw [Nat.zero_add, hk] at h2
      simp only
      rw [← h2]
      by_cases hb : 12 < (rowS A s L 0 sets []).1.length
      · rw [if_pos hb]
        obtain ⟨u, hu⟩ := bfsS_pre A L f (rowS A s L 0 sets []).1 (k + 1) (next ++ [(rowS A s L 0 sets []).2])
        rw [if_pos (by rw [hu, List.length_append]; omega)]
      · rw [if_neg hb]
        exact bfsR_eq A L f _ _ _ (by simp; omega) (by omega)
/-! The result. -/
theorem nm_lt {l : List Bool} {i : Nat} (h : l.getD i false = true) : nm l i < cntT l := by
  have h1 : l[i]? = some true := by
    cases e : l[i]? with
    | none => simp [List.getD, e] at h
    | some b => simp [List.getD, e] at h; rw [h]
  have h2 := nm_succ h1
  have h3 := nm_le l (i + 1)
  simp at h2
  omega
theorem trim_ok {l : Lb} (h : trimOk l = true) : okArcs (trimV l).2.1 (trimV l).2.2 ∧ 1 ≤ (trimV l).2.1 ∧ (trimV l).2.1 ≤ 12 ∧ 1 ≤ (trimV l).1 ∧ (trimV l).1 ≤ 3 ∧ (trimV l).1 = l.1 ∧ (trimV l).2.2.length ≤ 768 := by
  have e : trimV l = keepV l (liveO l) := by unfold trimV; rw [if_pos h]
  unfold trimOk at h
  rw [Bool.and_eq_true] at h
  obtain ⟨h1, h2⟩ := h
  have h2 : cntT (liveO l) ≠ 0 := by simpa using h2
  obtain ⟨k1, k2, k3, k4, k5⟩ := isLab_ok h1
  have h5 := isLab_len h1
  have h6 := trimV_len l
  have h3 : cntT (liveO l) ≤ (liveO l).length := cntT_le
  rw [liveO_len] at h3
  refine ⟨?_, ?_, ?_, ?_, ?_, ?_, by omega⟩
  · rw [e]
    intro a ha
    unfold keepV trimA at ha
    obtain ⟨b, hb, rfl⟩ := List.mem_map.1 ha
    have hk := (List.mem_filter.1 hb).2
    unfold kept at hk
    rw [Bool.and_eq_true] at hk
    have q1 := nm_lt hk.1
    have q2 := nm_lt hk.2
    simp only [renA, keepV]
    omega
  · rw [e]; simp only [keepV]; omega
  · rw [e]; simp only [keepV]; omega
  · rw [e]; exact k4
  · rw [e]; exact k5
  · rw [e]; rfl
noncomputable def rslT (l : Lb) : Option (List Nat × List Arc3) := bfsR (trimV l).2.2 (trimV l).1.toNat 4096 [allN (trimV l).2.1] 0 []
noncomputable def rslOk (l : Lb) : Bool := trimOk l && (rslT l).isSome
def rslR (L : Int) : Option (List Nat × List Arc3) → Lb
  | none => (0, 0, [])
  | some z => (L, (z.1.length : Int), z.2)
noncomputable def rslV (l : Lb) : Lb := if trimOk l = true then rslR l.1 (rslT l) else (0, 0, [])
theorem rslT_eq (l : Lb) : rslT l = if 12 < (bfsS (trimV l).2.2 (trimV l).1.toNat 4096 [allN (trimV l).2.1] 0 []).1.length then none else some ((bfsS (trimV l).2.2 (trimV l).1.toNat 4096 [allN (trimV l).2.1] 0 []).1, arcsN 0 (bfsS (trimV l).2.2 (trimV l).1.toNat 4096 [allN (trimV l).2.1] 0 []).2) :=
  bfsR_eq _ _ _ _ _ [] rfl (by simp)
theorem rslV_len (l : Lb) : (rslV l).2.2.length ≤ 36 := by
  unfold rslV
  split
  · rename_i h
    obtain ⟨_, _, _, k4, k5, _⟩ := trim_ok h
    have e := rslT_eq l
    cases hz : rslT l with
    | none => simp [rslR]
    | some z =>
      unfold rslR
      rw [hz] at e
      split at e
      · cases e
      · rename_i hn
        simp only [Option.some.injEq] at e
        subst e
        simp only
        have h1 := arcsN_len (m := (trimV l).1.toNat) (bfsS (trimV l).2.2 (trimV l).1.toNat 4096 [allN (trimV l).2.1] 0 []).2 0 (fun r hr => Nat.le_of_eq (bfsS_rows _ _ _ _ _ _ (fun r hr => by cases hr) r hr))
        have h2 := bfsS_many (trimV l).2.2 (trimV l).1.toNat 4096 [allN (trimV l).2.1] 0 [] rfl (by simp)
        have h3 : (trimV l).1.toNat ≤ 3 := by omega
        have h4 := Nat.mul_le_mul (Nat.le_trans h2 (Nat.le_of_not_lt hn)) h3
        omega
  · simp
theorem rslV_bd (l : Lb) : (3 * (rslV l).2.2.length : Int) ≤ 1099511627776 := by
  have := rslV_len l
  omega
end Go.Proofs.Ytdohepngandajaa
end

section
/-
  A map of the call's own, told by what it holds at each key; the walk's laws on it.
-/
namespace Go.Sd
open Go.RowKit Go.Deep Go.Maps

/-- How keys of type k are written and read, and elements of type e. -/
structure MapK (P : Program) (k e : TypeId) {κ β : Type} (dom : κ → Prop) (kv : κ → Value) (kf : κ → Lit) (ev : β → Value) (ed : β → DataW Unit) : Prop where
  law : Keyed P k
  key : ∀ x, dom x → keyOf P k (kv x) = some (kf x)
  inj : ∀ x y, dom x → dom y → kf x = kf y → x = y
  val : ∀ y, plainElem (H := Unit) P e (ev y) = some (ed y, [])
  inv : ∀ y v ps, plainElem (H := Unit) P e v = some (ed y, ps) → v = ev y
  lit : ∀ x, dom x → WideAt.IsKeyLit (kf x)

/-- Block b is a map of at most n entries that holds g. -/
def MapAt (P : Program) (k e : TypeId) {κ β : Type} (dom : κ → Prop) (kf : κ → Lit) (ed : β → DataW Unit) (w : World) (b n : Nat) (g : κ → Option β) : Prop :=
  ∃ D, w.ownsMap P k (plainElem (H := Unit) P e) b n D ∧ ∀ x, dom x → match g x with
    | none => Maps.has D (kf x) = false
    | some y => Maps.has D (kf x) = true ∧ ∀ z, D.atKey (kf x) z = ed y

section
variable {P : Program} {k e : TypeId} {κ β : Type} {dom : κ → Prop} {kv : κ → Value} {kf : κ → Lit} {ev : β → Value} {ed : β → DataW Unit}

def Res.map (P : Program) (k e : TypeId) {κ β : Type} (dom : κ → Prop) (kf : κ → Lit) (ed : β → DataW Unit) (b n : Nat) (g : κ → Option β) : Res :=
  ⟨fun w F => F = [b] ∧ MapAt P k e dom kf ed w b n g,
   fun w w' F h hk => by
    obtain ⟨rfl, D, ⟨es, clock, hb, r⟩, hg⟩ := h
    exact ⟨rfl, D, ⟨es, clock, (hk b (by simp)).trans hb, r⟩, hg⟩,
   fun w F h c hc => by
    obtain ⟨rfl, D, ho, _⟩ := h
    simp at hc
    subst hc
    exact ho.lt⟩

theorem Sep.mapNew {lo : Nat} {w : World} {rs : List Res} (h : Sep lo w rs) (hlo : lo ≤ w.heap.size) (P : Program) (k e : TypeId) {κ β : Type} (dom : κ → Prop) (kf : κ → Lit) (ed : β → DataW Unit) :
    Sep lo (w.alloc (.map #[] 0)) (Res.map P k e dom kf ed w.heap.size 0 (fun _ => none) :: rs) :=
  h.cons ((Below.refl _ _).alloc (Nat.le_refl _) _) hlo (r := Res.map P k e dom kf ed w.heap.size 0 (fun _ => none)) (G := [w.heap.size]) ⟨rfl, .map [], World.ownsMap_made _ _ _ _, fun _ _ => rfl⟩ (by simp [Fresh])

theorem Sep.mapLt {lo : Nat} {w : World} {rs : List Res} {b n : Nat} {g : κ → Option β} (h : Sep lo w (Res.map P k e dom kf ed b n g :: rs)) : b < w.heap.size := by
  obtain ⟨G, ⟨rfl, D, ho, hg⟩, _⟩ := h.head
  exact ho.lt
theorem Sep.mapLook (M : MapK P k e dom kv kf ev ed) {lo : Nat} {w : World} {rs : List Res} {b n : Nat} {g : κ → Option β} (h : Sep lo w (Res.map P k e dom kf ed b n g :: rs)) {t : TypeId} (ht : P.underlying t = some (.map k e)) {z : Value} (hz : (zeroValue e).run P w = .ok z w) {zd : DataW Unit} (hzd : plainElem P e z = some (zd, [])) (hzi : ∀ v ps, plainElem (H := Unit) P e v = some (zd, ps) → v = z) (x : κ) (hx : dom x) :
    (Instr.lookup t (.map (some b)) (kv x) false).run P w = .ok (match g x with | some y => ev y | none => z) w := by
  obtain ⟨G, ⟨rfl, D, ho, hg⟩, _⟩ := h.head
  obtain ⟨v, ps, hr, hv⟩ := ho.lookup M.law ht hz hzd (M.key x hx)
  have h1 := hg x hx
  rw [hr]
  cases hgx : g x with
  | none =>
    rw [hgx] at h1
    rw [Maps.atKey_of_not_has h1] at hv
    rw [hzi v ps hv]
  | some y =>
    rw [hgx] at h1
    rw [h1.2 zd] at hv
    rw [M.inv y v ps hv]
theorem Sep.mapLookOk (M : MapK P k e dom kv kf ev ed) {lo : Nat} {w : World} {rs : List Res} {b n : Nat} {g : κ → Option β} (h : Sep lo w (Res.map P k e dom kf ed b n g :: rs)) {t : TypeId} (ht : P.underlying t = some (.map k e)) {z : Value} (hz : (zeroValue e).run P w = .ok z w) {zd : DataW Unit} (hzd : plainElem P e z = some (zd, [])) (hzi : ∀ v ps, plainElem (H := Unit) P e v = some (zd, ps) → v = z) (x : κ) (hx : dom x) :
    (Instr.lookup t (.map (some b)) (kv x) true).run P w = .ok (.tuple #[match g x with | some y => ev y | none => z, .bool (g x).isSome]) w := by
  obtain ⟨G, ⟨rfl, D, ho, hg⟩, _⟩ := h.head
  obtain ⟨v, ps, hr, hv⟩ := ho.look_ok M.law ht hz hzd (M.key x hx)
  have h1 := hg x hx
  rw [hr]
  cases hgx : g x with
  | none =>
    rw [hgx] at h1
    rw [Maps.atKey_of_not_has h1] at hv
    rw [hzi v ps hv, h1]
    rfl
  | some y =>
    rw [hgx] at h1
    rw [h1.2 zd] at hv
    rw [M.inv y v ps hv, h1.1]
    rfl
open Classical in
theorem Sep.mapStore (M : MapK P k e dom kv kf ev ed) {lo : Nat} {w : World} {rs : List Res} {b n : Nat} {g : κ → Option β} (h : Sep lo w (Res.map P k e dom kf ed b n g :: rs)) (hlo : lo ≤ w.heap.size) {t : TypeId} (ht : P.underlying t = some (.map k e)) (hn : n < maxLen) (x : κ) (hx : dom x) (y : β) :
    ∃ w', (Instr.mapUpdate t (.map (some b)) (kv x) (ev y)).run P w = .ok () w' ∧ Sep lo w' (Res.map P k e dom kf ed b (n + 1) (fun x' => if x' = x then some y else g x') :: rs) ∧ Below lo w w' ∧ ∀ p : Addr, p.block < w.heap.size → p.block ≠ b → w'.cell? p = w.cell? p := by
  obtain ⟨G, ⟨rfl, D, ho, hg⟩, hf, hK⟩ := h.head
  obtain ⟨w', hr, ho', hgr⟩ := ho.update M.law ht hn (M.key x hx) (M.val y)
  have hD := ho.isMap
  refine ⟨w', hr, hK w' (Res.map P k e dom kf ed b (n + 1) (fun x' => if x' = x then some y else g x')) [b] ⟨rfl, _, ho', fun x' hx' => ?_⟩ (by simp) (fun _ h => Or.inl h) hlo fun c hlt hc => hgr.block c hlt fun e2 => hc (by cases e2; simp), (Below.refl lo w).grown hgr hlo fun c hc => hf.2 c (by cases hc; simp), fun p hp hpb => by simp only [World.cell?, hgr.block p.block hp fun e2 => hpb (by cases e2; rfl)]⟩
  by_cases e : x' = x
  · subst e
    simp only [if_true]
    exact ⟨Maps.has_put_same hD (M.lit x' hx') _, fun z => Maps.atKey_put_same hD (M.lit x' hx') _ z⟩
  · simp only [e, if_false]
    have hne : kf x' ≠ kf x := fun e2 => e (M.inj x' x hx' hx e2)
    have h1 := hg x' hx'
    cases hgx : g x' with
    | none =>
      rw [hgx] at h1
      simp only [Maps.has_put_other hne]
      exact h1
    | some y' =>
      rw [hgx] at h1
      simp only [Maps.has_put_other hne, Maps.atKey_put_other hne]
      exact h1
end
section
variable {P : Program} {w : World} {ops : Array Oper} {rest : List Oper} {o : Oper} {a : Act} {Q : Exit → Act → World → Prop}
/-- 'm[k] = v' and a literal's entry at the operation, the run known. -/
theorem wpl_mapUpdate_run (hw : Region.wanted o (yielded ops a.tmps) = true) (m x v : Operand) (t : TypeId) (hop : o.op = Op.mapUpdate t m x v ∨ o.op = Op.insert t m x v) {vm vk vv : Value} {w' : World} (hm : a.eval m = vm) (hx : a.eval x = vk) (hv : a.eval v = vv)
    (hr : (Instr.mapUpdate t vm vk vv).run P w = .ok () w') (h : wpList P ops Q rest (a.put o.dst undef) w') : wpList P ops Q (o :: rest) a w := by
  refine BigFrame.wpList_want hw fun K hK => ?_
  unfold Oper.wp
  rcases hop with hop | hop <;> simp [execOp, hop, hm, hx, hv, hr, Result.andThen] <;> exact hK _ _ h
theorem wpl_lookup_run (hw : Region.wanted o (yielded ops a.tmps) = true) (m x : Operand) (t : TypeId) (c : Bool) (hop : o.op = Op.lookup t m x c) {vm vk r : Value} (hm : a.eval m = vm) (hx : a.eval x = vk)
    (hr : (Instr.lookup t vm vk c).run P w = .ok r w) (h : wpList P ops Q rest (a.put o.dst r) w) : wpList P ops Q (o :: rest) a w := by
  refine BigFrame.wpList_want hw fun K hK => ?_
  unfold Oper.wp
  simp [execOp, hop, hm, hx, hr, Result.andThen]
  exact hK _ _ h
end
/-- Sets of states, told by numbers, as keys; bools. -/
def domS (s : Nat) : Prop := s < 9223372036854775808
theorem wf_i64 {s : Nat} (h : domS s) : (Lit.int .i64 (s : Int)).wf = true := WalkArith.wf_i64 (by unfold domS at h; omega)
theorem boolElem_inv {P : Program} {e : TypeId} (he : P.underlying e = some .bool) {y : Bool} {v : Value} {ps : List MemPlace} (h : plainElem (H := Unit) P e v = some (.lit (.bool y), ps)) : v = .bool y := by
  unfold plainElem at h
  rw [he] at h
  cases v <;> simp at h
  rw [h.1]
theorem mapK_bool {P : Program} {k e : TypeId} (hk : P.underlying k = some (.int .i64)) (he : P.underlying e = some .bool) : MapK P k e domS (fun s : Nat => .int .i64 (s : Int)) (fun s => .int .i64 (s : Int)) (fun y : Bool => .bool y) (fun y => .lit (.bool y)) where
  law := int_keyed hk
  key := fun x hx => keyOf_int_mk hk (wf_i64 hx)
  inj := fun x y _ _ h => by simp at h; omega
  val := fun y => plainElem_bool he y
  inv := fun y v ps h => by
    unfold plainElem at h
    rw [he] at h
    cases v <;> simp at h
    rw [h.1]
  lit := fun x _ => by simp [WideAt.IsKeyLit]
theorem mapK_int {P : Program} {k e : TypeId} (hk : P.underlying k = some (.int .i64)) (he : P.underlying e = some (.int .i64)) : MapK P k e domS (fun s : Nat => .int .i64 (s : Int)) (fun s => .int .i64 (s : Int)) (fun y : {s : Nat // domS s} => .int .i64 (y.1 : Int)) (fun y => .lit (.int .i64 (y.1 : Int))) where
  law := int_keyed hk
  key := fun x hx => keyOf_int_mk hk (wf_i64 hx)
  inj := fun x y _ _ h => by simp at h; omega
  val := fun y => plainElem_int he (wf_i64 y.2)
  inv := fun y v ps h => by
    obtain ⟨a, rfl, h2, _⟩ := plainElem_int_inv he h
    simp at h2
    rw [h2.1]
  lit := fun x _ => by simp [WideAt.IsKeyLit]
end Go.Sd
end

section
/-
  Own slices whose elements have several cells and blocks of their own besides; append of plain values, as a run.
-/
namespace Go.Sd
open Go.RowKit Go.Deep

abbrev OwnCells (α : Type) := World → List Value → α → List Nat → Prop
structure KeptC {α : Type} (sz : Nat) (R : OwnCells α) : Prop where
  keep : ∀ w w' u x F, R w u x F → (∀ b, b ∈ F → w'.heap[b]? = w.heap[b]?) → R w' u x F
  lt : ∀ w u x F, R w u x F → ∀ b, b ∈ F → b < w.heap.size
  one : ∀ w u x F, R w u x F → ∀ y, y ∈ u → y.oneCell' = true
  len : ∀ w u x F, R w u x F → u.length = sz
def OwnG {α : Type} (e : TypeId) (sz : Nat) (R : OwnCells α) : OwnRel (List α) := fun w v xs F =>
  ∃ (us : List (List Value)) (Fs : List (List Nat)), w.ownsRow 0 e sz v xs.length us.flatten ∧ us.length = xs.length ∧ Fs.length = xs.length ∧ (∀ u, u ∈ us → u.length = sz) ∧
    (∀ (i : Nat) (u : List Value) (x : α) (G : List Nat), us[i]? = some u → xs[i]? = some x → Fs[i]? = some G → R w u x G) ∧ F = v.ownBlock.toList ++ Fs.flatten
theorem flatten_at {sz : Nat} : ∀ {us : List (List Value)}, (∀ u, u ∈ us → u.length = sz) → ∀ {i j : Nat} {u : List Value} {y : Value}, us[i]? = some u → u[j]? = some y → us.flatten[i * sz + j]? = some y
  | [], _, i, j, u, y, h, _ => by simp at h
  | a :: us, hl, 0, j, u, y, h, hy => by
    simp at h
    subst h
    have hj := (List.getElem?_eq_some_iff.1 hy).1
    rw [List.flatten_cons, Nat.zero_mul, Nat.zero_add, List.getElem?_append_left hj]
    exact hy
  | a :: us, hl, i + 1, j, u, y, h, hy => by
    have h2 : us[i]? = some u := by simpa using h
    have ih := flatten_at (fun u hu => hl u (List.mem_cons_of_mem _ hu)) h2 hy
    have ha : a.length = sz := hl a (by simp)
    have e : (i + 1) * sz + j = a.length + (i * sz + j) := by rw [ha, Nat.add_mul]; omega
    rw [List.flatten_cons, e, List.getElem?_append_right (by omega), Nat.add_sub_cancel_left]
    exact ih
section
variable {α : Type} {e : TypeId} {sz : Nat} {R : OwnCells α}
theorem OwnG.held (hR : KeptC sz R) : Held (OwnG e sz R) := by
  refine ⟨?_, ?_⟩
  · rintro w w' v xs F ⟨us, Fs, ho, hl, hf, hs, hr, rfl⟩ hk
    refine ⟨us, Fs, ownsRow_keep ho fun b hb => hk b (by simp [hb]), hl, hf, hs, fun i u x G hu hx hG => hR.keep _ _ _ _ _ (hr i u x G hu hx hG) fun b hb => hk b ?_, rfl⟩
    exact List.mem_append_right _ (List.mem_flatten_of_mem (List.mem_of_getElem? hG) hb)
  · rintro w v xs F ⟨us, Fs, ho, hl, hf, hs, hr, rfl⟩ b hb
    rcases List.mem_append.1 hb with hb | hb
    · simp at hb
      exact (ho.lt b hb).2
    · obtain ⟨G, hG, hb⟩ := List.mem_flatten.1 hb
      obtain ⟨i, hi⟩ := List.getElem?_of_mem hG
      have hi1 : i < Fs.length := (List.getElem?_eq_some_iff.1 hi).1
      exact hR.lt _ _ _ _ (hr i us[i] xs[i] G (List.getElem?_eq_getElem (by omega)) (List.getElem?_eq_getElem (by omega)) hi) b hb
theorem OwnG.slice {w : World} {v : Value} {xs : List α} {F : List Nat} (h : OwnG e sz R w v xs F) : ∃ a c, v = .slice a xs.length c := by
  obtain ⟨us, Fs, ho, _⟩ := h
  rcases ho.2 with ⟨rfl, h0⟩ | ⟨g, cap, cur, rfl, _⟩
  · exact ⟨none, 0, by rw [h0]⟩
  · exact ⟨_, _, rfl⟩
/-- Where the elements lie. -/
theorem OwnG.at {w : World} {v : Value} {xs : List α} {F : List Nat} (h : OwnG e sz R w v xs F) {i : Nat} {x : α} (hx : xs[i]? = some x) :
    ∃ g c u G, v = .slice (some ⟨g, 0, none⟩) xs.length c ∧ g < w.heap.size ∧ R w u x G ∧ (∀ b, b ∈ G → b ∈ F) ∧ g ∈ F ∧ ∀ j y, u[j]? = some y → w.cell? ⟨g, i * sz + j, none⟩ = some y := by
  obtain ⟨us, Fs, ho, hl, hf, hs, hr, rfl⟩ := h
  have hi := (List.getElem?_eq_some_iff.1 hx).1
  have hui : us[i]? = some us[i] := List.getElem?_eq_getElem (by omega)
  have hFi : Fs[i]? = some Fs[i] := List.getElem?_eq_getElem (by omega)
  have hh := ho
  rcases ho.2 with ⟨rfl, h1⟩ | ⟨g, cap, cur, rfl, _⟩
  · omega
  · refine ⟨g, cap, us[i], Fs[i], rfl, (hh.lt g rfl).2, hr i _ x _ hui hx hFi, fun b hb => List.mem_append_right _ (List.mem_flatten_of_mem (List.mem_of_getElem? hFi) hb), by simp [Value.ownBlock], fun j y hy => ?_⟩
    have := hh.cells (g := g) rfl _ _ (flatten_at hs hui hy)
    have e2 : (⟨g, 0, none⟩ : Addr).add (i * sz + j) = ⟨g, i * sz + j, none⟩ := by unfold Addr.add; split <;> simp_all
    rw [e2] at this
    exact this
/-- A slice literal of one element without blocks of its own. -/
theorem New.oneG' (w : World) (u : List Value) (x : α) (hu : u.length = sz) (hR : ∀ w', R w' u x []) : New (OwnG e sz R) w.heap.size (w.alloc (.cells u.toArray e)) (.slice (some ⟨w.heap.size, 0, none⟩) 1 1) [x] :=
  ⟨[w.heap.size], ⟨[u], [[]], ⟨by simp [hu], .inr ⟨w.heap.size, 1, u.toArray, rfl, Nat.zero_le _, heap_alloc_new w _, Nat.le_refl _, by simp [maxLen], by simp [hu], by simp; exact List.take_of_length_le (by omega)⟩⟩, rfl, rfl, by simp [hu], fun i u' x' G' hu' hx' hG' => by
    cases i with
    | zero => simp at hu' hx' hG'; subst hu' hx' hG'; exact hR _
    | succ i => simp at hu', by simp [Value.ownBlock]⟩, by simp [Fresh]⟩
section
variable {P : Program} {lo : Nat} {w : World} {v : Value} {rs : List Res}
/-- append of an element that has been laid since, with blocks made since. -/
theorem Sep.pushC (hR : KeptC sz R) (h0 : 0 < sz) (t ty : TypeId) (z : Value) (bytes : Nat) (ht : P.underlying t = some (.slice e)) (hinfo : (P.info? e).map (fun i => (i.zero, i.size, i.bytes)) = some (some z, sz, bytes)) (hz1 : z.cells.size = sz)
    {xs : List α} {hh : Held (OwnG e sz R)} (h : Sep lo w (Res.of (OwnG e sz R) hh v xs :: rs)) (hlo : lo ≤ w.heap.size) {w1 : World} (hb : Below w.heap.size w w1) {u : List Value} {y : α} {K : List Nat} (hK : R w1 u y K) (hKf : Fresh w.heap.size K) {bb : Nat} (c : Nat) (hcell : ∀ j x, u[j]? = some x → w1.cell? ⟨bb, j, none⟩ = some x) (hbytes : (xs.length + 1) * bytes ≤ 140737488355328) (h63 : xs.length + 1 ≤ 9223372036854775807) :
    ∃ v' w', (Builtin.append_ #[t, t] ty #[v, .slice (some ⟨bb, 0, none⟩) 1 c]).run P w1 = .ok v' w' ∧ Sep lo w' (Res.of (OwnG e sz R) hh v' (xs ++ [y]) :: rs) ∧ Below lo w w' := by
  obtain ⟨i, hi, hzz⟩ := Option.map_eq_some_iff.1 hinfo
  simp only [Prod.mk.injEq] at hzz
  obtain ⟨hz, hsz, hby⟩ := hzz
  obtain ⟨G, hG, hf, hKK⟩ := h.head
  have hG1 : OwnG e sz R w v xs G := hG
  have hltG := hh.lt _ _ _ _ hG1
  obtain ⟨us, Fs, how, hl, hfl, hs, hr, eG⟩ := hG1
  have how1 : w1.ownsRow 0 e sz v xs.length us.flatten := ownsRow_keep how fun b hb2 => hb.block b (how.lt b hb2).2
  have hzw := hb.size
  have hul := hR.len _ _ _ _ hK
  obtain ⟨v', w', hrun, how', hg, _, hat⟩ := run_append_own_at (P := P) w1 0 t ty e i z sz bytes ht hi hz hsz hby hz1 h0 v xs.length us.flatten how1 ⟨bb, 0, none⟩ 1 c u (by rw [hul]; omega)
    (by
      intro j u' hj
      have := hcell j u' hj
      have e2 : (⟨bb, 0, none⟩ : Addr).add j = ⟨bb, j, none⟩ := by unfold Addr.add; split <;> simp_all
      rw [e2]
      exact this)
    (fun u' hu' => hR.one _ _ _ _ hK u' hu') h63 hbytes (Nat.zero_le _)
  have hvG : ∀ k, v.ownBlock = some k → k ∈ G := fun k hk => by rw [eG]; simp [hk]
  have hkeep : ∀ b, b < w.heap.size → b ∉ G → w'.heap[b]? = w.heap[b]? := fun b hlt hn => (hg.block b (by omega) fun e2 => hn (hvG b e2.symm)).trans (hb.block b hlt)
  have hnd : (v.ownBlock.toList ++ Fs.flatten).Nodup := eG ▸ hf.1
  have hnd' := List.nodup_append.1 hnd
  have hnv : ∀ k, v.ownBlock = some k → k ∉ Fs.flatten := fun k hk hm => hnd'.2.2 k (by simp [hk]) k hm rfl
  have hKlt := hR.lt _ _ _ _ hK
  have hFG : ∀ b, b ∈ Fs.flatten → b ∈ G := fun b hb2 => by rw [eG]; exact List.mem_append_right _ hb2
  have hat' : ∀ k, v'.ownBlock = some k → v.ownBlock = some k ∨ w1.heap.size ≤ k := by
    intro k hk
    rcases hat with hat | hat
    · rw [hat] at hk; exact Or.inl hk
    · rw [hat] at hk; simp at hk; exact Or.inr (by omega)
  refine ⟨v', w', hrun, hKK w' (Res.of (OwnG e sz R) hh v' (xs ++ [y])) (v'.ownBlock.toList ++ (Fs ++ [K]).flatten) ⟨us ++ [u], Fs ++ [K], by simpa using how', by simp [hl], by simp [hfl], ?_, ?_, rfl⟩ ?_ ?_ hlo hkeep, (hb.mono hlo).grown hg (by omega) fun k hk => hf.2 k (hvG k hk)⟩
  · intro u' hu'
    rcases List.mem_append.1 hu' with h1 | h1
    · exact hs u' h1
    · simp at h1; subst h1; exact hul
  · intro j u' x' G' hu' hx' hG'
    by_cases hj : j < xs.length
    · rw [List.getElem?_append_left (by omega)] at hu' hx' hG'
      refine hR.keep _ _ _ _ _ (hr j u' x' G' hu' hx' hG') fun b hb' => ?_
      have hm : b ∈ Fs.flatten := List.mem_flatten_of_mem (List.mem_of_getElem? hG') hb'
      exact (hg.block b (by have := hltG b (hFG b hm); omega) (fun e2 => hnv b e2.symm hm)).trans (hb.block b (hltG b (hFG b hm)))
    · have hj2 : j = xs.length := by
        have := (List.getElem?_eq_some_iff.1 hx').1
        simp at this; omega
      subst hj2
      rw [List.getElem?_append_right (by omega)] at hu' hx' hG'
      simp [hl, hfl] at hu' hx' hG'
      subst hu' hx' hG'
      exact hR.keep _ _ _ _ _ hK fun b hb' => hg.block b (hKlt b hb') fun e2 => by
        have h1 := hltG b (hvG b e2.symm)
        have h2 := hKf.2 b hb'
        omega
  · simp only [List.flatten_append, List.flatten_cons, List.flatten_nil, List.append_nil]
    refine List.nodup_append.2 ⟨by cases v'.ownBlock <;> simp, List.nodup_append.2 ⟨hnd'.2.1, hKf.1, ?_⟩, ?_⟩
    · intro p hp q hq e2
      subst e2
      have h1 := hltG p (hFG p hp)
      have h2 := hKf.2 p hq
      omega
    · intro p hp q hq e2
      subst e2
      simp at hp
      rcases hat' p hp with hk | hk
      · rcases List.mem_append.1 hq with hq | hq
        · exact hnv p hk hq
        · have h1 := hltG p (hvG p hk)
          have h2 := hKf.2 p hq
          omega
      · rcases List.mem_append.1 hq with hq | hq
        · have := hltG p (hFG p hq); omega
        · have := hKlt p hq; omega
  · intro b hb'
    rcases List.mem_append.1 hb' with hb' | hb'
    · simp at hb'
      rcases hat' b hb' with hk | hk
      · exact Or.inl (hvG b hk)
      · exact Or.inr (by omega)
    · simp at hb'
      rcases hb' with ⟨H, hH, hb'⟩ | hb'
      · exact Or.inl (hFG b (List.mem_flatten_of_mem hH hb'))
      · exact Or.inr (hKf.2 b hb')
end
end
/-- append of a whole slice of plain values to an own one, as a run. -/
theorem vals_run {P : Program} {w : World} {α : Type} {f : α → Value} (hf : ∀ x, (f x).oneCell' = true) (t ty : TypeId)
    (e : TypeId) (z : Value) (bytes : Nat) (ht : P.underlying t = some (.slice e)) (hinfo : (P.info? e).map (fun i => (i.zero, i.size, i.bytes)) = some (some z, 1, bytes)) (hz1 : z.cells = #[z])
    {lo : Nat} {v : Value} {ys : List α} (h0 : New (OwnOf e (OValR f)) lo w v ys) (hlo : lo ≤ w.heap.size)
    {v2 : Value} {xs : List α} (h2 : SlOf (ValR f) w v2 xs)
    (hbytes : (ys.length + xs.length) * bytes ≤ 140737488355328) (h63 : ys.length + xs.length ≤ 9223372036854775807) :
    ∃ v' w', (Builtin.append_ #[t, t] ty #[v, v2]).run P w = .ok v' w' ∧ New (OwnOf e (OValR f)) lo w' v' (ys ++ xs) ∧ Below lo w w' := by
  obtain ⟨i, hi, hzz⟩ := Option.map_eq_some_iff.1 hinfo
  simp only [Prod.mk.injEq] at hzz
  obtain ⟨hz, hsz, hby⟩ := hzz
  have h0' := h0
  obtain ⟨F, ⟨us, Fs, how, hl, hr, rfl⟩, hnd, hge⟩ := h0
  have hul : us.length = ys.length := by simpa using how.1
  have hvlt : ∀ k, v.ownBlock = some k → lo ≤ k ∧ k < w.heap.size := fun k hk => ⟨hge k (by simp [hk]), (how.lt k hk).2⟩
  obtain ⟨vs, hsl, hvl, hvr⟩ := h2
  have hvs : vs = xs.map f := by
    apply List.ext_getElem?
    intro j
    by_cases hj : j < xs.length
    · rw [List.getElem?_map, List.getElem?_eq_getElem hj, List.getElem?_eq_getElem (by omega)]
      exact congrArg some (hvr j _ _ (List.getElem?_eq_getElem (by omega)) (List.getElem?_eq_getElem hj))
    · rw [List.getElem?_eq_none (by omega), List.getElem?_eq_none (by simp; omega)]
  subst hvs
  obtain ⟨_, ad, c, hv2, _, _, hn, hcells⟩ := hsl
  simp only [List.length_map] at hv2
  have key : ∀ (ad : Addr), (∀ (j : Nat) (u : Value), (xs.map f)[j]? = some u → w.cell? (ad.add j) = some u) → v2 = .slice (some ad) xs.length c → ∃ v' w', (Builtin.append_ #[t, t] ty #[v, v2]).run P w = .ok v' w' ∧ New (OwnOf e (OValR f)) lo w' v' (ys ++ xs) ∧ Below lo w w' := by
    intro ad had hv2'
    obtain ⟨v', w', hrun, how', hg, _, hat⟩ := run_append_own_at (P := P) w 0 t ty e i z 1 bytes ht hi hz hsz hby (by rw [hz1]; rfl) (by decide) v ys.length us how ad xs.length c (xs.map f) (by simp) had
      (by
        intro u hu
        obtain ⟨y, _, rfl⟩ := List.mem_map.1 hu
        exact hf y) h63 hbytes (Nat.zero_le _)
    have hFs : ∀ G, G ∈ Fs → G = [] := fun G hG => by
      obtain ⟨j, hj⟩ := List.getElem?_of_mem hG
      have hj1 : j < Fs.length := (List.getElem?_eq_some_iff.1 hj).1
      exact (hr j us[j] ys[j] G (List.getElem?_eq_getElem (by omega)) (List.getElem?_eq_getElem (by omega)) hj).2
    have hfl : (Fs ++ List.replicate xs.length []).flatten = [] := by
      rw [List.flatten_eq_nil_iff]
      intro G hG
      rcases List.mem_append.1 hG with hG | hG
      · exact hFs G hG
      · exact (List.mem_replicate.1 hG).2
    refine ⟨v', w', by rw [hv2']; exact hrun, ⟨_, ⟨us ++ xs.map f, Fs ++ List.replicate xs.length [], by simpa using how', by simp [hl], ?_, rfl⟩, ?_, ?_⟩, Below.of_grown hg hlo fun k hk => (hvlt k hk).1⟩
    · intro j u' x' G' hu' hx' hG'
      by_cases hj : j < ys.length
      · rw [List.getElem?_append_left (by omega)] at hu' hx' hG'
        exact hr j u' x' G' hu' hx' hG'
      · rw [List.getElem?_append_right (by omega)] at hu' hx' hG'
        rw [hul, List.getElem?_map, hx'] at hu'
        simp at hu'
        exact ⟨hu'.symm, (List.mem_replicate.1 (List.mem_of_getElem? hG')).2⟩
    · rw [hfl]
      cases v'.ownBlock <;> simp
    · intro b hb
      rw [hfl] at hb
      simp at hb
      rcases hat with hat | hat
      · rw [hat] at hb; exact (hvlt b hb).1
      · rw [hat] at hb; simp at hb; omega
  rcases hcells with hnil | ⟨b, o', rfl, _, hc⟩
  · have hx0 : xs = [] := by simpa using hnil
    subst hx0
    cases ad with
    | some ad => exact key ad (by simp) hv2
    | none =>
      have hc0 := hn rfl
      subst hc0
      refine ⟨v, w, ?_, by simpa using h0', Below.refl _ _⟩
      rw [hv2]
      exact run_append_owned_none (P := P) w 0 t ty e i 1 ht hi v ys.length us how
  · exact key ⟨b, o', none⟩ (fun j u hu => by
      have e2 : (⟨b, o', none⟩ : Addr).add j = ⟨b, o' + j, none⟩ := by unfold Addr.add; split <;> simp_all
      rw [e2]
      exact hc j u hu) hv2
end Go.Sd
end

section
/-
  What reachSets keeps: sets with their words; the sets that were seen.
-/
namespace Go.Sd
open Go.RowKit Go.Deep
theorem Sep.one {α : Type} {R : OwnRel α} (hR : Held R) {lo : Nat} {w : World} {v : Value} {x : α} (h : New R lo w v x) : Sep lo w [Res.of R hR v x] := by
  obtain ⟨F, hF, hf⟩ := h
  exact ⟨F, ⟨F, [], by simp, hF, rfl⟩, hf⟩
theorem Sep.get {lo : Nat} {w : World} : ∀ {rs : List Res} {r : Res}, Sep lo w rs → r ∈ rs → ∃ G, r.p w G ∧ ∀ b, b ∈ G → lo ≤ b
  | [], r, _, hm => by cases hm
  | s :: rs, r, h, hm => by
    rcases List.mem_cons.1 hm with rfl | hm
    · obtain ⟨G, h1, h2, _⟩ := h.head
      exact ⟨G, h1, h2.2⟩
    · exact Sep.get h.tail hm
theorem Sep.getBox {lo : Nat} {w : World} {rs : List Res} {b : Nat} {vs : List Value} (h : Sep lo w rs) (hm : Res.box b vs ∈ rs) : lo ≤ b ∧ Cells w b vs := by
  obtain ⟨G, ⟨rfl, h1⟩, h2⟩ := h.get hm
  exact ⟨h2 b (by simp), h1⟩
theorem SepF.perm {w : World} {rs ss : List Res} (hp : rs.Perm ss) : ∀ {F : List Nat}, SepF w rs F → ∃ F', F'.Perm F ∧ SepF w ss F' := by
  induction hp with
  | nil => exact fun h => ⟨_, List.Perm.refl _, h⟩
  | cons r _ ih =>
    rintro F ⟨G, H, rfl, h1, h2⟩
    obtain ⟨H', hp, h3⟩ := ih h2
    exact ⟨G ++ H', hp.append_left G, G, H', rfl, h1, h3⟩
  | swap r s l =>
    rintro F ⟨G, H, rfl, h1, G2, H2, rfl, h2, h3⟩
    refine ⟨G2 ++ (G ++ H2), ?_, G2, _, rfl, h2, G, H2, rfl, h1, h3⟩
    rw [← List.append_assoc, ← List.append_assoc]
    exact List.Perm.append_right _ List.perm_append_comm
  | trans _ _ ih1 ih2 =>
    intro F h
    obtain ⟨F1, p1, h1⟩ := ih1 h
    obtain ⟨F2, p2, h2⟩ := ih2 h1
    exact ⟨F2, p2.trans p1, h2⟩
theorem Sep.perm {lo : Nat} {w : World} {rs ss : List Res} (h : Sep lo w rs) (hp : rs.Perm ss) : Sep lo w ss := by
  obtain ⟨F, h1, hn, hl⟩ := h
  obtain ⟨F', p, h2⟩ := h1.perm hp
  exact ⟨F', h2, p.nodup_iff.2 hn, fun b hb => hl b (p.mem_iff.1 hb)⟩
/-- A thing comes to the front; goes back. -/
theorem Sep.front {lo : Nat} {w : World} (a : List Res) {r : Res} {b : List Res} (h : Sep lo w (a ++ r :: b)) : Sep lo w (r :: (a ++ b)) := h.perm List.perm_middle
theorem Sep.back {lo : Nat} {w : World} (a : List Res) {r : Res} {b : List Res} (h : Sep lo w (r :: (a ++ b))) : Sep lo w (a ++ r :: b) := h.perm List.perm_middle.symm
theorem Sep.firstTwo {lo : Nat} {w : World} {r s : Res} {rs : List Res} (h : Sep lo w (r :: s :: rs)) : Sep lo w [r, s] := by
  obtain ⟨F, ⟨G, H, rfl, h1, G2, H2, rfl, h2, h3⟩, hn, hl⟩ := h
  have hnd := List.nodup_append.1 hn
  have hnd2 := List.nodup_append.1 hnd.2.1
  refine ⟨G ++ (G2 ++ []), ⟨G, _, rfl, h1, G2, [], rfl, h2, rfl⟩, ?_, fun b hb => hl b ?_⟩
  · rw [List.append_nil]
    exact List.nodup_append.2 ⟨hnd.1, hnd2.1, fun p hp q hq => hnd.2.2 p hp q (List.mem_append_left _ hq)⟩
  · rw [List.append_nil] at hb
    rcases List.mem_append.1 hb with h | h
    · exact List.mem_append_left _ h
    · exact List.mem_append_right _ (List.mem_append_left _ h)
/-- The first and another one share no block. -/
theorem Sep.headTwo {lo : Nat} {w : World} {r r' : Res} {rs : List Res} (h : Sep lo w (r :: rs)) (hm : r' ∈ rs) : ∃ G G', r.p w G ∧ r'.p w G' ∧ ∀ b, b ∈ G → b ∉ G' := by
  obtain ⟨F, ⟨G, H, rfl, h1, h2⟩, hn, hl⟩ := h
  have key : ∀ {ss : List Res} {H : List Nat}, SepF w ss H → r' ∈ ss → ∃ G', r'.p w G' ∧ ∀ b, b ∈ G' → b ∈ H := by
    intro ss
    induction ss with
    | nil => intro H _ hm; cases hm
    | cons s ss ih =>
      rintro H ⟨G1, H1, rfl, k1, k2⟩ hm
      rcases List.mem_cons.1 hm with rfl | hm
      · exact ⟨G1, k1, fun b hb => List.mem_append_left _ hb⟩
      · obtain ⟨G', k3, k4⟩ := ih k2 hm
        exact ⟨G', k3, fun b hb => List.mem_append_right _ (k4 b hb)⟩
  obtain ⟨G', k1, k2⟩ := key h2 hm
  exact ⟨G, G', h1, k1, fun b hb hb' => (List.nodup_append.1 hn).2.2 b hb b (k2 b hb') rfl⟩
/-- A letter as a byte. -/
def letV (x : Nat) : Value := .int .u8 (97 + (x : Int))
abbrev OWord (e : TypeId) : OwnRel (List Nat) := OwnOf e (OValR letV)
theorem OLet.kept : Kept (OValR letV) := ⟨fun _ _ _ _ _ h _ => h, fun _ _ _ _ h b hb => by rw [h.2] at hb; simp at hb, fun _ _ _ _ h => by rw [h.1]; rfl⟩
theorem OWord.reads {e : TypeId} {w : World} {v : Value} {xs : List Nat} {F : List Nat} (h : OWord e w v xs F) : SlOf (ValR letV) w v xs := OwnOf.reads (fun _ _ _ _ h => h.1) h
/-- A set with its word: two cells. -/
def EntR (e : TypeId) : OwnCells (Nat × List Nat) := fun w u x F => ∃ vw, u = [.int .i64 (x.1 : Int), vw] ∧ OWord e w vw x.2 F
theorem EntR.kept (e : TypeId) : KeptC 2 (EntR e) := by
  refine ⟨?_, ?_, ?_, ?_⟩
  · rintro w w' u x F ⟨vw, rfl, h⟩ hk
    exact ⟨vw, rfl, (OwnOf.kept OLet.kept).keep _ _ _ _ _ h hk⟩
  · rintro w u x F ⟨vw, rfl, h⟩ b hb
    exact (OwnOf.kept OLet.kept).lt _ _ _ _ h b hb
  · rintro w u x F ⟨vw, rfl, h⟩ y hy
    simp at hy
    rcases hy with rfl | rfl
    · rfl
    · exact (OwnOf.kept OLet.kept).one _ _ _ _ h
  · rintro w u x F ⟨vw, rfl, h⟩; rfl
end Go.Sd
namespace Go.Proofs.Ytdohepngandajaa
open Go.RowKit Go.Deep Go.Sd Go.Maps
theorem infoB8 : (Try.prog.info? 5).map (fun i => (i.zero, i.size, i.bytes)) = some (some (.int .u8 0), 1, 1) := by kernel_rfl
end Go.Proofs.Ytdohepngandajaa
end

section
/-
  ResolveLabels: names of sets, kept in a map.
-/
namespace Go.Proofs.Ytdohepngandajaa
open Go.RowKit Go.Deep Go.Sd Go.Maps
abbrev NumS := {s : Nat // domS s}
def namG (Z : List Nat) : Nat → Option NumS := fun t => if t ∈ Z then some ⟨Z.idxOf t % 9223372036854775808, Nat.mod_lt _ (by decide)⟩ else none
theorem idx_snoc {Z : List Nat} {t : Nat} (h : t ∉ Z) : (Z ++ [t]).idxOf t = Z.length := by
  rw [List.idxOf_append, if_neg h]; simp
theorem namG_add {Z : List Nat} {x : Nat} (hx : x ∉ Z) (hl : Z.length < 9223372036854775808) {d : ∀ x' : Nat, Decidable (x' = x)} : (fun x' => @ite _ (x' = x) (d x') (some (⟨Z.length, hl⟩ : NumS)) (namG Z x')) = namG (Z ++ [x]) := by
  funext x'
  unfold namG
  by_cases e : x' = x
  · subst e
    rw [if_pos rfl, if_pos (by simp)]
    congr 1
    apply Subtype.ext
    show Z.length = (Z ++ [x']).idxOf x' % _
    rw [idx_snoc hx, Nat.mod_eq_of_lt hl]
  · rw [if_neg e]
    by_cases h : x' ∈ Z
    · rw [if_pos h, if_pos (by simp [h])]
      congr 1
      apply Subtype.ext
      show Z.idxOf x' % _ = (Z ++ [x]).idxOf x' % _
      rw [List.idxOf_append, if_pos h]
    · rw [if_neg h, if_neg (by simp [h, e])]
theorem namG_nil : (fun _ : Nat => (none : Option NumS)) = namG [] := by funext x; simp [namG]
theorem mapK_nam : MapK Try.prog 3 3 domS (fun s : Nat => .int .i64 (s : Int)) (fun s => .int .i64 (s : Int)) (fun y : NumS => .int .i64 (y.1 : Int)) (fun y => .lit (.int .i64 (y.1 : Int))) := mapK_int Try.underlying3 Try.underlying3
noncomputable abbrev Res.nams (b n : Nat) (Z : List Nat) : Res := Res.map Try.prog 3 3 domS (fun s : Nat => .int .i64 (s : Int)) (fun y : NumS => .lit (.int .i64 (y.1 : Int))) b n (namG Z)
theorem zeroIn (w : World) : (zeroValue 3).run Try.prog w = .ok (.int .i64 0) w := by kernel_rfl
theorem wf0 : (Lit.int .i64 0).wf = true := wf_i64 (s := 0) (by unfold domS; omega)
theorem intElem_inv {v : Value} {ps : List MemPlace} (h : plainElem (H := Unit) Try.prog 3 v = some (.lit (.int .i64 0), ps)) : v = .int .i64 0 := by
  obtain ⟨a, rfl, h2, _⟩ := plainElem_int_inv Try.underlying3 h
  simp at h2
  rw [← h2.1]
open Classical in
theorem _root_.Go.Sd.Sep.namAdd {lo : Nat} {w : World} {rs : List Res} {b n : Nat} {Z : List Nat} (h : Sep lo w (Res.nams b n Z :: rs)) (hlo : lo ≤ w.heap.size) (hn : n ≤ 16777216) (x : Nat) (hx : domS x) (hxZ : x ∉ Z) (hl : Z.length ≤ 16777216) :
    ∃ w', (Instr.mapUpdate 88 (.map (some b)) (.int .i64 (x : Int)) (.int .i64 (Z.length : Int))).run Try.prog w = .ok () w' ∧ Sep lo w' (Res.nams b (n + 1) (Z ++ [x]) :: rs) ∧ Below lo w w' ∧ ∀ p : Addr, p.block < w.heap.size → p.block ≠ b → w'.cell? p = w.cell? p := by
  have hl2 : Z.length < 9223372036854775808 := by omega
  obtain ⟨w', hr, hs, hb, hk⟩ := h.mapStore mapK_nam hlo Try.underlying88 (by unfold maxLen; omega) x hx (⟨Z.length, hl2⟩ : NumS)
  refine ⟨w', hr, ?_, hb, hk⟩
  show Sep lo w' (Res.map Try.prog 3 3 domS (fun s : Nat => .int .i64 (s : Int)) (fun y : NumS => .lit (.int .i64 (y.1 : Int))) b (n + 1) (namG (Z ++ [x])) :: rs)
  rw [← namG_add hxZ hl2 (d := fun _ => Classical.propDecidable _)]
  exact hs
theorem _root_.Go.Sd.Sep.namGet {lo : Nat} {w : World} {rs : List Res} {b n : Nat} {Z : List Nat} (h : Sep lo w (Res.nams b n Z :: rs)) (x : Nat) (hx : domS x) (hxZ : x ∈ Z) (hl : Z.length ≤ 16777216) :
    (Instr.lookup 88 (.map (some b)) (.int .i64 (x : Int)) false).run Try.prog w = .ok (.int .i64 (Z.idxOf x : Int)) w ∧
    (Instr.lookup 88 (.map (some b)) (.int .i64 (x : Int)) true).run Try.prog w = .ok (.tuple #[.int .i64 (Z.idxOf x : Int), .bool true]) w := by
  have h1 := h.mapLook mapK_nam Try.underlying88 (zeroIn w) (plainElem_int Try.underlying3 wf0) (fun v ps h => intElem_inv h) x hx
  have h2 := h.mapLookOk mapK_nam Try.underlying88 (zeroIn w) (plainElem_int Try.underlying3 wf0) (fun v ps h => intElem_inv h) x hx
  have hi : Z.idxOf x % 9223372036854775808 = Z.idxOf x := Nat.mod_eq_of_lt (by have := List.idxOf_lt_length_of_mem hxZ; omega)
  rw [h1, h2]
  unfold namG
  simp only [if_pos hxZ, hi]
  exact ⟨trivial, rfl⟩
theorem _root_.Go.Sd.Sep.namNone {lo : Nat} {w : World} {rs : List Res} {b n : Nat} {Z : List Nat} (h : Sep lo w (Res.nams b n Z :: rs)) (x : Nat) (hx : domS x) (hxZ : x ∉ Z) :
    (Instr.lookup 88 (.map (some b)) (.int .i64 (x : Int)) true).run Try.prog w = .ok (.tuple #[.int .i64 0, .bool false]) w := by
  have h2 := h.mapLookOk mapK_nam Try.underlying88 (zeroIn w) (plainElem_int Try.underlying3 wf0) (fun v ps h => intElem_inv h) x hx
  rw [h2]
  unfold namG
  simp only [if_neg hxZ]
  rfl
end Go.Proofs.Ytdohepngandajaa
end
