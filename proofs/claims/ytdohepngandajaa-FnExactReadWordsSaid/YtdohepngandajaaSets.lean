/-
  The sets that are reached, and where each letter leads from each: the reference's l15Sets.
-/
import Derived.Test.YtdohepngandajaaRows
import Derived.Test.YtdohepngandajaaBase
import Derived.Test.YtdohepngandajaaHarn
import Derived.Test.YtdohepngandajaaLab
import Derived.Test.YtdohepngandajaaLabC
import Derived.Test.YtdohepngandajaaLabM
import Derived.Test.YtdohepngandajaaLabStep
import Derived.Test.YtdohepngandajaaReadFrom
import Derived.Test.YtdohepngandajaaBfsM
import Derived.Test.YtdohepngandajaaSep
import Derived.Test.YtdohepngandajaaWalkH
import Derived.Test.YtdohepngandajaaPairLib
import Derived.IntWalk
import Derived.Deep.RegionHeld3
import Derived.Deep.DeepCutAuto
namespace Go.Proofs.Ytdohepngandajaa
open Go.RowKit Go.Deep Go.Sd
set_option linter.unusedSimpArgs false
abbrev natL (xs : List Nat) : List Int := xs.map fun s : Nat => (s : Int)
theorem idx_at {sets : List Nat} (h : sets.Nodup) {i t : Nat} (hi : sets[i]? = some t) : sets.idxOf t = i := by
  obtain ⟨hl, e⟩ := List.getElem?_eq_some_iff.1 hi
  have hm : t ∈ sets := List.mem_of_getElem? hi
  have h1 : sets.idxOf t < sets.length := List.idxOf_lt_length_iff.2 hm
  have h2 : sets[sets.idxOf t] = t := List.getElem_idxOf h1
  rcases Nat.lt_trichotomy (sets.idxOf t) i with h3 | h3 | h3
  · exact absurd (h2.trans e.symm) (List.pairwise_iff_getElem.1 h _ _ h1 hl h3)
  · exact h3
  · exact absurd (e.trans h2.symm) (List.pairwise_iff_getElem.1 h _ _ hl h1 h3)
set_option maxHeartbeats 4000000 in
set_option maxRecDepth 100000 in
theorem l15Sets_c {w : World} {v : Value} {l : Lb} (h : LabR w v l) (ho : okArcs l.2.1 l.2.2) (hS1 : 1 ≤ l.2.1) (hS2 : l.2.1 ≤ 12) (hL1 : 1 ≤ l.1) (hL2 : l.1 ≤ 3) :
    Calls Try.prog 85 #[v] w fun e w' => ∃ r s, e = .returned (.tuple #[r, s]) ∧ Apart (OInts 3) (OTab 3 50) w.heap.size w' r (natL (bfsS l.2.2 l.1.toNat 4096 [allN l.2.1] 0 []).1) s (bfsS l.2.2 l.1.toNat 4096 [allN l.2.1] 0 []).2 ∧ Below w.heap.size w w' := by
  have Hfr := Lib.hid (fun w1 (hb : Below w.heap.size w w1) => LabR.frame _ _ _ _ h hb)
  obtain ⟨L, S, xs⟩ := l
  obtain ⟨_, rfl, -, a, c, rfl, -, -, -, -⟩ := h
  simp only at *
  generalize hn : xs.length = n at *
  clear hn
  obtain ⟨N, rfl⟩ := Int.eq_ofNat_of_zero_le (show 0 ≤ L by omega)
  obtain ⟨p, rfl⟩ := Int.eq_ofNat_of_zero_le (show 0 ≤ S by omega)
  rw [show (N : Int).toNat = N from rfl]
  obtain ⟨P, hP, hP1, hP2, hwp⟩ := shl_one p (by omega)
  obtain ⟨A, rfl⟩ : ∃ x, P = x + 1 := ⟨P - 1, by omega⟩
  have hA : allN (p : Int) = A := by unfold allN; rw [show (p : Int).toNat = p from rfl, hP]; rfl
  rw [hA]
  replace hwp : wrap64 (2 ^ p) = (A : Int) + 1 := by rw [hwp]; omega
  have hwA : wrap64 (A : Int) = (A : Int) := IntWalk.wrap64_in _ (by omega)
  have hA0 : 0 < A := by
    have : 2 ^ 1 ≤ 2 ^ p := Nat.pow_le_pow_right (by decide) (by omega)
    omega
  have HO := Lib.hid (show OkS [A] from ⟨by simp, fun s hs => by simp at hs; subst hs; omega⟩)
  have HSt := Lib.hid (fun w' (hb : Below w.heap.size w w') q (hq : q < 4096) x => spec_step_c (Hfr.out w' hb) ho hS2 hq x)
  have Hlt := Lib.hid (fun q x => stepN_lt ho hS2 q x)
  simp only at HSt Hlt
  obtain ⟨T, hT⟩ : ∃ T, T = bfsS xs N 4096 [A] 0 [] := ⟨_, rfl⟩
  rw [← hT]
  have HT := Lib.hid hT.symm
  clear hT
  have hp1 : p < 64 := by omega
  have hN3 : N ≤ 3 := by omega
  clear hP hA ho hS1 hS2 hL1 hL2 hP1 hP2 hA0 Hfr
  obtain ⟨w1, ex, hb1, c0, c1, c2, m1⟩ := boxA3_ex w 28 (.int .i64 (N : Int)) (.int .i64 (p : Int)) (.slice a n c)
  have A1 := Lib.hid hb1
  clear hb1
  go_enter Try.func85, Try.ntmps85
  go_wp2
  clear hwp hwA hp1 ex
  obtain ⟨w3, e3⟩ : ∃ x, x = ((w1.alloc (.cells #[.int .i64 (A : Int)] 3)).alloc (.cells #[] 50)) := ⟨_, rfl⟩
  rw [← e3]
  have HS0 := Lib.hid (show Sep w1.heap.size w3 [Res.ints 3 (.slice (some ⟨w1.heap.size, 0, none⟩) 1 1) (natL [A]), Res.of (OTab 3 50) (OTab.kept _ _).held (.slice (some ⟨w1.heap.size + 1, 0, none⟩) 0 0) []] from by
    have h1 := (Sep.nil w1.heap.size w1).new (OInts.kept 3).held ((Below.refl _ _).alloc (Nat.le_refl _) _) (Nat.le_refl _) (New.oneInt (e := 3) w1 (A : Int))
    have hz : (w1.alloc (.cells #[.int .i64 (A : Int)] 3)).heap.size = w1.heap.size + 1 := by simp
    have h2 := h1.new (OTab.kept 3 50).held ((Below.refl _ _).alloc (Nat.le_refl _) _) (by simp) (New.empty (e := 50) (R := OInts 3) (w1.alloc (.cells #[.int .i64 (A : Int)] 3)) (Nat.le_refl _))
    rw [hz, ← e3] at h2
    exact h2.swap)
  have HB0 := Lib.hid (show Below w1.heap.size w1 w3 from by rw [e3]; exact ((Below.refl _ _).alloc (Nat.le_refl _) _).alloc (by simp) _)
  have K0 := Lib.hid c0
  have K1 := Lib.hid c1
  have K2 := Lib.hid c2
  clear e3 c0 c1 c2
  go_loopg [4, 5, 6] 4096 (fun g vs vn i wr => ∃ (k : Nat) (sets : List Nat) (next : List (List Int)) (la na : Option Addr) (lc nc : Nat), vs = .slice la sets.length lc ∧ vn = .slice na next.length nc ∧ i = .int .i64 k ∧ k + g = 4096 ∧ next.length = k ∧ Hid (OkS sets) ∧ Hid (bfsS xs N g sets k next = T) ∧ Hid (Sep w1.heap.size wr [Res.ints 3 vs (natL sets), Res.of (OTab 3 50) (OTab.kept _ _).held vn next]) ∧ Hid (Below w1.heap.size w1 wr))
  case atStart => exact ⟨0, [A], [], _, _, _, _, rfl, rfl, rfl, by omega, rfl, HO, HT, HS0, HB0⟩
  case round =>
    clear HO HT HS0 HB0
    obtain ⟨k, sets, next, la, na, lc, nc, rfl, rfl, rfl, hk, hnk, HO, HT, HS, HB⟩ := hrel
    have Hl := Lib.hid HO.out.len
    by_cases hlt : k < sets.length
    · obtain ⟨s, hs, _⟩ := at_lt hlt
      obtain ⟨wq, rfl⟩ : ∃ x, x = wr := ⟨_, rfl⟩
      have hl := Hl.out
      have hz := HB.out.size
      obtain ⟨g, rfl⟩ : ∃ x, gk = x + 1 := ⟨gk - 1, by omega⟩
      have HT2 := Lib.hid (show bfsS xs N g (rowS xs s N 0 sets []).1 (k + 1) (next ++ [(rowS xs s N 0 sets []).2]) = T from by have h := HT.out; unfold bfsS at h; rw [hs] at h; exact h)
      have Hs := Lib.hid hs
      have HS2 := Lib.hid ((HS.out.new (OInts.kept 3).held ((Below.refl _ _).alloc (Nat.le_refl _) _) hz (New.empty (e := 3) (R := OIntR) wq (Nat.le_refl _))).swap)
      have HB2 := Lib.hid (HB.out.alloc hz (.cells #[] 3))
      have hki : (k : Int) < (sets.length : Int) := by omega
      obtain ⟨w2, e2⟩ : ∃ x, x = wq.alloc (.cells #[] 3) := ⟨_, rfl⟩
      rw [← e2] at HS2 HB2
      have e2s := e2.symm
      have Hnk := Lib.hid hnk
      clear HT HS HB hs e2 hnk
      go_wp2
      clear e2s
      go_loopg [4, 7, 8] N (fun g2 vs vr i wx => ∃ (x : Nat) (sets : List Nat) (row : List Int) (la ra : Option Addr) (lc rc : Nat), vs = .slice la sets.length lc ∧ vr = .slice ra row.length rc ∧ i = .int .i64 x ∧ x + g2 = N ∧ row.length = x ∧ k < sets.length ∧ Hid (OkS sets) ∧ Hid (sets[k]? = some s) ∧ Hid (bfsS xs N g (rowS xs s g2 x sets row).1 (k + 1) (next ++ [(rowS xs s g2 x sets row).2]) = T) ∧ Hid (Sep w1.heap.size wx [Res.ints 3 vs (natL sets), Res.ints 3 vr row, Res.of (OTab 3 50) (OTab.kept _ _).held (.slice na next.length nc) next]) ∧ Hid (Below w1.heap.size w1 wx))
      case atStart => exact ⟨0, sets, [], _, _, _, _, rfl, rfl, rfl, by omega, rfl, hlt, HO, Hs, HT2, HS2, HB2⟩
      case round =>
        clear HO Hs HT2 HS2 HB2 Hl hl hlt hki hz
        obtain ⟨x, sets, row, la, ra, lc, rc, rfl, rfl, rfl, hx, hrow, hlt, HO, Hs, HT2, HS, HB⟩ := hrel
        obtain ⟨wx, rfl⟩ : ∃ x, x = wr := ⟨_, rfl⟩
        have Hl := Lib.hid HO.out.len
        have xc0 := (HB.out.cell (p := ⟨w.heap.size, 0, none⟩) m1).trans K0.out
        have xc1 := (HB.out.cell (p := ⟨w.heap.size, 1, none⟩) m1).trans K1.out
        have xc2 := (HB.out.cell (p := ⟨w.heap.size, 2, none⟩) m1).trans K2.out
        have hz := HB.out.size
        by_cases hxl : x < N
        · obtain ⟨g2, hg2⟩ : ∃ y, gk = y + 1 := ⟨gk - 1, by omega⟩
          subst hg2
          obtain ⟨_, _, hv, _, hq⟩ := HS.out.intsAt
          obtain ⟨bl, e1, hbl, hcl⟩ := hq (by simp; omega)
          simp at hv
          obtain ⟨rfl, rfl⟩ := hv
          subst e1
          have f0 := hcl k (s : Int) (by simp [Hs.out])
          have Hcl := Lib.hid hcl
          have hs4 := (HO.out.2 s (List.mem_of_getElem? Hs.out)).2
          have HA := Lib.hid (A1.out.trans (HB.out.mono A1.out.size))
          have C1 := Lib.hid (fun w' (hb : Below w.heap.size w w') => HSt.out w' hb s hs4 (x : Int))
          have Htl := Lib.hid (Hlt.out s (x : Int))
          have HTx := Lib.hid (show bfsS xs N g (rowS xs s g2 (x + 1) (addS sets (stepN xs s (x : Int))) (row ++ [posS sets (stepN xs s (x : Int))])).1 (k + 1) (next ++ [(rowS xs s g2 (x + 1) (addS sets (stepN xs s (x : Int))) (row ++ [posS sets (stepN xs s (x : Int))])).2]) = T from HT2.out)
          generalize stepN xs s (x : Int) = t at C1 Htl HTx
          have hkl : (k : Int) < (sets.length : Int) := by omega
          have hxN : (x : Int) < (N : Int) := by omega
          have hS0 : wx.cell? ⟨w.heap.size, 0, none⟩ = some (.int .i64 (N : Int)) ∧ wx.cell? ⟨w.heap.size, 1, none⟩ = some (.int .i64 (p : Int)) ∧ wx.cell? ⟨w.heap.size, 2, none⟩ = some (.slice a n c) ∧ wx.cell? ⟨bl, k, none⟩ = some (.int .i64 (s : Int)) := ⟨xc0, xc1, xc2, f0⟩
          have hSd : wx.drew.cell? ⟨w.heap.size, 0, none⟩ = some (.int .i64 (N : Int)) ∧ wx.drew.cell? ⟨w.heap.size, 1, none⟩ = some (.int .i64 (p : Int)) ∧ wx.drew.cell? ⟨w.heap.size, 2, none⟩ = some (.slice a n c) ∧ wx.drew.cell? ⟨bl, k, none⟩ = some (.int .i64 (s : Int)) := hS0
          have m1x : w.heap.size < wx.heap.size := Nat.lt_of_lt_of_le m1 hz
          have HSS := Lib.hid (fun (w' : World) (hb3 : Below wx.heap.size wx w') => (show w'.cell? ⟨w.heap.size, 0, none⟩ = some (.int .i64 (N : Int)) ∧ w'.cell? ⟨w.heap.size, 1, none⟩ = some (.int .i64 (p : Int)) ∧ w'.cell? ⟨w.heap.size, 2, none⟩ = some (.slice a n c) ∧ w'.cell? ⟨bl, k, none⟩ = some (.int .i64 (s : Int)) from ⟨(hb3.cell (p := ⟨w.heap.size, 0, none⟩) m1x).trans hS0.1, (hb3.cell (p := ⟨w.heap.size, 1, none⟩) m1x).trans hS0.2.1, (hb3.cell (p := ⟨w.heap.size, 2, none⟩) m1x).trans hS0.2.2.1, (hb3.cell (p := ⟨bl, k, none⟩) hbl).trans hS0.2.2.2⟩))
          have B1 := (Below.refl wx.heap.size wx).drew
          have HA1 := HA.out.trans (B1.mono HA.out.size)
          clear hcl hq HT2 f0 xc1 xc2 hs4
          go_wp2
          go_region_held3 (fun w' => w'.cell? ⟨w.heap.size, 0, none⟩ = some (.int .i64 (N : Int)) ∧ w'.cell? ⟨w.heap.size, 1, none⟩ = some (.int .i64 (p : Int)) ∧ w'.cell? ⟨w.heap.size, 2, none⟩ = some (.slice a n c) ∧ w'.cell? ⟨bl, k, none⟩ = some (.int .i64 (s : Int)))
            (first | with_reducible exact hS1 | with_reducible exact hSd | with_reducible exact hS0 | go_keep)
            ((first
              | (go_at_call 148; (with_reducible refine (C1.out _ HA1).mono ?_); rintro e w4 ⟨rfl, hb2⟩; have hb3 := B1.trans hb2; have hS1 := HSS.out w4 hb3; clear hb2)
              | fail))
          clear hS0 hSd HSS B1 HA1 hS1 xc0
          have H34 := Lib.hid hb3
          have hz4 := hb3.size
          have HS4 := Lib.hid (HS.out.below hb3 (Nat.le_refl _))
          have HB4 := Lib.hid (HB.out.trans (hb3.mono hz))
          have Hk := Lib.hid (fun (i z : Nat) (hi : sets[i]? = some z) => (show w4.cell? ⟨bl, i, none⟩ = some (.int .i64 (z : Int)) from (H34.out.cell (p := ⟨bl, i, none⟩) hbl).trans (Hcl.out i (z : Int) (by simp [hi]))))
          have hbl4 : bl < w4.heap.size := by omega
          have hz14 : w1.heap.size ≤ w4.heap.size := by omega
          clear HS HB H34 Hcl hbl hb3 HA C1 hz4
          have hl := Hl.out
          by_cases ht0 : t = 0
          · subst ht0
            have HTy := Lib.hid (show bfsS xs N g (rowS xs s g2 (x + 1) sets (row ++ [-1])).1 (k + 1) (next ++ [(rowS xs s g2 (x + 1) sets (row ++ [-1])).2]) = T from by have h := HTx.out; rw [show addS sets 0 = sets from by unfold addS; rw [if_pos (Or.inl rfl)], show posS sets 0 = -1 from rfl] at h; exact h)
            obtain ⟨ra', rc', w9, hr9, hs9, hb9⟩ := HS4.out.swap.pushInt (P := Try.prog) 50 50 Try.underlying50 infoI (by omega) (-1) (by omega) 3
            have e9 : (row ++ [(-1)]).length = x + 1 := by simp [hrow]
            rw [e9] at hr9 hs9
            have HS9 := Lib.hid hs9.swap
            have HB9 := Lib.hid (HB4.out.trans hb9)
            have Hr9 := Lib.hid hr9
            have E9 := Lib.hid e9
            rw [hrow] at Hr9
            clear hr9 hs9 hb9 e9
            clear HTx Hk HS4 HB4
            go_wp2
            go_loopg [10, 11] 0 (fun g3 va i wy => va = .int .i64 (-1) ∧ i = .int .i64 0 ∧ w4 = wy)
            case atStart => exact ⟨rfl, rfl, rfl⟩
            case round =>
              obtain ⟨rfl, rfl, rfl⟩ := hrel
              go_wp2_with (first
                | (at_builtin; refine wpl_append_run rfl (.tmp 68) (.tmp 70) 50 rfl rfl rfl Hr9.out ?_)
                | fail)
              go_roundg (N - (x + 1))
              case measure => omega
              case rel => exact ⟨x + 1, sets, row ++ [-1], _, _, _, _, rfl, by rw [E9.out], by go_num, by omega, E9.out, hlt, HO, Hs, by rw [show N - (x + 1) = g2 by omega]; exact HTy, HS9, HB9⟩
          · have ht1 : 0 < t := by omega
            have ht2 : (0 : Int) < (t : Int) := by omega
            go_wp2
            go_loopg [10, 11] sets.length (fun g3 va i wy => ∃ (j : Nat) (q : Int), va = .int .i64 q ∧ i = .int .i64 j ∧ j + g3 = sets.length ∧ Hid (q = if t ∈ sets.take j then (sets.idxOf t : Int) else -1) ∧ w4 = wy)
            case atStart => exact ⟨0, -1, rfl, rfl, by omega, Lib.hid (by simp), rfl⟩
            case round =>
              obtain ⟨j, q, rfl, rfl, hj, HK, rfl⟩ := hrel
              by_cases hjl : j < sets.length
              · obtain ⟨z, hzz, _⟩ := at_lt hjl
                have g0 := Hk.out j z hzz
                have HTk := Lib.hid (show sets.take (j + 1) = sets.take j ++ [z] from (take_snoc' hzz).symm)
                have Hzz := Lib.hid hzz
                have hji : (j : Int) < (sets.length : Int) := by omega
                clear hzz
                by_cases q1 : z = t
                · subst q1
                  have t1 : ((z : Int) == (z : Int)) = true := by simp
                  go_wp2
                  go_roundg (sets.length - (j + 1))
                  case measure => omega
                  case rel => exact ⟨j + 1, (j : Int), rfl, by go_num, by omega, Lib.hid (by rw [HTk.out, if_pos (by simp), idx_at HO.out.1 Hzz.out]), rfl⟩
                · have t1 : ((z : Int) == (t : Int)) = false := by simp; omega
                  have HK2 := Lib.hid (show q = if t ∈ sets.take (j + 1) then (sets.idxOf t : Int) else -1 from by rw [HK.out, HTk.out]; have e : (t ∈ sets.take j ++ [z]) ↔ t ∈ sets.take j := (by simp; intro e; exact absurd e.symm q1); simp only [e])
                  clear HK
                  go_wp2
                  go_roundg (sets.length - (j + 1))
                  case measure => omega
                  case rel => exact ⟨j + 1, q, rfl, by go_num, by omega, HK2, rfl⟩
              · have hje : j = sets.length := by omega
                have HK2 := Lib.hid (show q = if t ∈ sets then (sets.idxOf t : Int) else -1 from by rw [HK.out, hje, List.take_of_length_le (Nat.le_refl _)])
                have hji : ¬ ((j : Int) < (sets.length : Int)) := by omega
                clear HK Hk hj hje hjl
                by_cases hm : t ∈ sets
                · have hq : q = (sets.idxOf t : Int) := by rw [HK2.out, if_pos hm]
                  have hq0 : ¬ (q < 0) := by omega
                  have HTy := Lib.hid (show bfsS xs N g (rowS xs s g2 (x + 1) sets (row ++ [q])).1 (k + 1) (next ++ [(rowS xs s g2 (x + 1) sets (row ++ [q])).2]) = T from by have h := HTx.out; rw [show addS sets t = sets from (by unfold addS; rw [if_pos (Or.inr hm)]), show posS sets t = q from (by unfold posS; rw [if_neg ht0, hq])] at h; exact h)
                  obtain ⟨ra', rc', w9, hr9, hs9, hb9⟩ := HS4.out.swap.pushInt (P := Try.prog) 50 50 Try.underlying50 infoI (by omega) q (by omega) 3
                  have e9 : (row ++ [q]).length = x + 1 := by simp [hrow]
                  rw [e9] at hr9 hs9
                  have HS9 := Lib.hid hs9.swap
                  have HB9 := Lib.hid (HB4.out.trans hb9)
                  have Hr9 := Lib.hid hr9
                  have E9 := Lib.hid e9
                  rw [hrow] at Hr9
                  clear hr9 hs9 hb9 e9
                  clear HTx HS4 HB4 HK2 hq hm
                  go_wp2_with (first
                    | (at_builtin; refine wpl_append_run rfl (.tmp 68) (.tmp 70) 50 rfl rfl rfl Hr9.out ?_)
                    | fail)
                  go_roundg (N - (x + 1))
                  case measure => omega
                  case rel => exact ⟨x + 1, sets, row ++ [q], _, _, _, _, rfl, by rw [E9.out], by go_num, by omega, E9.out, hlt, HO, Hs, by rw [show N - (x + 1) = g2 by omega]; exact HTy, HS9, HB9⟩
                · have hq : q = -1 := by rw [HK2.out, if_neg hm]
                  subst hq
                  have HTy := Lib.hid (show bfsS xs N g (rowS xs s g2 (x + 1) (sets ++ [t]) (row ++ [(sets.length : Int)])).1 (k + 1) (next ++ [(rowS xs s g2 (x + 1) (sets ++ [t]) (row ++ [(sets.length : Int)])).2]) = T from by have h := HTx.out; rw [show addS sets t = sets ++ [t] from (by unfold addS; rw [if_neg (by simp [ht0, hm])]), show posS sets t = (sets.length : Int) from (by unfold posS; rw [if_neg ht0, List.idxOf_eq_length hm])] at h; exact h)
                  have HO2 := Lib.hid (show OkS (sets ++ [t]) from by have h := HO.out.add Htl.out; rwa [show addS sets t = sets ++ [t] from (by unfold addS; rw [if_neg (by simp [ht0, hm])])] at h)
                  obtain ⟨la', lc', w8, hr8, hs8, hb8⟩ := HS4.out.pushInt (P := Try.prog) 50 50 Try.underlying50 infoI hz14 (t : Int) (by simp; omega) 3
                  have e8 : natL sets ++ [(t : Int)] = natL (sets ++ [t]) := by simp
                  have e8' : (natL (sets ++ [t])).length = sets.length + 1 := by simp
                  rw [e8, e8'] at hr8 hs8
                  have HS8 := Lib.hid hs8
                  have HB8 := Lib.hid (HB4.out.trans hb8)
                  have hz8 := hb8.size
                  have Hr8 := Lib.hid hr8
                  have Hs2 := Lib.hid (show (sets ++ [t])[k]? = some s from by rw [List.getElem?_append_left hlt]; exact Hs.out)
                  have Hlt2 := Lib.hid (show k < (sets ++ [t]).length from by simp; omega)
                  have E8 := Lib.hid (show (sets ++ [t]).length = sets.length + 1 from by simp)
                  clear hs8 hb8 hr8 e8 e8'
                  obtain ⟨ra', rc', w9, hr9, hs9, hb9⟩ := HS8.out.swap.pushInt (P := Try.prog) 50 50 Try.underlying50 infoI (by omega) (sets.length : Int) (by omega) 3
                  have e9 : (row ++ [(sets.length : Int)]).length = x + 1 := by simp [hrow]
                  rw [e9] at hr9 hs9
                  have HS9 := Lib.hid hs9.swap
                  have HB9 := Lib.hid (HB8.out.trans hb9)
                  have Hr9 := Lib.hid hr9
                  have E9 := Lib.hid e9
                  rw [hrow] at Hr9
                  clear hr9 hs9 hb9 e9
                  clear HTx HS4 HB4 HK2 hm HS8 HB8
                  go_wp2_with (first
                    | (at_builtin; refine wpl_append_run rfl (.tmp 64) (.tmp 66) 50 rfl rfl rfl Hr8.out ?_)
                    | (at_builtin; refine wpl_append_run rfl (.tmp 68) (.tmp 70) 50 rfl rfl rfl Hr9.out ?_)
                    | fail)
                  go_roundg (N - (x + 1))
                  case measure => omega
                  case rel => exact ⟨x + 1, sets ++ [t], row ++ [(sets.length : Int)], _, _, _, _, by rw [E8.out], by rw [E9.out], by go_num, by omega, E9.out, Hlt2.out, HO2, Hs2, by rw [show N - (x + 1) = g2 by omega]; exact HTy, HS9, HB9⟩
        · have hg : gk = 0 := by omega
          have HTy := Lib.hid (show bfsS xs N g sets (k + 1) (next ++ [row]) = T from by have h := HT2.out; rw [hg] at h; exact h)
          have hxi : ¬ ((x : Int) < (N : Int)) := by omega
          have hl := Hl.out
          have hnk := Hnk.out
          obtain ⟨v', w6, hr6, hs6, hb6⟩ := HS.out.third.swap23.absorb (P := Try.prog) (OInts.kept 3) 41 41 (.slice none 0 0) 24 Try.underlying41 infoR rfl hz (w1 := wx.alloc (.cells #[.slice ra row.length rc] 50)) ((Below.refl _ _).alloc (Nat.le_refl _) _) (bb := wx.heap.size) (c := 1) (World.cell?_alloc_at _ _ _ 0 rfl) (by omega) (by omega)
          obtain ⟨na', nc', ev, _⟩ := (New.tab hs6.headNew).shape
          rw [ev] at hr6 hs6
          have e6 : (next ++ [row]).length = k + 1 := by simp; exact Hnk.out
          rw [e6] at hr6 hs6
          have HS6 := Lib.hid hs6.swap
          have HB6 := Lib.hid (HB.out.trans hb6)
          rw [hrow] at hr6 ⊢
          have Hr6 := Lib.hid hr6
          clear hrow
          have E6 := Lib.hid e6
          clear hnk hr6 hs6 hb6 ev e6 HS HB HT2 xc1 xc2
          go_wp2_with (first
            | (at_builtin; refine wpl_append_run rfl (.tmp 72) (.tmp 74) 41 rfl rfl rfl Hr6.out ?_)
            | fail)
          go_roundg g
          case measure => omega
          case rel => exact ⟨k + 1, sets, next ++ [row], _, _, _, _, rfl, by rw [E6.out], by go_num, by omega, E6.out, HO, HTy, HS6, HB6⟩
    · have HF := Lib.hid (show T = (sets, next) from by
        rw [← HT.out]
        cases gk with
        | zero => rfl
        | succ g => unfold bfsS; rw [List.getElem?_eq_none (by omega)])
      have Hz := Lib.hid (A1.out.trans (HB.out.mono A1.out.size))
      have hki : ¬ ((k : Int) < (sets.length : Int)) := by omega
      have HP := Lib.hid HS.out
      have hz := A1.out.size
      clear HS HB HT hnk
      go_wp2
      go_ret2
      refine ⟨_, _, rfl, ?_, Hz.out⟩
      rw [HF.out]
      exact (HP.out.apart).mono hz
end Go.Proofs.Ytdohepngandajaa
