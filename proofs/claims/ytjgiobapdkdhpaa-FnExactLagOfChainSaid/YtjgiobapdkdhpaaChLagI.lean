/-
  LagOfChain, the program's.
-/
import Derived.Test.YtjgiobapdkdhpaaRows
import Derived.Test.YtjgiobapdkdhpaaBase
import Derived.Test.YtjgiobapdkdhpaaTabs
import Derived.Test.YtjgiobapdkdhpaaHarn
import Derived.Test.YtjgiobapdkdhpaaZero
import Derived.Test.YtjgiobapdkdhpaaTable
import Derived.Test.YtjgiobapdkdhpaaMoeb
import Derived.Test.YtjgiobapdkdhpaaStepH
import Derived.Test.YtjgiobapdkdhpaaStps
import Derived.Test.YtjgiobapdkdhpaaChain
import Derived.Test.YtjgiobapdkdhpaaFindN
import Derived.Test.YtjgiobapdkdhpaaChLagM
import Derived.Test.YtjgiobapdkdhpaaBoxKit
import Derived.WalkSpells
import Derived.IntWalk
import Derived.Deep.RegionHeld3
import Derived.Deep.DeepCutAuto
namespace Go.Proofs.Ytjgiobapdkdhpaa
open Go.RowKit Go.Deep Go.Sd

set_option maxHeartbeats 4000000 in
set_option maxRecDepth 10000 in
theorem impl_LagOfChain_c {w : World} {v1 v2 : Value} {ts : List Tb} {xs : List (Tb × Tb)} (h1 : Tabs w v1 ts) (h2 : StpsR w v2 xs) :
    Calls Try.prog 36 #[v1, v2] w (Makes2 (OStep 3 78) w (found (lagC ts xs)) (lagC ts xs).isSome) := by
  have HV := Lib.hid (show lagC ts xs = if chainM ts xs = true ∧ 1 ≤ xs.length ∧ xs.length ≤ 5 then lagFold (xs.drop 1) (xs.getD 0 ([], [])) else none from rfl)
  have HC := Lib.hid (fun w1 (hb : Below w.heap.size w w1) => impl_IsChain_c (Tabs.frame _ _ _ _ h1 hb) (StpsR.frame _ _ _ _ h2 hb))
  have HS := Lib.hid (fun (hc : chainM ts xs = true) k x (hx : xs[k]? = some x) => chainM_sm hc hx)
  have H2 := Lib.hid h2
  generalize lagC ts xs = V at HV ⊢
  generalize chainM ts xs = ch at *
  obtain ⟨ta, tc, rfl, _, _, _⟩ := h1.shape
  obtain ⟨hlx, a, c, rfl, hlc, hcb, _, hcell⟩ := h2
  clear h1
  obtain ⟨n, hn⟩ : ∃ n, n = xs.length := ⟨_, rfl⟩
  rw [← hn] at HV hcell hlx hlc HC H2 ⊢
  have Hn := Lib.hid hn
  clear hn H2
  go_enter Try.func36, Try.ntmps36
  go_wp2_with fail
  have fz0 : (w.alloc (.cells #[.slice none 0 0, .slice none 0 0] 38)).frozen? ⟨w.heap.size, 0, none⟩ = false := by simp [go_sem]
  have fz1 : (w.alloc (.cells #[.slice none 0 0, .slice none 0 0] 38)).frozen? ⟨w.heap.size, 1, none⟩ = false := by simp [go_sem]
  obtain ⟨w0, ex, A0, c0, c1, m1⟩ := boxA_ex w 38 (.slice none 0 0) (.slice none 0 0)
  rw [ex] at fz0 fz1
  change Calls Try.prog _ _ (w.alloc (.cells #[.slice none 0 0, .slice none 0 0] 38)) _
  rw [ex]
  clear ex
  refine (HC.out _ A0).mono ?_
  rintro e w1 ⟨rfl, hb1⟩
  replace c0 := (hb1.cell (p := ⟨w.heap.size, 0, none⟩) m1).trans c0
  replace c1 := (hb1.cell (p := ⟨w.heap.size, 1, none⟩) m1).trans c1
  replace fz0 := (hb1.frozen (p := ⟨w.heap.size, 0, none⟩) m1).trans fz0
  replace fz1 := (hb1.frozen (p := ⟨w.heap.size, 1, none⟩) m1).trans fz1
  have A1 := Lib.hid (A0.trans (hb1.mono A0.size))
  have hz1 := hb1.size
  replace m1 := Nat.lt_of_lt_of_le m1 hz1
  clear hb1 A0 HC
  cases ch with
  | false =>
    have HK := Lib.hid (show V = none from by rw [HV.out, if_neg (by simp)])
    clear HV HS hcell
    go_wp2
    have r0 := World.cell?_setCell_same w1 _ (.slice none 0 0) c0
    have s1 : ((w1.setCell ⟨w.heap.size, 0, none⟩ (.slice none 0 0)).cell? ⟨w.heap.size, 1, none⟩) = some (.slice none 0 0) := (World.cell?_setCell_other _ _ _ _ (by simp)).trans c1
    have r1 := World.cell?_setCell_same _ _ (.slice none 0 0) s1
    refine bodyPost_ret (v := .tuple #[.agg #[.slice none 0 0, .slice none 0 0], .bool false]) (by simp [results, Try.results36, go_sem, r0, r1]) rfl ?_
    exact ⟨_, by rw [HK.out]; rfl, by rw [HK.out]; exact New.none2 (by simp; have := (A1.out).size; omega), ((A1.out).setCell (p := ⟨w.heap.size, 0, none⟩) (Nat.le_refl _) _).setCell (p := ⟨w.heap.size, 1, none⟩) (Nat.le_refl _) _⟩
  | true =>
  by_cases hn1 : n < 1
  · have HK := Lib.hid (show V = none from by rw [HV.out, if_neg (by omega)])
    clear HV HS hcell
    go_wp2
    have r0 := World.cell?_setCell_same w1 _ (.slice none 0 0) c0
    have s1 : ((w1.setCell ⟨w.heap.size, 0, none⟩ (.slice none 0 0)).cell? ⟨w.heap.size, 1, none⟩) = some (.slice none 0 0) := (World.cell?_setCell_other _ _ _ _ (by simp)).trans c1
    have r1 := World.cell?_setCell_same _ _ (.slice none 0 0) s1
    refine bodyPost_ret (v := .tuple #[.agg #[.slice none 0 0, .slice none 0 0], .bool false]) (by simp [results, Try.results36, go_sem, r0, r1]) rfl ?_
    exact ⟨_, by rw [HK.out]; rfl, by rw [HK.out]; exact New.none2 (by simp; have := (A1.out).size; omega), ((A1.out).setCell (p := ⟨w.heap.size, 0, none⟩) (Nat.le_refl _) _).setCell (p := ⟨w.heap.size, 1, none⟩) (Nat.le_refl _) _⟩
  by_cases hn5 : 5 < n
  · have HK := Lib.hid (show V = none from by rw [HV.out, if_neg (by omega)])
    clear HV HS hcell
    go_wp2
    have r0 := World.cell?_setCell_same w1 _ (.slice none 0 0) c0
    have s1 : ((w1.setCell ⟨w.heap.size, 0, none⟩ (.slice none 0 0)).cell? ⟨w.heap.size, 1, none⟩) = some (.slice none 0 0) := (World.cell?_setCell_other _ _ _ _ (by simp)).trans c1
    have r1 := World.cell?_setCell_same _ _ (.slice none 0 0) s1
    refine bodyPost_ret (v := .tuple #[.agg #[.slice none 0 0, .slice none 0 0], .bool false]) (by simp [results, Try.results36, go_sem, r0, r1]) rfl ?_
    exact ⟨_, by rw [HK.out]; rfl, by rw [HK.out]; exact New.none2 (by simp; have := (A1.out).size; omega), ((A1.out).setCell (p := ⟨w.heap.size, 0, none⟩) (Nat.le_refl _) _).setCell (p := ⟨w.heap.size, 1, none⟩) (Nat.le_refl _) _⟩
  obtain ⟨b, o, rfl, hb, hx0⟩ := hcell (by omega)
  clear hcell
  obtain ⟨x0, hx0e, _⟩ := at_lt (xs := xs) (k := 0) (by have := Hn.out; omega)
  have HVV := Lib.hid (show V = lagFold (xs.drop 1) x0 from by rw [HV.out, if_pos ⟨rfl, by omega, by omega⟩]; simp [List.getD, hx0e])
  clear HV
  obtain ⟨y1, y2, f0, f1, s1, s2⟩ := hx0 0 x0 hx0e
  have hsm := (HS.out rfl 0 x0 hx0e).sz
  clear hx0e
  rw [Nat.zero_mul, Nat.add_zero] at f0 f1
  have Hx0 := Lib.hid hx0
  clear hx0
  have C1 := Lib.hid (fun wz (hz : Below w.heap.size w wz) => copied_c (Tab.frame _ _ _ _ s1 hz) hsm.1.1 hsm.1.2)
  have C2 := Lib.hid (fun wz (hz : Below w.heap.size w wz) => copied_c (Tab.frame _ _ _ _ s2 hz) hsm.2.1 hsm.2.2)
  obtain ⟨q1, qn1, qc1, rfl⟩ : ∃ a n c, y1 = .slice a n c := by obtain ⟨a, c, e, _⟩ := s1.shape; exact ⟨_, _, _, e⟩
  obtain ⟨q2, qn2, qc2, rfl⟩ : ∃ a n c, y2 = .slice a n c := by obtain ⟨a, c, e, _⟩ := s2.shape; exact ⟨_, _, _, e⟩
  have g0 : w1.cell? ⟨b, o, none⟩ = some (.slice q1 qn1 qc1) := (A1.out.cell (p := ⟨b, o, none⟩) hb).trans f0
  have g1 : w1.cell? ⟨b, o + 1, none⟩ = some (.slice q2 qn2 qc2) := (A1.out.cell (p := ⟨b, o + 1, none⟩) hb).trans f1
  have hbw : b < w1.heap.size := Nat.lt_of_lt_of_le hb A1.out.size
  clear f0 f1 s1 s2 hsm
  have hn0' : (0 : Int) < (n : Int) := by omega
  have hn0N : 0 < n := by omega
  have hn1I : ¬ (n : Int) < 1 := by omega
  have hn5I : ¬ (5 : Int) < (n : Int) := by omega
  go_wp2
  have hS0 : w1.cell? ⟨b, o, none⟩ = some (.slice q1 qn1 qc1) ∧ w1.cell? ⟨b, o + 1, none⟩ = some (.slice q2 qn2 qc2) := ⟨g0, g1⟩
  have hSd : w1.drew.cell? ⟨b, o, none⟩ = some (.slice q1 qn1 qc1) ∧ w1.drew.cell? ⟨b, o + 1, none⟩ = some (.slice q2 qn2 qc2) := hS0
  have HSS := Lib.hid (fun (wz : World) (hb3 : Below w1.heap.size w1 wz) => (show wz.cell? ⟨b, o, none⟩ = some (.slice q1 qn1 qc1) ∧ wz.cell? ⟨b, o + 1, none⟩ = some (.slice q2 qn2 qc2) from ⟨(hb3.cell (p := ⟨b, o, none⟩) hbw).trans g0, (hb3.cell (p := ⟨b, o + 1, none⟩) hbw).trans g1⟩))
  have B1 := (Below.refl w1.heap.size w1).drew
  have D1 := Lib.hid (C1.out _ A1.out.drew)
  have D2 := Lib.hid (fun wz (hz : Below w1.heap.size w1 wz) => C2.out wz (A1.out.trans (hz.mono A1.out.size)))
  clear C1 C2 g0 g1
  go_region_held3 (fun w' => w'.cell? ⟨b, o, none⟩ = some (.slice q1 qn1 qc1) ∧ w'.cell? ⟨b, o + 1, none⟩ = some (.slice q2 qn2 qc2))
    (first | with_reducible exact hS2 | with_reducible exact hS1 | with_reducible exact hSd | with_reducible exact hS0 | go_keep)
    ((first
      | (go_at_call 93; (with_reducible refine (D2.out _ B2).mono ?_); rintro e w3 ⟨r3, rfl, hn3, hb3⟩; have B3 := B2.trans (hb3.mono B2.size); have hS2 := HSS.out _ B3)
      | (go_at_call 93; (with_reducible refine D1.out.mono ?_); rintro e w2 ⟨r2, rfl, hn2, hb2⟩; have B2 := B1.trans (hb2.mono B1.size); have hS1 := HSS.out _ B2; have Hn2 := Lib.hid hn2; have hz2 := hb2.size; clear hb2)
      | fail))
  clear hS0 hSd hS1 hS2 HSS D1 D2
  have HP0 := Lib.hid (New.pair (lo := w1.heap.size) Hn2.out hn3 hb3 hz2)
  obtain ⟨ra, rn, rc, rfl⟩ := Hn2.out.slice
  obtain ⟨sa, sn, sc, rfl⟩ := hn3.slice
  replace c0 := (B3.cell (p := ⟨w.heap.size, 0, none⟩) m1).trans c0
  replace c1 := (B3.cell (p := ⟨w.heap.size, 1, none⟩) m1).trans c1
  replace fz0 := (B3.frozen (p := ⟨w.heap.size, 0, none⟩) m1).trans fz0
  replace fz1 := (B3.frozen (p := ⟨w.heap.size, 1, none⟩) m1).trans fz1
  have A3 := Lib.hid (A1.out.trans (B3.mono A1.out.size))
  have HV0 := Lib.hid (show V = lagFold (xs.drop (0 + 1)) (x0.1, x0.2) from HVV.out)
  have M1 := m1
  replace m1 := Nat.lt_of_lt_of_le m1 B3.size
  have hz3 := B3.size
  have Hz := Lib.hid (Below.refl w3.heap.size w3)
  have Hx := Lib.hid (fun i (x : Tb × Tb) (hx : xs[i + 1]? = some x) => (show ∃ v1 v2, w.cell? ⟨b, o + 2 + i * 2, none⟩ = some v1 ∧ w.cell? ⟨b, o + 2 + i * 2 + 1, none⟩ = some v2 ∧ Tab w v1 x.1 ∧ Tab w v2 x.2 from by
    have h := Hx0.out (i + 1) x hx
    rw [show o + (i + 1) * 2 = o + 2 + i * 2 from by omega] at h
    exact h))
  clear hb3 hn3 Hn2 B1 B2 B3 HVV hbw Hx0
  by_cases hc1 : c = 1
  · subst hc1
    obtain rfl : n = 1 := by omega
    go_wp2
    go_loopg [6, 7, 40] 0 (fun g rv sv i wr => rv = .slice ra rn rc ∧ sv = .slice sa sn sc ∧ i = .int .i64 0 ∧ w3 = wr)
    case atStart => exact ⟨rfl, rfl, rfl, rfl⟩
    case round =>
      obtain ⟨rfl, rfl, rfl, rfl⟩ := hrel
      have HN := Lib.hid (show V = some (x0.1, x0.2) from by rw [HV0.out, List.drop_eq_nil_of_le (by have := Hn.out; omega)]; rfl)
      clear HV0 HS
      have hm1 : w.heap.size < w1.heap.size := M1
      go_wp2
      have r0 := World.cell?_setCell_same w3 _ (.slice ra rn rc) c0
      have s1 : ((w3.setCell ⟨w.heap.size, 0, none⟩ (.slice ra rn rc)).cell? ⟨w.heap.size, 1, none⟩) = some (.slice none 0 0) := (World.cell?_setCell_other _ _ _ _ (by simp)).trans c1
      have r1 := World.cell?_setCell_same _ _ (.slice sa sn sc) s1
      refine bodyPost_ret (v := .tuple #[.agg #[.slice ra rn rc, .slice sa sn sc], .bool true]) (by simp [results, Try.results36, go_sem, r0, r1]) rfl ?_
      exact ⟨_, by rw [HN.out]; rfl, by rw [HN.out]; exact (New.setCell_low OStep.held (New.setCell_low OStep.held HP0.out (show w.heap.size < w1.heap.size from hm1) _) (show w.heap.size < w1.heap.size from hm1) _).mono (Nat.le_of_lt hm1), ((A3.out).setCell (p := ⟨w.heap.size, 0, none⟩) (Nat.le_refl _) _).setCell (p := ⟨w.heap.size, 1, none⟩) (Nat.le_refl _) _⟩
  obtain ⟨m, rfl⟩ : ∃ m, n = m + 1 := ⟨n - 1, by omega⟩
  go_wp2
  go_loopg [6, 7, 40] m (fun g rv sv i wr => ∃ (k : Nat) (R S : Tb), i = .int .i64 k ∧ k + g = m ∧ Hid (V = lagFold (xs.drop (k + 1)) (R, S)) ∧ Hid (New (OStep 3 78) w1.heap.size wr (.agg #[rv, sv]) (R, S)) ∧ Hid (Below w3.heap.size w3 wr))
  case atStart => exact ⟨0, x0.1, x0.2, rfl, by omega, HV0, HP0, Hz⟩
  case round =>
    obtain ⟨k, R, S, rfl, hk, HVk, HP, hbel⟩ := hrel
    clear HV0 HP0 Hz
    obtain ⟨wk, rfl⟩ : ∃ x, x = wr := ⟨_, rfl⟩
    have hzk := hbel.out.size
    obtain ⟨ra', rn', rc', sa', sn', sc', e⟩ := HP.out.stp.slices
    simp only [Value.agg.injEq, Array.mk.injEq, List.cons.injEq, and_true] at e
    obtain ⟨rfl, rfl⟩ := e
    replace c0 := (hbel.out.cell (p := ⟨w.heap.size, 0, none⟩) m1).trans c0
    replace c1 := (hbel.out.cell (p := ⟨w.heap.size, 1, none⟩) m1).trans c1
    replace fz0 := (hbel.out.frozen (p := ⟨w.heap.size, 0, none⟩) m1).trans fz0
    replace fz1 := (hbel.out.frozen (p := ⟨w.heap.size, 1, none⟩) m1).trans fz1
    by_cases hlt : k < m
    · obtain ⟨x, hx, hd⟩ := at_lt (xs := xs) (k := k + 1) (by have := Hn.out; omega)
      have HVx := Lib.hid (show V = if ttOk R x.1 = true ∧ ttOk x.2 S = true then lagFold (xs.drop (k + 1 + 1)) (ttV R x.1, ttV x.2 S) else none from by rw [HVk.out, hd]; rfl)
      obtain ⟨y1, y2, f0, f1, s1, s2⟩ := Hx.out k x hx
      clear hx hd HVk
      have Ak := A3.out.trans (hbel.out.mono A3.out.size)
      replace f0 := (Ak.cell (p := ⟨b, o + 2 + k * 2, none⟩) hb).trans f0
      replace f1 := (Ak.cell (p := ⟨b, o + 2 + k * 2 + 1, none⟩) hb).trans f1
      obtain ⟨p1, pn1, pc1, rfl⟩ : ∃ a n c, y1 = .slice a n c := by obtain ⟨a, c, e, _⟩ := s1.shape; exact ⟨_, _, _, e⟩
      obtain ⟨p2, pn2, pc2, rfl⟩ : ∃ a n c, y2 = .slice a n c := by obtain ⟨a, c, e, _⟩ := s2.shape; exact ⟨_, _, _, e⟩
      have T1 := Lib.hid (fun wz (hz : Below wk.heap.size wk wz) => (show Tab wz (.slice p1 pn1 pc1) x.1 from Tab.frame _ _ _ _ s1 (Ak.trans (hz.mono Ak.size))))
      have T2 := Lib.hid (fun wz (hz : Below wk.heap.size wk wz) => (show Tab wz (.slice p2 pn2 pc2) x.2 from Tab.frame _ _ _ _ s2 (Ak.trans (hz.mono Ak.size))))
      obtain ⟨tr1, tr2, e, tR, tS⟩ := HP.out.stp
      simp only [Value.agg.injEq, Array.mk.injEq, List.cons.injEq, and_true] at e
      obtain ⟨rfl, rfl⟩ := e
      have TR := Lib.hid tR
      have TS := Lib.hid tS
      obtain ⟨w4, ex, hb4, d0, d1, n4⟩ := boxA_ex wk 38 (.slice p1 pn1 pc1) (.slice p2 pn2 pc2)
      have H4 := Lib.hid hb4
      have hz4 := hb4.size
      have K1 := Lib.hid (impl_TableTimes_c (Tab.frame _ _ _ _ TR.out hb4) (T1.out _ hb4))
      have K2 := Lib.hid (fun wz (hz : Below wk.heap.size wk wz) => impl_TableTimes_c (T2.out _ hz) (Tab.frame _ _ _ _ TS.out hz))
      have hkm : (k : Int) < (m : Int) := by omega
      have Hbk := Lib.hid Ak
      clear tR tS TR TS T1 T2 s1 s2 hb4 Ak HP
      generalize ttOk R x.1 = k1 at K1 HVx
      generalize ttOk x.2 S = k2 at K2 HVx
      go_wp2_with fail
      refine K1.out.mono ?_
      rintro e w5 ⟨v5, rfl, hn5, hb5⟩
      clear ex
      have H5 := Lib.hid (H4.out.trans (hb5.mono hz4))
      have Hn5 := Lib.hid (hn5.mono (lo' := w1.heap.size) (by omega))
      have hz5 := hb5.size
      replace d1 := (hb5.cell (p := ⟨wk.heap.size, 1, none⟩) n4).trans d1
      obtain ⟨ra2, rn2, rc2, rfl⟩ := hn5.slice
      have K3 := Lib.hid (K2.out _ H5.out)
      clear hn5 hb5 K1 K2 d0
      go_wp2_with fail
      refine K3.out.mono ?_
      rintro e w6 ⟨v6, rfl, hn6, hb6⟩
      have H6 := Lib.hid (H5.out.trans (hb6.mono (by omega)))
      have HP6 := Lib.hid (New.pair Hn5.out hn6 hb6 (by omega))
      have hz6 := hb6.size
      obtain ⟨sa2, sn2, sc2, rfl⟩ := hn6.slice
      clear hn6 hb6 K3 d1 H4 H5 Hn5
      replace c0 := (H6.out.cell (p := ⟨w.heap.size, 0, none⟩) (Nat.lt_of_lt_of_le m1 hzk)).trans c0
      replace c1 := (H6.out.cell (p := ⟨w.heap.size, 1, none⟩) (Nat.lt_of_lt_of_le m1 hzk)).trans c1
      replace fz0 := (H6.out.frozen (p := ⟨w.heap.size, 0, none⟩) (Nat.lt_of_lt_of_le m1 hzk)).trans fz0
      replace fz1 := (H6.out.frozen (p := ⟨w.heap.size, 1, none⟩) (Nat.lt_of_lt_of_le m1 hzk)).trans fz1
      by_cases hk1 : k1 = true ∧ k2 = true
      · obtain ⟨rfl, rfl⟩ := hk1
        have HN := Lib.hid (show V = lagFold (xs.drop (k + 1 + 1)) (ttV R x.1, ttV x.2 S) from by rw [HVx.out, if_pos ⟨rfl, rfl⟩])
        have HR := Lib.hid (hbel.out.trans (H6.out.mono hzk))
        clear HVx hbel H6 Hbk c0 c1 fz0 fz1
        go_wp2
        go_roundg (m - (k + 1))
        case measure => omega
        case rel => exact ⟨k + 1, _, _, by go_num, by omega, HN, HP6, HR⟩
      · have HK := Lib.hid (show V = none from by rw [HVx.out, if_neg hk1])
        have A6 := Lib.hid (Hbk.out.trans (H6.out.mono (by have := Hbk.out.size; omega)))
        clear HVx hbel H6 Hbk HP6
        cases k1
        · clear hk1
          go_wp2
          have r0 := World.cell?_setCell_same w6 _ (.slice none 0 0) c0
          have s1 : ((w6.setCell ⟨w.heap.size, 0, none⟩ (.slice none 0 0)).cell? ⟨w.heap.size, 1, none⟩) = some (.slice none 0 0) := (World.cell?_setCell_other _ _ _ _ (by simp)).trans c1
          have r1 := World.cell?_setCell_same _ _ (.slice none 0 0) s1
          refine bodyPost_ret (v := .tuple #[.agg #[.slice none 0 0, .slice none 0 0], .bool false]) (by simp [results, Try.results36, go_sem, r0, r1]) rfl ?_
          exact ⟨_, by rw [HK.out]; rfl, by rw [HK.out]; exact New.none2 (by simp; have := (A6.out).size; omega), ((A6.out).setCell (p := ⟨w.heap.size, 0, none⟩) (Nat.le_refl _) _).setCell (p := ⟨w.heap.size, 1, none⟩) (Nat.le_refl _) _⟩
        · cases k2
          · clear hk1
            go_wp2
            have r0 := World.cell?_setCell_same w6 _ (.slice none 0 0) c0
            have s1 : ((w6.setCell ⟨w.heap.size, 0, none⟩ (.slice none 0 0)).cell? ⟨w.heap.size, 1, none⟩) = some (.slice none 0 0) := (World.cell?_setCell_other _ _ _ _ (by simp)).trans c1
            have r1 := World.cell?_setCell_same _ _ (.slice none 0 0) s1
            refine bodyPost_ret (v := .tuple #[.agg #[.slice none 0 0, .slice none 0 0], .bool false]) (by simp [results, Try.results36, go_sem, r0, r1]) rfl ?_
            exact ⟨_, by rw [HK.out]; rfl, by rw [HK.out]; exact New.none2 (by simp; have := (A6.out).size; omega), ((A6.out).setCell (p := ⟨w.heap.size, 0, none⟩) (Nat.le_refl _) _).setCell (p := ⟨w.heap.size, 1, none⟩) (Nat.le_refl _) _⟩
          · exact absurd ⟨rfl, rfl⟩ hk1
    · obtain rfl : k = m := by omega
      have HN := Lib.hid (show V = some (R, S) from by rw [HVk.out, List.drop_eq_nil_of_le (by have := Hn.out; omega)]; rfl)
      have Ak := Lib.hid (A3.out.trans (hbel.out.mono A3.out.size))
      clear HVk hbel HS Hx
      have hm1 : w.heap.size < w1.heap.size := M1
      go_wp2
      have r0 := World.cell?_setCell_same wk _ (.slice ra' rn' rc') c0
      have s1 : ((wk.setCell ⟨w.heap.size, 0, none⟩ (.slice ra' rn' rc')).cell? ⟨w.heap.size, 1, none⟩) = some (.slice none 0 0) := (World.cell?_setCell_other _ _ _ _ (by simp)).trans c1
      have r1 := World.cell?_setCell_same _ _ (.slice sa' sn' sc') s1
      refine bodyPost_ret (v := .tuple #[.agg #[.slice ra' rn' rc', .slice sa' sn' sc'], .bool true]) (by simp [results, Try.results36, go_sem, r0, r1]) rfl ?_
      exact ⟨_, by rw [HN.out]; rfl, by rw [HN.out]; exact (New.setCell_low OStep.held (New.setCell_low OStep.held HP.out (show w.heap.size < w1.heap.size from hm1) _) (show w.heap.size < w1.heap.size from hm1) _).mono (Nat.le_of_lt hm1), ((Ak.out).setCell (p := ⟨w.heap.size, 0, none⟩) (Nat.le_refl _) _).setCell (p := ⟨w.heap.size, 1, none⟩) (Nat.le_refl _) _⟩
end Go.Proofs.Ytjgiobapdkdhpaa
