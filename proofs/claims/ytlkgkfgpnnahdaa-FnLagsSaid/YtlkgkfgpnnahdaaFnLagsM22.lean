/-
  Texts of this claim joined: laws for its walks, contracts of the functions that the law reaches.
-/
import Derived.Test.YtlkgkfgpnnahdaaRows
import Derived.Test.YtlkgkfgpnnahdaaFnLagsM1
import Derived.Test.YtlkgkfgpnnahdaaFnLagsM3
import Derived.Test.YtlkgkfgpnnahdaaFnLagsM4
import Derived.Test.YtlkgkfgpnnahdaaFnLagsM11
import Derived.Test.YtlkgkfgpnnahdaaFnLagsM2
import Derived.Test.YtlkgkfgpnnahdaaFnLagsM12
import Derived.Test.YtlkgkfgpnnahdaaFnLagsM14
import Derived.Test.YtlkgkfgpnnahdaaFnLagsM19
import Derived.WalkSpells
import Derived.IntWalk
import Derived.Deep.RegionHeld3
import Derived.Deep.DeepCutAuto
import Derived.Test.YtlkgkfgpnnahdaaFnLagsM9
import Derived.Test.YtlkgkfgpnnahdaaFnLagsM18
section
/-
  LagOfChain, the reference's.
-/
namespace Go.Proofs.Ytlkgkfgpnnahdaa
open Go.RowKit Go.Deep Go.Sd

theorem New.pair_gap {eI eR : TypeId} {lo : Nat} {w2 w : World} {v1 v2 : Value} {x1 x2 : Tb} (h1 : New (OTab eI eR) lo w2 v1 x1) (h2 : New (OTab eI eR) (w2.heap.size + 1) w v2 x2) (hb : Below w2.heap.size w2 w) (hlo : lo ≤ w2.heap.size) (u1 u2 : Value) :
    New (OStep eI eR) lo ((w.setCell ⟨w2.heap.size, 0, none⟩ u1).setCell ⟨w2.heap.size, 1, none⟩ u2) (.agg #[v1, v2]) (x1, x2) := by
  obtain ⟨F, hF, hn, hge⟩ := h1
  obtain ⟨G, hG, hm, hgg⟩ := h2
  have hlt := (OTab.kept eI eR).lt _ _ _ _ hF
  have st : ∀ b, b ≠ w2.heap.size → ((w.setCell ⟨w2.heap.size, 0, none⟩ u1).setCell ⟨w2.heap.size, 1, none⟩ u2).heap[b]? = w.heap[b]? := fun b hb' =>
    (Below.heap_setCell _ _ _ _ hb').trans (Below.heap_setCell _ _ _ _ hb')
  refine ⟨F ++ G, ⟨v1, v2, F, G, rfl, (OTab.kept _ _).keep _ _ _ _ _ hF fun b hb' => (st b ?_).trans (hb.block b (hlt b hb')), (OTab.kept _ _).keep _ _ _ _ _ hG fun b hb' => st b ?_, rfl⟩, List.nodup_append.2 ⟨hn, hm, fun a ha b hb' e => ?_⟩, fun b hb' => ?_⟩
  · have := hlt b hb'; omega
  · have := hgg b hb'; omega
  · subst e
    have := hlt a ha
    have := hgg a hb'
    omega
  · rcases List.mem_append.1 hb' with h | h
    · exact hge b h
    · have := hgg b h; omega
set_option maxHeartbeats 4000000 in
set_option maxRecDepth 10000 in
theorem spec_LagOfChain_c {w : World} {v1 v2 : Value} {ts : List Tb} {xs : List (Tb × Tb)} (h1 : Tabs w v1 ts) (h2 : StpsR w v2 xs) :
    Calls Try.prog 38 #[v1, v2] w (Makes2 (OStep 3 33) w (found (lagC ts xs)) (lagC ts xs).isSome) := by
  have HV := Lib.hid (show lagC ts xs = if chainM ts xs = true ∧ 1 ≤ xs.length ∧ xs.length ≤ 5 then lagFold (xs.drop 1) (xs.getD 0 ([], [])) else none from rfl)
  have HC := Lib.hid (fun w1 (hb : Below w.heap.size w w1) => spec_IsChain_c (Tabs.frame _ _ _ _ h1 hb) (StpsR.frame _ _ _ _ h2 hb))
  have HS := Lib.hid (fun (hc : chainM ts xs = true) k x (hx : xs[k]? = some x) => chainM_sm hc hx)
  have H2 := Lib.hid h2
  generalize lagC ts xs = V at HV ⊢
  generalize chainM ts xs = ch at *
  obtain ⟨ta, tc, rfl, _, _, _⟩ := h1.shape
  obtain ⟨hlx, a, c, rfl, hlc, hcb, _, hcell⟩ := h2
  clear h1
  obtain ⟨n, hn⟩ : ∃ n, n = xs.length := ⟨_, rfl⟩
  rw [← hn] at HV hcell hlx hlc HC H2 ⊢
  have Hn := Lib.hid hn
  clear hn H2
  have Hin := Lib.hid (fun w1 => l1In_c (n : Int) 1 5 w1)
  go_enter Try.func38, Try.ntmps38
  go_wp2_with fail
  have fz0 : (w.alloc (.cells #[.slice none 0 0, .slice none 0 0] 41)).frozen? ⟨w.heap.size, 0, none⟩ = false := by simp [go_sem]
  have fz1 : (w.alloc (.cells #[.slice none 0 0, .slice none 0 0] 41)).frozen? ⟨w.heap.size, 1, none⟩ = false := by simp [go_sem]
  obtain ⟨w0, ex, A0, c0, c1, m1⟩ := boxA_ex w 41 (.slice none 0 0) (.slice none 0 0)
  rw [ex] at fz0 fz1
  change Calls Try.prog _ _ (w.alloc (.cells #[.slice none 0 0, .slice none 0 0] 41)) _
  rw [ex]
  clear ex
  refine (HC.out _ A0).mono ?_
  rintro e w1 ⟨rfl, hb1⟩
  replace c0 := (hb1.cell (p := ⟨w.heap.size, 0, none⟩) m1).trans c0
  replace c1 := (hb1.cell (p := ⟨w.heap.size, 1, none⟩) m1).trans c1
  replace fz0 := (hb1.frozen (p := ⟨w.heap.size, 0, none⟩) m1).trans fz0
  replace fz1 := (hb1.frozen (p := ⟨w.heap.size, 1, none⟩) m1).trans fz1
  have A1 := Lib.hid (A0.trans (hb1.mono A0.size))
  have hz1 := hb1.size
  replace m1 := Nat.lt_of_lt_of_le m1 hz1
  clear hb1 A0 HC
  cases ch with
  | false =>
    have HK := Lib.hid (show V = none from by rw [HV.out, if_neg (by simp)])
    clear HV HS hcell
    go_wp2
    have r0 := World.cell?_setCell_same w1 _ (.slice none 0 0) c0
    have s1 : ((w1.setCell ⟨w.heap.size, 0, none⟩ (.slice none 0 0)).cell? ⟨w.heap.size, 1, none⟩) = some (.slice none 0 0) := (World.cell?_setCell_other _ _ _ _ (by simp)).trans c1
    have r1 := World.cell?_setCell_same _ _ (.slice none 0 0) s1
    refine bodyPost_ret (v := .tuple #[.agg #[.slice none 0 0, .slice none 0 0], .bool false]) (by simp [results, Try.results38, go_sem, r0, r1]) rfl ?_
    exact ⟨_, by rw [HK.out]; rfl, by rw [HK.out]; exact New.none2 (by simp; have := (A1.out).size; omega), ((A1.out).setCell (p := ⟨w.heap.size, 0, none⟩) (Nat.le_refl _) _).setCell (p := ⟨w.heap.size, 1, none⟩) (Nat.le_refl _) _⟩
  | true =>
  by_cases hn1 : n < 1
  · have HK := Lib.hid (show V = none from by rw [HV.out, if_neg (by omega)])
    clear HV HS hcell
    have hin : (decide ((1 : Int) ≤ (n : Int)) && decide ((n : Int) ≤ 5)) = false := by by_cases h : (1 : Int) ≤ (n : Int) <;> simp [h] <;> omega
    rw [hin] at Hin
    clear hin
    go_wp2_with fail
    refine (Hin.out _).mono ?_
    rintro e w' ⟨rfl, rfl⟩
    go_wp2
    have r0 := World.cell?_setCell_same w1 _ (.slice none 0 0) c0
    have s1 : ((w1.setCell ⟨w.heap.size, 0, none⟩ (.slice none 0 0)).cell? ⟨w.heap.size, 1, none⟩) = some (.slice none 0 0) := (World.cell?_setCell_other _ _ _ _ (by simp)).trans c1
    have r1 := World.cell?_setCell_same _ _ (.slice none 0 0) s1
    refine bodyPost_ret (v := .tuple #[.agg #[.slice none 0 0, .slice none 0 0], .bool false]) (by simp [results, Try.results38, go_sem, r0, r1]) rfl ?_
    exact ⟨_, by rw [HK.out]; rfl, by rw [HK.out]; exact New.none2 (by simp; have := (A1.out).size; omega), ((A1.out).setCell (p := ⟨w.heap.size, 0, none⟩) (Nat.le_refl _) _).setCell (p := ⟨w.heap.size, 1, none⟩) (Nat.le_refl _) _⟩
  by_cases hn5 : 5 < n
  · have HK := Lib.hid (show V = none from by rw [HV.out, if_neg (by omega)])
    clear HV HS hcell
    have hin : (decide ((1 : Int) ≤ (n : Int)) && decide ((n : Int) ≤ 5)) = false := by by_cases h : (1 : Int) ≤ (n : Int) <;> simp [h] <;> omega
    rw [hin] at Hin
    clear hin
    go_wp2_with fail
    refine (Hin.out _).mono ?_
    rintro e w' ⟨rfl, rfl⟩
    go_wp2
    have r0 := World.cell?_setCell_same w1 _ (.slice none 0 0) c0
    have s1 : ((w1.setCell ⟨w.heap.size, 0, none⟩ (.slice none 0 0)).cell? ⟨w.heap.size, 1, none⟩) = some (.slice none 0 0) := (World.cell?_setCell_other _ _ _ _ (by simp)).trans c1
    have r1 := World.cell?_setCell_same _ _ (.slice none 0 0) s1
    refine bodyPost_ret (v := .tuple #[.agg #[.slice none 0 0, .slice none 0 0], .bool false]) (by simp [results, Try.results38, go_sem, r0, r1]) rfl ?_
    exact ⟨_, by rw [HK.out]; rfl, by rw [HK.out]; exact New.none2 (by simp; have := (A1.out).size; omega), ((A1.out).setCell (p := ⟨w.heap.size, 0, none⟩) (Nat.le_refl _) _).setCell (p := ⟨w.heap.size, 1, none⟩) (Nat.le_refl _) _⟩
  obtain ⟨b, o, rfl, hb, hx0⟩ := hcell (by omega)
  clear hcell
  obtain ⟨x0, hx0e, _⟩ := at_lt (xs := xs) (k := 0) (by have := Hn.out; omega)
  have HVV := Lib.hid (show V = lagFold (xs.drop 1) x0 from by rw [HV.out, if_pos ⟨rfl, by omega, by omega⟩]; simp [List.getD, hx0e])
  clear HV
  obtain ⟨y1, y2, f0, f1, s1, s2⟩ := hx0 0 x0 hx0e
  have hsm := (HS.out rfl 0 x0 hx0e).sz
  clear hx0e
  rw [Nat.zero_mul, Nat.add_zero] at f0 f1
  have Hx0 := Lib.hid hx0
  clear hx0
  have C1 := Lib.hid (fun wz (hz : Below w1.heap.size w1 wz) => l4Copy_c (Tab.frame _ _ _ _ s1 (A1.out.trans (hz.mono A1.out.size))) hsm.1.1 hsm.1.2)
  have C2 := Lib.hid (fun wz (hz : Below w1.heap.size w1 wz) => l4Copy_c (Tab.frame _ _ _ _ s2 (A1.out.trans (hz.mono A1.out.size))) hsm.2.1 hsm.2.2)
  obtain ⟨q1, qn1, qc1, rfl⟩ : ∃ a n c, y1 = .slice a n c := by obtain ⟨a, c, e, _⟩ := s1.shape; exact ⟨_, _, _, e⟩
  obtain ⟨q2, qn2, qc2, rfl⟩ : ∃ a n c, y2 = .slice a n c := by obtain ⟨a, c, e, _⟩ := s2.shape; exact ⟨_, _, _, e⟩
  have g0 : w1.cell? ⟨b, o, none⟩ = some (.slice q1 qn1 qc1) := (A1.out.cell (p := ⟨b, o, none⟩) hb).trans f0
  have g1 : w1.cell? ⟨b, o + 1, none⟩ = some (.slice q2 qn2 qc2) := (A1.out.cell (p := ⟨b, o + 1, none⟩) hb).trans f1
  have hbw : b < w1.heap.size := Nat.lt_of_lt_of_le hb A1.out.size
  clear f0 f1 s1 s2 hsm
  have hn0' : (0 : Int) < (n : Int) := by omega
  have hn0N : 0 < n := by omega
  have hin : (decide ((1 : Int) ≤ (n : Int)) && decide ((n : Int) ≤ 5)) = true := by simp; omega
  rw [hin] at Hin
  go_wp2_with fail
  refine (Hin.out _).mono ?_
  rintro e w' ⟨rfl, rfl⟩
  clear Hin
  go_upto_region 3 with fail
  go_cut [6] (fun s6 wx => ∃ (B : Nat) (rv sv : Value), s6 = .pointer (some ⟨B, 0, none⟩) ∧ w1.heap.size ≤ B ∧ B < wx.heap.size ∧ wx.cell? ⟨B, 0, none⟩ = some rv ∧ wx.cell? ⟨B, 1, none⟩ = some sv ∧ wx.frozen? ⟨B, 0, none⟩ = false ∧ wx.frozen? ⟨B, 1, none⟩ = false ∧ Hid (New (OStep 3 33) w1.heap.size wx (.agg #[rv, sv]) (x0.1, x0.2)) ∧ Hid (Below w1.heap.size w1 wx))
  case first =>
    have B1 := (Below.refl w1.heap.size w1).drew
    have hS0 : w1.cell? ⟨b, o, none⟩ = some (.slice q1 qn1 qc1) ∧ w1.cell? ⟨b, o + 1, none⟩ = some (.slice q2 qn2 qc2) := ⟨g0, g1⟩
    have hSd : w1.drew.cell? ⟨b, o, none⟩ = some (.slice q1 qn1 qc1) ∧ w1.drew.cell? ⟨b, o + 1, none⟩ = some (.slice q2 qn2 qc2) := hS0
    have HSS := Lib.hid (fun (wz : World) (hb3 : Below w1.heap.size w1 wz) => (show wz.cell? ⟨b, o, none⟩ = some (.slice q1 qn1 qc1) ∧ wz.cell? ⟨b, o + 1, none⟩ = some (.slice q2 qn2 qc2) from ⟨(hb3.cell (p := ⟨b, o, none⟩) hbw).trans g0, (hb3.cell (p := ⟨b, o + 1, none⟩) hbw).trans g1⟩))
    go_region_held3 (fun w' => w'.cell? ⟨b, o, none⟩ = some (.slice q1 qn1 qc1) ∧ w'.cell? ⟨b, o + 1, none⟩ = some (.slice q2 qn2 qc2))
      (first | with_reducible exact hS2 | with_reducible exact hS1 | with_reducible exact hSd | with_reducible exact hS0 | (with_reducible exact HSS.out _ ((B3.setCell (p := ⟨w2.heap.size, 0, none⟩) hB2.size _).setCell (p := ⟨w2.heap.size, 1, none⟩) hB2.size _)) | (with_reducible exact HSS.out _ ((B3.setCell (p := ⟨w1.heap.size, 0, none⟩) (Nat.le_refl _) _).setCell (p := ⟨w1.heap.size, 1, none⟩) (Nat.le_refl _) _)) | (with_reducible exact HSS.out _ (B3.alloc B3.size _)) | go_keep)
      ((first
        | (go_at_call 81; have hB2 := B2; (first
          | ((with_reducible refine (C2.out _ B2).mono ?_); rintro e w3 ⟨r3, rfl, hn3, hb3⟩; obtain ⟨sa, sn, sc, rfl⟩ := hn3.slice; have B3 := B2.trans (hb3.mono B2.size); (first | (replace ka := (hb3.cell (p := ⟨w1.heap.size, 0, none⟩) hkB).trans ka; replace kb := (hb3.cell (p := ⟨w1.heap.size, 1, none⟩) hkB).trans kb; replace kc := (hb3.frozen (p := ⟨w1.heap.size, 0, none⟩) hkB).trans kc; replace kd := (hb3.frozen (p := ⟨w1.heap.size, 1, none⟩) hkB).trans kd) | skip))
          | (have B2a := B2.alloc B2.size (.cells #[.slice none 0 0, .slice none 0 0] 41); (with_reducible refine (C2.out _ B2a).mono ?_); rintro e w3 ⟨r3, rfl, hn3, hb3⟩; obtain ⟨sa, sn, sc, rfl⟩ := hn3.slice; have B3 := B2a.trans (hb3.mono B2a.size); have ka : w3.cell? ⟨w2.heap.size, 0, none⟩ = some (.slice none 0 0) := (hb3.cell (p := ⟨w2.heap.size, 0, none⟩) (by simp)).trans (by simp [go_sem]); have kb : w3.cell? ⟨w2.heap.size, 1, none⟩ = some (.slice none 0 0) := (hb3.cell (p := ⟨w2.heap.size, 1, none⟩) (by simp)).trans (by simp [go_sem]); have kc : w3.frozen? ⟨w2.heap.size, 0, none⟩ = false := (hb3.frozen (p := ⟨w2.heap.size, 0, none⟩) (by simp)).trans (by simp [go_sem]); have kd : w3.frozen? ⟨w2.heap.size, 1, none⟩ = false := (hb3.frozen (p := ⟨w2.heap.size, 1, none⟩) (by simp)).trans (by simp [go_sem]))); have hS2 := HSS.out _ B3)
        | (go_at_call 81; (first
          | ((with_reducible refine (C1.out _ B1).mono ?_); rintro e w2 ⟨r2, rfl, hn2, hb2⟩; obtain ⟨ra, rn, rc, rfl⟩ := hn2.slice; have B2 := B1.trans (hb2.mono B1.size))
          | (have B1a := Below.drew ((Below.refl w1.heap.size w1).alloc (Nat.le_refl _) (.cells #[.slice none 0 0, .slice none 0 0] 41)); (with_reducible refine (C1.out _ B1a).mono ?_); rintro e w2 ⟨r2, rfl, hn2, hb2⟩; obtain ⟨ra, rn, rc, rfl⟩ := hn2.slice; have B2 := B1a.trans (hb2.mono B1a.size); have ka : w2.cell? ⟨w1.heap.size, 0, none⟩ = some (.slice none 0 0) := (hb2.cell (p := ⟨w1.heap.size, 0, none⟩) (by simp)).trans (by simp [go_sem]); have kb : w2.cell? ⟨w1.heap.size, 1, none⟩ = some (.slice none 0 0) := (hb2.cell (p := ⟨w1.heap.size, 1, none⟩) (by simp)).trans (by simp [go_sem]); have kc : w2.frozen? ⟨w1.heap.size, 0, none⟩ = false := (hb2.frozen (p := ⟨w1.heap.size, 0, none⟩) (by simp)).trans (by simp [go_sem]); have kd : w2.frozen? ⟨w1.heap.size, 1, none⟩ = false := (hb2.frozen (p := ⟨w1.heap.size, 1, none⟩) (by simp)).trans (by simp [go_sem]); have hkB : w1.heap.size < w2.heap.size := (by have := hb2.size; simp at this; omega))); have hS1 := HSS.out _ B2; have Hn2 := Lib.hid hn2; have hz2 := hb2.size)
        | fail))
    · have HPk := Lib.hid (((New.pair (lo := w1.heap.size) Hn2.out hn3 hb3 hz2).inn OStep.held).keep OStep.held ((Below.refl w3.heap.size w3).alloc (Nat.le_refl _) (.cells #[.slice ra rn rc, .slice sa sn sc] 41)) (Nat.le_refl _)).new
      have HBk := Lib.hid (B3.alloc B3.size (.cells #[.slice ra rn rc, .slice sa sn sc] 41))
      have hz3 := B3.size
      go_wp2
      go_meet
      case rel => exact ⟨w3.heap.size, _, _, rfl, hz3, by simp, by simp, by simp, by simp, by simp, HPk, HBk⟩
    · have hz3 := B3.size
      have hz4 := hb3.size
      have hz5 := hB2.size
      have e3 : (w2.alloc (.cells #[.slice none 0 0, .slice none 0 0] 41)).heap.size = w2.heap.size + 1 := by simp
      rw [e3] at hn3 hz4
      have HPk := Lib.hid (New.pair_gap (lo := w1.heap.size) Hn2.out hn3 ((Below.refl w2.heap.size w2).alloc (Nat.le_refl _) _ |>.trans (hb3.mono (by simp))) hz2 (.slice ra rn rc) (.slice sa sn sc))
      have HBk := Lib.hid ((B3.setCell (p := ⟨w2.heap.size, 0, none⟩) hz5 (.slice ra rn rc)).setCell (p := ⟨w2.heap.size, 1, none⟩) hz5 (.slice sa sn sc))
      have j0 := World.cell?_setCell_same _ _ (.slice ra rn rc) ka
      have j1 := World.cell?_setCell_same _ _ (.slice sa sn sc) ((World.cell?_setCell_other _ ⟨w2.heap.size, 0, none⟩ _ (.slice ra rn rc) (by simp)).trans kb)
      replace j0 := (World.cell?_setCell_other _ ⟨w2.heap.size, 1, none⟩ _ (.slice sa sn sc) (by simp)).trans j0
      have i0 : ((w3.setCell ⟨w2.heap.size, 0, none⟩ (.slice ra rn rc)).setCell ⟨w2.heap.size, 1, none⟩ (.slice sa sn sc)).frozen? ⟨w2.heap.size, 0, none⟩ = false := by rw [World.frozen?_setCell, World.frozen?_setCell]; exact kc
      have i1 : ((w3.setCell ⟨w2.heap.size, 0, none⟩ (.slice ra rn rc)).setCell ⟨w2.heap.size, 1, none⟩ (.slice sa sn sc)).frozen? ⟨w2.heap.size, 1, none⟩ = false := by rw [World.frozen?_setCell, World.frozen?_setCell]; exact kd
      go_wp2
      go_meet
      case rel => exact ⟨w2.heap.size, _, _, rfl, hz5, by simp <;> omega, j0, j1, i0, i1, HPk, HBk⟩
    · have hz3 := B3.size
      have e3 : (w1.alloc (.cells #[.slice none 0 0, .slice none 0 0] 41)).drew.heap.size = w1.heap.size + 1 := by simp
      have Hn2' := Hn2.out
      rw [e3] at Hn2' hz2
      have HPk := Lib.hid ((New.setCell_low OStep.held (New.setCell_low OStep.held (New.pair (lo := w1.heap.size + 1) Hn2' hn3 hb3 hz2) (show w1.heap.size < w1.heap.size + 1 by omega) (.slice ra rn rc) (p := ⟨w1.heap.size, 0, none⟩)) (show w1.heap.size < w1.heap.size + 1 by omega) (.slice sa sn sc) (p := ⟨w1.heap.size, 1, none⟩)).mono (lo' := w1.heap.size) (by omega))
      have HBk := Lib.hid ((B3.setCell (p := ⟨w1.heap.size, 0, none⟩) (Nat.le_refl _) (.slice ra rn rc)).setCell (p := ⟨w1.heap.size, 1, none⟩) (Nat.le_refl _) (.slice sa sn sc))
      have hz4 := hb3.size
      have j0 := World.cell?_setCell_same _ _ (.slice ra rn rc) ka
      have j1 := World.cell?_setCell_same _ _ (.slice sa sn sc) ((World.cell?_setCell_other _ ⟨w1.heap.size, 0, none⟩ _ (.slice ra rn rc) (by simp)).trans kb)
      replace j0 := (World.cell?_setCell_other _ ⟨w1.heap.size, 1, none⟩ _ (.slice sa sn sc) (by simp)).trans j0
      have i0 : ((w3.setCell ⟨w1.heap.size, 0, none⟩ (.slice ra rn rc)).setCell ⟨w1.heap.size, 1, none⟩ (.slice sa sn sc)).frozen? ⟨w1.heap.size, 0, none⟩ = false := by rw [World.frozen?_setCell, World.frozen?_setCell]; exact kc
      have i1 : ((w3.setCell ⟨w1.heap.size, 0, none⟩ (.slice ra rn rc)).setCell ⟨w1.heap.size, 1, none⟩ (.slice sa sn sc)).frozen? ⟨w1.heap.size, 1, none⟩ = false := by rw [World.frozen?_setCell, World.frozen?_setCell]; exact kd
      go_wp2
      go_meet
      case rel => exact ⟨w1.heap.size, _, _, rfl, Nat.le_refl _, by simp <;> omega, j0, j1, i0, i1, HPk, HBk⟩
  case rest =>
    obtain ⟨B, rv, sv, rfl, hB1, hB2, d0, d1, e0, e1, HP0, HB0⟩ := hcut
    obtain ⟨wz, rfl⟩ : ∃ x, x = wc := ⟨_, rfl⟩
    have M1 := m1
    have HV0 := Lib.hid (show V = lagFold (xs.drop 1) (x0.1, x0.2) from HVV.out)
    clear C1 C2 g0 g1 HVV
    go_wp2
    go_loopg [7] (n - 1) (fun g i wr => ∃ (k : Nat) (R S : Tb) (rv sv : Value), i = .int .i64 k ∧ k + g = n ∧ 1 ≤ k ∧ k ≤ n ∧ Hid (V = lagFold (xs.drop k) (R, S)) ∧ wr.cell? ⟨B, 0, none⟩ = some rv ∧ wr.cell? ⟨B, 1, none⟩ = some sv ∧ wr.frozen? ⟨B, 0, none⟩ = false ∧ wr.frozen? ⟨B, 1, none⟩ = false ∧ B < wr.heap.size ∧ Hid (New (OStep 3 33) w1.heap.size wr (.agg #[rv, sv]) (R, S)) ∧ Hid (Below w1.heap.size w1 wr))
    case atStart => exact ⟨1, x0.1, x0.2, rv, sv, rfl, by omega, by omega, by omega, HV0, d0, d1, e0, e1, hB2, HP0, HB0⟩
    case round =>
      obtain ⟨k, R, S, rv, sv, rfl, hk, hk1, hkn, HVk, d0, d1, e0, e1, hB2, HP, hbel⟩ := hrel
      clear HV0 HP0 HB0
      obtain ⟨wk, rfl⟩ : ∃ x, x = wr := ⟨_, rfl⟩
      have hzk := hbel.out.size
      replace c0 := (hbel.out.cell (p := ⟨w.heap.size, 0, none⟩) M1).trans c0
      replace c1 := (hbel.out.cell (p := ⟨w.heap.size, 1, none⟩) M1).trans c1
      replace fz0 := (hbel.out.frozen (p := ⟨w.heap.size, 0, none⟩) M1).trans fz0
      replace fz1 := (hbel.out.frozen (p := ⟨w.heap.size, 1, none⟩) M1).trans fz1
      obtain ⟨ra, rn, rc, sa, sn, sc, e⟩ := HP.out.stp.slices
      simp only [Value.agg.injEq, Array.mk.injEq, List.cons.injEq, and_true] at e
      obtain ⟨rfl, rfl⟩ := e
      by_cases hlt : k < n
      · obtain ⟨x, hx, hd⟩ := at_lt (xs := xs) (k := k) (by have := Hn.out; omega)
        have HVx := Lib.hid (show V = if ttOk R x.1 = true ∧ ttOk x.2 S = true then lagFold (xs.drop (k + 1)) (ttV R x.1, ttV x.2 S) else none from by rw [HVk.out, hd]; rfl)
        obtain ⟨y1, y2, f0, f1, s1, s2⟩ := Hx0.out k x hx
        clear hx hd HVk
        have Ak := A1.out.trans (hbel.out.mono A1.out.size)
        have hbk := Nat.lt_of_lt_of_le hb Ak.size
        replace f0 := (Ak.cell (p := ⟨b, o + k * 2, none⟩) hb).trans f0
        replace f1 := (Ak.cell (p := ⟨b, o + k * 2 + 1, none⟩) hb).trans f1
        obtain ⟨p1, pn1, pc1, rfl⟩ : ∃ a n c, y1 = .slice a n c := by obtain ⟨a, c, e, _⟩ := s1.shape; exact ⟨_, _, _, e⟩
        obtain ⟨p2, pn2, pc2, rfl⟩ : ∃ a n c, y2 = .slice a n c := by obtain ⟨a, c, e, _⟩ := s2.shape; exact ⟨_, _, _, e⟩
        obtain ⟨tr1, tr2, e, tR, tS⟩ := HP.out.stp
        simp only [Value.agg.injEq, Array.mk.injEq, List.cons.injEq, and_true] at e
        obtain ⟨rfl, rfl⟩ := e
        have K1 := Lib.hid (fun wz (hz : Below wk.heap.size wk wz) => spec_TableTimes_c (Tab.frame _ _ _ _ tR hz) (Tab.frame _ _ _ _ s1 (Ak.trans (hz.mono Ak.size))))
        have K2 := Lib.hid (fun wz (hz : Below wk.heap.size wk wz) => spec_TableTimes_c (Tab.frame _ _ _ _ s2 (Ak.trans (hz.mono Ak.size))) (Tab.frame _ _ _ _ tS hz))
        have hkm : (k : Int) < (n : Int) := by omega
        have Hbk := Lib.hid Ak
        clear tR tS s1 s2 Ak HP
        generalize ttOk R x.1 = k1 at K1 HVx
        generalize ttOk x.2 S = k2 at K2 HVx
        go_wp2
        have hS0 : wk.cell? ⟨B, 0, none⟩ = some (.slice ra rn rc) ∧ wk.cell? ⟨b, o + k * 2, none⟩ = some (.slice p1 pn1 pc1) := ⟨d0, f0⟩
        have hSd : wk.drew.cell? ⟨B, 0, none⟩ = some (.slice ra rn rc) ∧ wk.drew.cell? ⟨b, o + k * 2, none⟩ = some (.slice p1 pn1 pc1) := hS0
        have HSS := Lib.hid (fun (wz : World) (hb3 : Below wk.heap.size wk wz) => (show wz.cell? ⟨B, 0, none⟩ = some (.slice ra rn rc) ∧ wz.cell? ⟨b, o + k * 2, none⟩ = some (.slice p1 pn1 pc1) from ⟨(hb3.cell (p := ⟨B, 0, none⟩) hB2).trans d0, (hb3.cell (p := ⟨b, o + k * 2, none⟩) hbk).trans f0⟩))
        have B1 := (Below.refl wk.heap.size wk).drew
        have D1 := Lib.hid (K1.out _ B1)
        go_region_held3 (fun w' => w'.cell? ⟨B, 0, none⟩ = some (.slice ra rn rc) ∧ w'.cell? ⟨b, o + k * 2, none⟩ = some (.slice p1 pn1 pc1))
          (first | with_reducible exact hS1 | with_reducible exact hSd | with_reducible exact hS0 | go_keep)
          ((first
            | (go_at_call 119; (with_reducible refine D1.out.mono ?_); rintro e w5 ⟨v5, rfl, hn5, hb5⟩; have B5 := B1.trans (hb5.mono B1.size); have hS1 := HSS.out _ B5; obtain ⟨ra2, rn2, rc2, rfl⟩ := hn5.slice)
            | fail))
        have Hn5 := Lib.hid hn5
        have H5 := Lib.hid B5
        have hz5 := B5.size
        replace d1 := (B5.cell (p := ⟨B, 1, none⟩) hB2).trans d1
        replace f1 := (B5.cell (p := ⟨b, o + k * 2 + 1, none⟩) hbk).trans f1
        replace e0 := (B5.frozen (p := ⟨B, 0, none⟩) hB2).trans e0
        replace e1 := (B5.frozen (p := ⟨B, 1, none⟩) hB2).trans e1
        replace d0 := hS1.1
        clear hn5 hb5 hS0 hSd hS1 HSS B1 D1 K1 B5 f0
        go_wp2
        have hS0 : w5.cell? ⟨b, o + k * 2 + 1, none⟩ = some (.slice p2 pn2 pc2) ∧ w5.cell? ⟨B, 1, none⟩ = some (.slice sa sn sc) := ⟨f1, d1⟩
        have hSd : w5.drew.cell? ⟨b, o + k * 2 + 1, none⟩ = some (.slice p2 pn2 pc2) ∧ w5.drew.cell? ⟨B, 1, none⟩ = some (.slice sa sn sc) := hS0
        have HSS := Lib.hid (fun (wz : World) (hb3 : Below w5.heap.size w5 wz) => (show wz.cell? ⟨b, o + k * 2 + 1, none⟩ = some (.slice p2 pn2 pc2) ∧ wz.cell? ⟨B, 1, none⟩ = some (.slice sa sn sc) from ⟨(hb3.cell (p := ⟨b, o + k * 2 + 1, none⟩) (Nat.lt_of_lt_of_le hbk hz5)).trans f1, (hb3.cell (p := ⟨B, 1, none⟩) (Nat.lt_of_lt_of_le hB2 hz5)).trans d1⟩))
        have B1 := (Below.refl w5.heap.size w5).drew
        have D1 := Lib.hid (K2.out _ (H5.out.trans (B1.mono hz5)))
        go_region_held3 (fun w' => w'.cell? ⟨b, o + k * 2 + 1, none⟩ = some (.slice p2 pn2 pc2) ∧ w'.cell? ⟨B, 1, none⟩ = some (.slice sa sn sc))
          (first | with_reducible exact hS1 | with_reducible exact hSd | with_reducible exact hS0 | go_keep)
          ((first
            | (go_at_call 119; (with_reducible refine D1.out.mono ?_); rintro e w6 ⟨v6, rfl, hn6, hb6⟩; have B6 := B1.trans (hb6.mono B1.size); have hS1 := HSS.out _ B6; obtain ⟨sa2, sn2, sc2, rfl⟩ := hn6.slice)
            | fail))
        have HP6 := Lib.hid (New.pair Hn5.out hn6 B6 hz5)
        have H6 := Lib.hid (H5.out.trans (B6.mono hz5))
        have hz6 := B6.size
        have hB5 : B < w5.heap.size := Nat.lt_of_lt_of_le hB2 hz5
        replace d0 := (B6.cell (p := ⟨B, 0, none⟩) hB5).trans d0
        replace e0 := (B6.frozen (p := ⟨B, 0, none⟩) hB5).trans e0
        replace e1 := (B6.frozen (p := ⟨B, 1, none⟩) hB5).trans e1
        replace d1 := hS1.2
        clear hn6 hb6 hS0 hSd hS1 HSS B1 D1 K2 B6 f1 H5 
        replace c0 := (H6.out.cell (p := ⟨w.heap.size, 0, none⟩) (Nat.lt_of_lt_of_le M1 hzk)).trans c0
        replace c1 := (H6.out.cell (p := ⟨w.heap.size, 1, none⟩) (Nat.lt_of_lt_of_le M1 hzk)).trans c1
        replace fz0 := (H6.out.frozen (p := ⟨w.heap.size, 0, none⟩) (Nat.lt_of_lt_of_le M1 hzk)).trans fz0
        replace fz1 := (H6.out.frozen (p := ⟨w.heap.size, 1, none⟩) (Nat.lt_of_lt_of_le M1 hzk)).trans fz1
        have hB6 : B < w6.heap.size := Nat.lt_of_lt_of_le hB5 hz6
        by_cases hkk : k1 = true ∧ k2 = true
        · obtain ⟨rfl, rfl⟩ := hkk
          have HN := Lib.hid (show V = lagFold (xs.drop (k + 1)) (ttV R x.1, ttV x.2 S) from by rw [HVx.out, if_pos ⟨rfl, rfl⟩])
          have HR := Lib.hid (((hbel.out.trans (H6.out.mono hzk)).setCell (p := ⟨B, 0, none⟩) hB1 (.slice ra2 rn2 rc2)).setCell (p := ⟨B, 1, none⟩) hB1 (.slice sa2 sn2 sc2))
          have HPn := Lib.hid (((New.setCell_low OStep.held (New.setCell_low OStep.held HP6.out (show B < wk.heap.size from hB2) (.slice ra2 rn2 rc2) (p := ⟨B, 0, none⟩)) (show B < wk.heap.size from hB2) (.slice sa2 sn2 sc2) (p := ⟨B, 1, none⟩))).mono (lo' := w1.heap.size) hzk)
          have j0 := World.cell?_setCell_same _ _ (.slice ra2 rn2 rc2) d0
          have j1 := World.cell?_setCell_same _ _ (.slice sa2 sn2 sc2) ((World.cell?_setCell_other _ ⟨B, 0, none⟩ _ (.slice ra2 rn2 rc2) (by simp)).trans d1)
          replace j0 := (World.cell?_setCell_other _ ⟨B, 1, none⟩ _ (.slice sa2 sn2 sc2) (by simp)).trans j0
          have i0 : ((w6.setCell ⟨B, 0, none⟩ (.slice ra2 rn2 rc2)).setCell ⟨B, 1, none⟩ (.slice sa2 sn2 sc2)).frozen? ⟨B, 0, none⟩ = false := by rw [World.frozen?_setCell, World.frozen?_setCell]; exact e0
          have i1 : ((w6.setCell ⟨B, 0, none⟩ (.slice ra2 rn2 rc2)).setCell ⟨B, 1, none⟩ (.slice sa2 sn2 sc2)).frozen? ⟨B, 1, none⟩ = false := by rw [World.frozen?_setCell, World.frozen?_setCell]; exact e1
          have J0 := Lib.hid j0
          have J1 := Lib.hid j1
          have I0 := Lib.hid i0
          have I1 := Lib.hid i1
          clear HVx hbel H6 Hbk c0 c1 fz0 fz1 j0 j1 i0 i1
          go_wp2
          go_roundg (n - (k + 1))
          case measure => omega
          case rel => exact ⟨k + 1, _, _, _, _, by go_num, by omega, by omega, by omega, HN, J0.out, J1.out, I0.out, I1.out, by simp; exact hB6, HPn, HR⟩
        · have HK := Lib.hid (show V = none from by rw [HVx.out, if_neg hkk])
          have A6 := Lib.hid (Hbk.out.trans (H6.out.mono (by have := Hbk.out.size; omega)))
          clear HVx hbel H6 Hbk HP6
          cases k1
          · clear hkk
            go_wp2
            have r0 := World.cell?_setCell_same w6 _ (.slice none 0 0) c0
            have s1 : ((w6.setCell ⟨w.heap.size, 0, none⟩ (.slice none 0 0)).cell? ⟨w.heap.size, 1, none⟩) = some (.slice none 0 0) := (World.cell?_setCell_other _ _ _ _ (by simp)).trans c1
            have r1 := World.cell?_setCell_same _ _ (.slice none 0 0) s1
            refine bodyPost_ret (v := .tuple #[.agg #[.slice none 0 0, .slice none 0 0], .bool false]) (by simp [results, Try.results38, go_sem, r0, r1]) rfl ?_
            exact ⟨_, by rw [HK.out]; rfl, by rw [HK.out]; exact New.none2 (by simp; have := (A6.out).size; omega), ((A6.out).setCell (p := ⟨w.heap.size, 0, none⟩) (Nat.le_refl _) _).setCell (p := ⟨w.heap.size, 1, none⟩) (Nat.le_refl _) _⟩
          · cases k2
            · clear hkk
              go_wp2
              have r0 := World.cell?_setCell_same w6 _ (.slice none 0 0) c0
              have s1 : ((w6.setCell ⟨w.heap.size, 0, none⟩ (.slice none 0 0)).cell? ⟨w.heap.size, 1, none⟩) = some (.slice none 0 0) := (World.cell?_setCell_other _ _ _ _ (by simp)).trans c1
              have r1 := World.cell?_setCell_same _ _ (.slice none 0 0) s1
              refine bodyPost_ret (v := .tuple #[.agg #[.slice none 0 0, .slice none 0 0], .bool false]) (by simp [results, Try.results38, go_sem, r0, r1]) rfl ?_
              exact ⟨_, by rw [HK.out]; rfl, by rw [HK.out]; exact New.none2 (by simp; have := (A6.out).size; omega), ((A6.out).setCell (p := ⟨w.heap.size, 0, none⟩) (Nat.le_refl _) _).setCell (p := ⟨w.heap.size, 1, none⟩) (Nat.le_refl _) _⟩
            · exact absurd ⟨rfl, rfl⟩ hkk
      · obtain rfl : k = n := by omega
        have HN := Lib.hid (show V = some (R, S) from by rw [HVk.out, List.drop_eq_nil_of_le (by have := Hn.out; omega)]; rfl)
        have Ak := Lib.hid (A1.out.trans (hbel.out.mono A1.out.size))
        clear HVk hbel HS Hx0
        have hm1 : w.heap.size < w1.heap.size := M1
        go_wp2
        have r0 := World.cell?_setCell_same wk _ (.slice ra rn rc) c0
        have s1 : ((wk.setCell ⟨w.heap.size, 0, none⟩ (.slice ra rn rc)).cell? ⟨w.heap.size, 1, none⟩) = some (.slice none 0 0) := (World.cell?_setCell_other _ _ _ _ (by simp)).trans c1
        have r1 := World.cell?_setCell_same _ _ (.slice sa sn sc) s1
        refine bodyPost_ret (v := .tuple #[.agg #[.slice ra rn rc, .slice sa sn sc], .bool true]) (by simp [results, Try.results38, go_sem, r0, r1]) rfl ?_
        exact ⟨_, by rw [HN.out]; rfl, by rw [HN.out]; exact (New.setCell_low OStep.held (New.setCell_low OStep.held HP.out (show w.heap.size < w1.heap.size from hm1) _) (show w.heap.size < w1.heap.size from hm1) _).mono (Nat.le_of_lt hm1), ((Ak.out).setCell (p := ⟨w.heap.size, 0, none⟩) (Nat.le_refl _) _).setCell (p := ⟨w.heap.size, 1, none⟩) (Nat.le_refl _) _⟩
end Go.Proofs.Ytlkgkfgpnnahdaa
end

section
/-
  TurnedPoly, ZetaNumbers and SameAwayFromZero, both sides.
-/
namespace Go.Proofs.Ytlkgkfgpnnahdaa
open Go.RowKit Go.Deep Go.Sd
set_option linter.unusedSimpArgs false
theorem coefs_len (m : List (List Int)) (n : Nat) : (coefs m n).length = n + 1 := by simp [coefs]
theorem coefs_at (m : List (List Int)) {n j : Nat} (h : j ≤ n) : (coefs m n)[j]? = some (coef m n j) := by simp [coefs, Nat.lt_succ_of_le h]
theorem charL_at (m : List (List Int)) {n j : Nat} (h : j ≤ n) : (charL m n)[n - j]? = some (coef m n j) := by
  unfold charL
  rw [rowOf_at (by omega), show n - (n - j) = j by omega]
theorem take_at {xs : List Int} {j : Nat} {x : Int} (h : xs[j]? = some x) : xs.take (j + 1) = xs.take j ++ [x] := by
  rw [List.take_add_one, h]; rfl
set_option maxHeartbeats 1000000 in
set_option maxRecDepth 100000 in
theorem impl_TurnedPoly_c {w : World} {va : Value} {m : List (List Int)} (h : Tab w va m) :
    Calls Try.prog 123 #[va] w (Makes (OInts 3) w (turnedP m)) := by
  have HI := Lib.hid (impl_IsSmall_c h)
  have HT := Lib.hid h
  obtain ⟨va0, vc0, rfl, -⟩ := h.shape
  clear h
  cases hsm : smallM m with
  | false =>
    have HF := Lib.hid (show turnedP m = [] from by unfold turnedP; rw [if_neg (by rw [hsm]; simp)])
    rw [hsm] at HI
    clear hsm HT
    go_enter Try.func123, Try.ntmps123
    go_wp2_with fail
    (with_reducible refine HI.out.mono ?_)
    rintro e w9 ⟨rfl, hw9⟩
    rw [hw9]
    clear hw9 w9
    go_wp2
    go_ret
    exact ⟨_, rfl, by rw [HF.out]; exact New.nil _ _, Below.refl _ _⟩
  | true =>
  obtain ⟨hm1, hm4, hbd⟩ := smallM_sq hsm
  have hsq := (isMat_sq hm1).1
  have HF := Lib.hid (show turnedP m = cutL (coefs m m.length) from by unfold turnedP; rw [if_pos hsm])
  rw [hsm] at HI
  have HC := Lib.hid (charPoly_c HT.out hsq hm4 hbd)
  generalize turnedP m = R at HF ⊢
  obtain ⟨n, hn⟩ : ∃ n, n = m.length := ⟨_, rfl⟩
  rw [← hn] at HI HF HC hm4 ⊢
  have HAt := Lib.hid (fun j (h : j ≤ n) => coefs_at m h)
  have HCt := Lib.hid (fun j (h : j ≤ n) => charL_at m h)
  have HCl := Lib.hid (show (charL m n).length = n + 1 from rowOf_len _ _)
  have Hcl := Lib.hid (coefs_len m n)
  generalize coefs m n = cs at HF HAt Hcl
  generalize charL m n = ch at HC HCt HCl
  clear hsm hm1 hbd hsq hn HT
  go_enter Try.func123, Try.ntmps123
  go_wp2_with fail
  (with_reducible refine HI.out.mono ?_)
  rintro e w9 ⟨rfl, hw9⟩
  rw [hw9]
  clear hw9 w9
  go_wp2_with fail
  (with_reducible refine HC.out.mono ?_)
  rintro e w1 ⟨vp, rfl, hnp, hb1⟩
  obtain ⟨pa, pc, rfl, -, -, hpx⟩ := (New.ints hnp).shape
  have HPx := Lib.hid hpx
  have hz1 := hb1.size
  have HB1 := Lib.hid hb1
  rw [HCl.out]
  have hw0 : IntKind.i64.wrap ((n : Int) + 1 - 1) = (n : Int) := by rw [IntWalk.i64_in _ (by omega)]; omega
  have hw00 : wrap64 ((n : Int) + 1 - 1) = (n : Int) := by rw [IntWalk.wrap64_in _ (by omega)]; omega
  clear HI HC hnp hpx hb1
  have HN0 := Lib.hid (New.empty (e := 3) (R := OIntR) w1 (Nat.le_refl w1.heap.size))
  have HB0 := Lib.hid ((Below.refl w1.heap.size w1).alloc (Nat.le_refl _) (.cells #[] 3))
  go_wp2
  go_loopg [4, 5] (n + 1) (fun g v i wr => ∃ (t : Int) (j : Nat), i = .int .i64 t ∧ t + 1 = (g : Int) ∧ j + g = n + 1 ∧ Hid (New (OInts 3) w1.heap.size wr v (cs.take j)) ∧ Hid (Below w1.heap.size w1 wr))
  case atStart => exact ⟨n, 0, rfl, by omega, by omega, HN0, HB0⟩
  case round =>
    clear HN0 HB0
    obtain ⟨t, j, rfl, ht, hj, Hn, Hb⟩ := hrel
    obtain ⟨wk, rfl⟩ : ∃ x, x = wr := ⟨_, rfl⟩
    have hle := Hb.out.size
    obtain ⟨oa, oc, rfl, -⟩ := (New.ints Hn.out).shape
    by_cases hg : 0 < gk
    · obtain ⟨g, hgk⟩ : ∃ g, gk = g + 1 := ⟨gk - 1, by omega⟩
      subst hgk
      obtain rfl : t = (g : Int) := by omega
      have hji : (0 : Int) ≤ (g : Int) := by omega
      obtain ⟨b, o, rfl, hb, hc⟩ := HPx.out (by have := HCl.out; omega)
      obtain ⟨u, hu, hux⟩ := hc (n - j) _ (HCt.out j (by omega))
      have hgj : n - j = g := by omega
      rw [hgj] at hu
      have hux' : u = .int .i64 (coef m n j) := hux
      rw [hux'] at hu
      have gx := (Hb.out.cell (p := ⟨b, o + g, none⟩) hb).trans hu
      have HTk := Lib.hid (take_at (HAt.out j (by omega)))
      have hrl := Lib.hid (show (cs.take j).length ≤ 9 from by rw [List.length_take]; omega)
      have hgn : (g : Int) < (n : Int) + 1 := by omega
      obtain ⟨ln, hln⟩ : ∃ x, x = (cs.take j).length := ⟨_, rfl⟩
      have Hln := Lib.hid hln
      rw [← hln] at Hn ⊢
      generalize coef m n j = x at gx HTk
      have hw1 : IntKind.i64.wrap ((g : Int) - 1) = (g : Int) - 1 := IntWalk.i64_in _ (by omega)
      have hw2 : wrap64 ((g : Int) - 1) = (g : Int) - 1 := IntWalk.wrap64_in _ (by omega)
      clear hu hux hux' hc hgj hln ht
      go_wp2_with (at_builtin; refine wpl_push (w0 := wk) (lo := w1.heap.size) (y := x) OIntR.kept rfl (.tmp 19) (.tmp 24) 33 rfl 3 (.int .i64 0) 8 Try.underlying33 infoI rfl Hn.out hle ((Below.refl _ _).alloc (Nat.le_refl _) _) ⟨[], ⟨rfl, rfl⟩, by simp [Fresh]⟩ (bb := wk.heap.size) (c := 1) (by simp) rfl rfl (by have := hrl.out; omega) (by have := hrl.out; omega) ?_; intro v3 w3 hn3 _ _ hb3; have Hn3 := Lib.hid hn3; have Hb3 := Lib.hid hb3; clear hn3 hb3)
      go_roundg g
      case measure => omega
      case rel => exact ⟨(g : Int) - 1, j + 1, rfl, by omega, by omega, Lib.hid (by rw [HTk.out]; exact Hn3.out), Lib.hid (Hb.out.trans Hb3.out)⟩
    · obtain rfl : gk = 0 := by omega
      have hji : ¬ ((0 : Int) ≤ t) := by omega
      have hj1 : j = n + 1 := by omega
      have hnn := Hn.out
      rw [hj1, List.take_of_length_le (by rw [Hcl.out]; exact Nat.le_refl _)] at hnn
      have hcl := Hcl.out
      obtain ⟨bz, cz, hvz, -⟩ := hnn.int_at (i := 0) (x := coef m n 0) (HAt.out 0 (by omega))
      simp only [Value.slice.injEq] at hvz
      obtain ⟨rfl, -, rfl⟩ := hvz
      have HTr := Lib.hid (trimmed_c hnn (by omega))
      rw [hj1, List.take_of_length_le (by rw [Hcl.out]; exact Nat.le_refl _)]
      clear hj1 hnn hcl Hn
      go_wp2_with fail
      (with_reducible refine HTr.out.mono ?_)
      rintro e w4 ⟨r, rfl, hnr, rfl⟩
      have HNr := Lib.hid (hnr.mono hz1)
      clear hnr HTr
      go_wp2
      go_ret
      exact ⟨_, rfl, by rw [HF.out]; exact HNr.out, HB1.out.trans (Hb.out.mono hz1)⟩
set_option maxHeartbeats 1000000 in
set_option maxRecDepth 100000 in
theorem spec_TurnedPoly_c {w : World} {va : Value} {m : List (List Int)} (h : Tab w va m) :
    Calls Try.prog 125 #[va] w (Makes (OInts 3) w (turnedP m)) := by
  have HI := Lib.hid (spec_IsSmall_c h)
  have HT := Lib.hid h
  obtain ⟨va0, vc0, rfl, -⟩ := h.shape
  clear h
  cases hsm : smallM m with
  | false =>
    have HF := Lib.hid (show turnedP m = [] from by unfold turnedP; rw [if_neg (by rw [hsm]; simp)])
    rw [hsm] at HI
    clear hsm HT
    go_enter Try.func125, Try.ntmps125
    go_wp2_with fail
    (with_reducible refine HI.out.mono ?_)
    rintro e w9 ⟨rfl, hw9⟩
    rw [hw9]
    clear hw9 w9
    go_wp2
    go_ret
    exact ⟨_, rfl, by rw [HF.out]; exact New.empty _ (Nat.le_refl _), (Below.refl _ _).alloc (Nat.le_refl _) _⟩
  | true =>
  obtain ⟨hm1, hm4, hbd⟩ := smallM_sq hsm
  have hsq := (isMat_sq hm1).1
  have HF := Lib.hid (show turnedP m = cutL (coefs m m.length) from by unfold turnedP; rw [if_pos hsm])
  rw [hsm] at HI
  have HC := Lib.hid (fun w1 (k : Nat) (hb : Below w.heap.size w w1) => l7Minors_c (k := k) (Tab.frame _ _ _ _ HT.out hb) hsq hm4 hbd)
  have HMb := Lib.hid (fun (k : Nat) => (show -2519424 ≤ minS m m.length k (2 ^ m.length) ∧ minS m m.length k (2 ^ m.length) ≤ 2519424 from by
    have h1 := minS_bd16 (k := k) hsq hm4 hbd (Nat.le_refl (2 ^ m.length))
    have h2 := detB_mono k
    omega))
  have HCo := Lib.hid (fun (k : Nat) => (show coef m m.length k = sgn k * minS m m.length k (2 ^ m.length) from rfl))
  generalize turnedP m = R at HF ⊢
  obtain ⟨n, hn⟩ : ∃ n, n = m.length := ⟨_, rfl⟩
  rw [← hn] at HI HF HC HMb HCo hm4 ⊢
  have HAt := Lib.hid (fun j (h : j ≤ n) => coefs_at m h)
  have Hcl := Lib.hid (coefs_len m n)
  generalize coefs m n = cs at HF HAt Hcl
  clear hsm hm1 hbd hsq hn HT
  go_enter Try.func125, Try.ntmps125
  go_wp2_with fail
  (with_reducible refine HI.out.mono ?_)
  rintro e w9 ⟨rfl, hw9⟩
  rw [hw9]
  clear hw9 w9
  have HN0 := Lib.hid (New.empty (e := 3) (R := OIntR) w (Nat.le_refl w.heap.size))
  have HB0 := Lib.hid ((Below.refl w.heap.size w).alloc (Nat.le_refl _) (.cells #[] 3))
  clear HI
  go_wp2
  go_loopg [3, 4, 5] (n + 1) (fun g v sg i wr => ∃ (j : Nat) (s : Int), sg = .int .i64 s ∧ i = .int .i64 j ∧ j + g = n + 1 ∧ Hid (s = sgn j) ∧ Hid (New (OInts 3) w.heap.size wr v (cs.take j)) ∧ Hid (Below w.heap.size w wr))
  case atStart => exact ⟨0, 1, rfl, rfl, by omega, Lib.hid rfl, HN0, HB0⟩
  case round =>
    clear HN0 HB0
    obtain ⟨j, s, rfl, rfl, hj, Hs, Hn, Hb⟩ := hrel
    obtain ⟨wk, rfl⟩ : ∃ x, x = wr := ⟨_, rfl⟩
    have hle := Hb.out.size
    obtain ⟨oa, oc, rfl, -⟩ := (New.ints Hn.out).shape
    by_cases hjn : j ≤ n
    · have hji : (j : Int) ≤ (n : Int) := by omega
      obtain ⟨g, rfl⟩ : ∃ x, gk = x + 1 := ⟨gk - 1, by omega⟩
      have hsb : s = 1 ∨ s = -1 := by rw [Hs.out]; exact sgn_bd j
      have hneg : IntKind.i64.wrap (-s) = -s := IntWalk.i64_in _ (by omega)
      have HSg := Lib.hid (show -s = sgn (j + 1) from by rw [sgn_next, Hs.out])
      have HCk := Lib.hid (HC.out wk j Hb.out)
      have hmb := HMb.out j
      have hcj := HCo.out j
      rw [← Hs.out] at hcj
      have hat := HAt.out j hjn
      rw [hcj] at hat
      have HTk := Lib.hid (take_at hat)
      have hrl := Lib.hid (show (cs.take j).length ≤ 9 from by rw [List.length_take]; omega)
      obtain ⟨ln, hln⟩ : ∃ x, x = (cs.take j).length := ⟨_, rfl⟩
      have Hln := Lib.hid hln
      rw [← hln] at Hn ⊢
      generalize minS m n j (2 ^ n) = D at HCk hmb HTk
      have hp : -2519424 ≤ s * D ∧ s * D ≤ 2519424 := by
        have := prod_bd (X := 1) (Y := 2519424) (x := s) (y := D) (by omega) hmb
        omega
      have hw1 : IntKind.i64.wrap (s * D) = s * D := IntWalk.i64_in _ (by omega)
      clear hln hcj hat hp hmb hsb
      go_wp2_with fail
      (with_reducible refine HCk.out.mono ?_)
      rintro e w2 ⟨rfl, hb2⟩
      have Hb2 := Lib.hid (Hb.out.trans (hb2.mono hle))
      have hz2 := Hb2.out.size
      have Hn2 := Lib.hid (Hn.out.keep (OInts.kept _) hb2 (Nat.le_refl _))
      clear hb2 HCk Hn
      go_wp2_with (at_builtin; refine wpl_push (w0 := w2) (lo := w.heap.size) (y := (s * D)) OIntR.kept rfl (.tmp 17) (.tmp 23) 33 rfl 3 (.int .i64 0) 8 Try.underlying33 infoI rfl Hn2.out hz2 ((Below.refl _ _).alloc (Nat.le_refl _) _) ⟨[], ⟨rfl, rfl⟩, by simp [Fresh]⟩ (bb := w2.heap.size) (c := 1) (by simp) rfl rfl (by have := hrl.out; omega) (by have := hrl.out; omega) ?_; intro v3 w3 hn3 _ _ hb3; have Hn3 := Lib.hid hn3; have Hb3 := Lib.hid hb3; clear hn3 hb3)
      go_roundg g
      case measure => omega
      case rel => exact ⟨j + 1, -s, rfl, by go_num, by omega, HSg, Lib.hid (by rw [HTk.out]; exact Hn3.out), Lib.hid (Hb2.out.trans Hb3.out)⟩
    · have hji : ¬ ((j : Int) ≤ (n : Int)) := by omega
      have hj1 : j = n + 1 := by omega
      have hnn := Hn.out
      rw [hj1, List.take_of_length_le (by rw [Hcl.out]; exact Nat.le_refl _)] at hnn
      have hcl := Hcl.out
      have HTr := Lib.hid (l7Cut_c (New.ints hnn) (by omega) (by omega))
      rw [hj1, List.take_of_length_le (by rw [Hcl.out]; exact Nat.le_refl _)]
      clear hj1 hnn hcl Hn hjn hji
      have hji : ¬ ((n : Int) + 1 ≤ (n : Int)) := by omega
      go_wp2_with fail
      (with_reducible refine HTr.out.mono ?_)
      rintro e w4 ⟨r, rfl, hnr, hb4⟩
      have HNr := Lib.hid (hnr.mono hle)
      have Hb4 := Lib.hid (Hb.out.trans (hb4.mono hle))
      clear hnr hb4 HTr
      go_wp2
      go_ret
      exact ⟨_, rfl, by rw [HF.out]; exact HNr.out, Hb4.out⟩
theorem zetaV_cnt (m : List (List Int)) (n : Int) : ((zetaV m n).length : Int) ≤ 1099511627776 := by have := zetaV_len m n; omega
def sameZ (a b : List (List Int)) : Bool := smallM a && (smallM b && decide (turnedP a = turnedP b))
set_option maxHeartbeats 1000000 in
set_option maxRecDepth 100000 in
theorem impl_SameAway_c {w : World} {va vb : Value} {a b : List (List Int)} (h1 : Tab w va a) (h2 : Tab w vb b) :
    Calls Try.prog 42 #[va, vb] w fun e w' => e = .returned (.bool (sameZ a b)) ∧ Below w.heap.size w w' := by
  have HIa := Lib.hid (impl_IsSmall_c h1)
  have HIb := Lib.hid (impl_IsSmall_c h2)
  have HPa := Lib.hid (impl_TurnedPoly_c h1)
  have HPb := Lib.hid (fun w1 (hb : Below w.heap.size w w1) => impl_TurnedPoly_c (Tab.frame _ _ _ _ h2 hb))
  obtain ⟨va0, vc0, rfl, -⟩ := h1.shape
  obtain ⟨vb0, vd0, rfl, -⟩ := h2.shape
  have HM := Lib.hid (show sameZ a b = (smallM a && (smallM b && decide (turnedP a = turnedP b))) from rfl)
  generalize sameZ a b = R at HM ⊢
  clear h1 h2
  cases ha : smallM a with
  | false =>
    rw [ha] at HIa HM
    have HF := Lib.hid (show R = false from by rw [HM.out]; rfl)
    clear HM HPa HPb ha
    go_enter Try.func42, Try.ntmps42
    go_wp2_with fail
    (with_reducible refine HIa.out.mono ?_)
    rintro e w9 ⟨rfl, hw9⟩
    rw [hw9]
    clear hw9 w9
    go_wp2
    go_ret
    exact ⟨by rw [HF.out]; rfl, Below.refl _ _⟩
  | true =>
  rw [ha] at HIa HM
  cases hb : smallM b with
  | false =>
    rw [hb] at HIb HM
    have HF := Lib.hid (show R = false from by rw [HM.out]; rfl)
    clear HM HPa HPb ha hb
    go_enter Try.func42, Try.ntmps42
    go_wp2_with fail
    (with_reducible refine HIa.out.mono ?_)
    rintro e w9 ⟨rfl, hw9⟩
    rw [hw9]
    clear hw9 w9
    go_wp2_with fail
    (with_reducible refine HIb.out.mono ?_)
    rintro e w9 ⟨rfl, hw9⟩
    rw [hw9]
    clear hw9 w9
    go_wp2
    go_ret
    exact ⟨by rw [HF.out]; rfl, Below.refl _ _⟩
  | true =>
  rw [hb] at HIb HM
  have HF := Lib.hid (show R = decide (turnedP a = turnedP b) from by rw [HM.out]; rfl)
  clear HM ha hb
  generalize turnedP a = pa at *
  generalize turnedP b = pb at *
  go_enter Try.func42, Try.ntmps42
  go_wp2_with fail
  (with_reducible refine HIa.out.mono ?_)
  rintro e w9 ⟨rfl, hw9⟩
  rw [hw9]
  clear hw9 w9
  go_wp2_with fail
  (with_reducible refine HIb.out.mono ?_)
  rintro e w9 ⟨rfl, hw9⟩
  rw [hw9]
  clear hw9 w9
  go_wp2_with fail
  (with_reducible refine HPa.out.mono ?_)
  rintro e w1 ⟨v1, rfl, hn1, hb1⟩
  have hz1 := hb1.size
  obtain ⟨x1, y1, rfl, -⟩ := (New.ints hn1).shape
  have hl1 := New.one (e := 33) (OInts.kept 3) hn1 hz1
  have hb1' := hb1.alloc hz1 (.cells #[.slice x1 pa.length y1] 33)
  obtain ⟨w2, e2⟩ : ∃ x, x = w1.alloc (.cells #[.slice x1 pa.length y1] 33) := ⟨_, rfl⟩
  rw [← e2] at hl1 hb1'
  have HB2 := Lib.hid hb1'
  have HL1 := Lib.hid hl1
  have e2s := e2.symm
  clear hn1 hb1 hl1 hb1' e2 HPa HIa HIb
  go_wp2_with fail
  (with_reducible refine (HPb.out w2 HB2.out).mono ?_)
  rintro e w3 ⟨v3, rfl, hn3, hb3⟩
  obtain ⟨x3, y3, rfl, -⟩ := (New.ints hn3).shape
  have hz3 := hb3.size
  have hl3 := New.one (e := 33) (OInts.kept 3) hn3 hz3
  have hb3' := hb3.alloc hz3 (.cells #[.slice x3 pb.length y3] 33)
  obtain ⟨w4, e4⟩ : ∃ x, x = w3.alloc (.cells #[.slice x3 pb.length y3] 33) := ⟨_, rfl⟩
  rw [← e4] at hl3 hb3'
  have HE := Lib.hid (impl_EqualMatrix_c (Tab.frame _ _ _ _ HL1.out.tab hb3') hl3.tab)
  have HB4 := Lib.hid (HB2.out.trans (hb3'.mono HB2.out.size))
  have hq : decide ([pa] = [pb]) = decide (pa = pb) := by simp
  rw [hq] at HE
  have e4s := e4.symm
  clear hn3 hb3 hl3 hb3' e4 HPb e2s hq HL1
  go_wp2_with fail
  (with_reducible refine HE.out.mono ?_)
  rintro e w5 ⟨rfl, hd⟩
  have HB5 := Lib.hid (HB4.out.trans (hd.below _))
  clear hd HE e4s
  generalize decide (pa = pb) = D at *
  go_wp2
  go_ret
  exact ⟨by rw [HF.out]; rfl, HB5.out⟩
set_option maxHeartbeats 1000000 in
set_option maxRecDepth 100000 in
theorem spec_SameAway_c {w : World} {va vb : Value} {a b : List (List Int)} (h1 : Tab w va a) (h2 : Tab w vb b) :
    Calls Try.prog 43 #[va, vb] w fun e w' => e = .returned (.bool (sameZ a b)) ∧ Below w.heap.size w w' := by
  have HIa := Lib.hid (spec_IsSmall_c h1)
  have HIb := Lib.hid (spec_IsSmall_c h2)
  have HPa := Lib.hid (spec_TurnedPoly_c h1)
  have HPb := Lib.hid (fun w1 (hb : Below w.heap.size w w1) => spec_TurnedPoly_c (Tab.frame _ _ _ _ h2 hb))
  obtain ⟨va0, vc0, rfl, -⟩ := h1.shape
  obtain ⟨vb0, vd0, rfl, -⟩ := h2.shape
  have HM := Lib.hid (show sameZ a b = (smallM a && (smallM b && decide (turnedP a = turnedP b))) from rfl)
  generalize sameZ a b = R at HM ⊢
  clear h1 h2
  cases ha : smallM a with
  | false =>
    rw [ha] at HIa HM
    have HF := Lib.hid (show R = false from by rw [HM.out]; rfl)
    clear HM HPa HPb ha
    go_enter Try.func43, Try.ntmps43
    go_wp2_with fail
    (with_reducible refine HIa.out.mono ?_)
    rintro e w9 ⟨rfl, hw9⟩
    rw [hw9]
    clear hw9 w9
    go_wp2
    go_ret
    exact ⟨by rw [HF.out]; rfl, Below.refl _ _⟩
  | true =>
  rw [ha] at HIa HM
  cases hb : smallM b with
  | false =>
    rw [hb] at HIb HM
    have HF := Lib.hid (show R = false from by rw [HM.out]; rfl)
    clear HM HPa HPb ha hb
    go_enter Try.func43, Try.ntmps43
    go_wp2_with fail
    (with_reducible refine HIa.out.mono ?_)
    rintro e w9 ⟨rfl, hw9⟩
    rw [hw9]
    clear hw9 w9
    go_wp2_with fail
    (with_reducible refine HIb.out.mono ?_)
    rintro e w9 ⟨rfl, hw9⟩
    rw [hw9]
    clear hw9 w9
    go_wp2
    go_ret
    exact ⟨by rw [HF.out]; rfl, Below.refl _ _⟩
  | true =>
  rw [hb] at HIb HM
  have HF := Lib.hid (show R = decide (turnedP a = turnedP b) from by rw [HM.out]; rfl)
  clear HM ha hb
  generalize turnedP a = pa at *
  generalize turnedP b = pb at *
  go_enter Try.func43, Try.ntmps43
  go_wp2_with fail
  (with_reducible refine HIa.out.mono ?_)
  rintro e w9 ⟨rfl, hw9⟩
  rw [hw9]
  clear hw9 w9
  go_wp2_with fail
  (with_reducible refine HIb.out.mono ?_)
  rintro e w9 ⟨rfl, hw9⟩
  rw [hw9]
  clear hw9 w9
  go_wp2_with fail
  (with_reducible refine HPa.out.mono ?_)
  rintro e w1 ⟨v1, rfl, hn1, hb1⟩
  have hz1 := hb1.size
  obtain ⟨x1, y1, rfl, -⟩ := (New.ints hn1).shape
  have HB2 := Lib.hid hb1
  have HN1 := Lib.hid hn1
  clear hn1 hb1 HPa HIa HIb
  go_wp2_with fail
  (with_reducible refine (HPb.out w1 HB2.out).mono ?_)
  rintro e w3 ⟨v3, rfl, hn3, hb3⟩
  obtain ⟨x3, y3, rfl, -⟩ := (New.ints hn3).shape
  have HE := Lib.hid (l4SameRow_c (Ints.frame _ _ _ _ HN1.out.ints hb3) hn3.ints)
  have HB4 := Lib.hid (HB2.out.trans (hb3.mono hz1))
  clear hn3 hb3 HPb HN1
  go_wp2_with fail
  (with_reducible refine HE.out.mono ?_)
  rintro e w5 ⟨rfl, hd⟩
  have HB5 := Lib.hid (HB4.out.trans (hd.below _))
  clear hd HE
  generalize decide (pa = pb) = D at *
  go_wp2
  go_ret
  exact ⟨by rw [HF.out]; rfl, HB5.out⟩
end Go.Proofs.Ytlkgkfgpnnahdaa
end

section
/-
  A slice of bytes that came in, opened.
-/
namespace Go.Sd
open Go.ChangeShapes Go.WideShapes Go.ChangeAt Go.RowKit Go.Deep
section
variable {H : Type} {enc : TypeId × Value → H} {P : Program} {W : World} {base : Nat}
theorem open_Bytes {t q : TypeId} (ht : P.underlying t = some (.slice q)) (hq : P.underlying q = some (.int .u8)) (cq : P.cellsOf q = 1) {v : Value} {d : DataW H} {p : List MemPlace}
    (hv : Value.okWide P W .any base t v) (h : DataW.Trod enc P W 0 (fun _ => true) true t v d p) : ∃ xs, BytR W v xs ∧ True := by
  obtain ⟨a, len, cap, rfl⟩ := okWide_slice ht hv
  obtain ⟨fuel, hf⟩ := h
  have h := hf
  simp only [Value.cells] at h
  rcases open_ints ht hq cq h with ⟨hcs, _⟩ | ⟨a', l, c, zs, hcs, _, hl, hm, hz, _, hcell, hwz⟩
  · simp at hcs
    obtain ⟨rfl, rfl, rfl⟩ := hcs
    exact ⟨[], ⟨[], Sl.mk' rfl (by simp) (by simp) (by simp) (by simp), rfl, by simp⟩, trivial⟩
  · simp at hcs
    obtain ⟨rfl, rfl, rfl⟩ := hcs
    simp only [if_true] at hz
    have hm' : cap ≤ 9223372036854775807 := hm
    refine ⟨zs.take len, ⟨(zs.take len).map (Value.int .u8), Sl.mk' (by simp; omega) hl hm' ?_ (by simp), by simp, ?_⟩, trivial⟩
    · intro a'' ha i u hu
      cases ha
      rw [List.getElem?_map, Option.map_eq_some_iff] at hu
      obtain ⟨z, hz1, rfl⟩ := hu
      have hi : i < (zs.take len).length := (List.getElem?_eq_some_iff.1 hz1).1
      rw [List.length_take] at hi
      rw [List.getElem?_take, if_pos (by omega)] at hz1
      have := hcell i (by omega)
      rw [List.getD, hz1] at this
      simpa using this
    · intro i u z hu hz1
      rw [List.getElem?_map, hz1] at hu
      simp at hu
      exact hu.symm
end
end Go.Sd
end

section
/-
  Inputs that are too long.
-/
namespace Go.Proofs.Ytlkgkfgpnnahdaa
open Go.RowKit Go.Deep Go.Sd
set_option linter.unusedSimpArgs false
set_option maxHeartbeats 1000000 in
theorem big_c {w : World} {a : Option Addr} {n c : Nat} (hn : n ≤ 9223372036854775807) :
    Calls Try.prog 7 #[.slice a n c] w fun e w' => e = .returned (.bool (decide (1048576 < n))) ∧ w = w' := by
  have hd : decide ((1048576 : Int) < (n : Int)) = decide (1048576 < n) := decide_eq_decide.2 (by omega)
  generalize decide (1048576 < n) = D at hd ⊢
  go_enter Try.func7, Try.ntmps7
  go_wp2
  go_ret
  exact ⟨by rw [← hd]; rfl, rfl⟩
end Go.Proofs.Ytlkgkfgpnnahdaa
end

section
/-
  Equal traces make SameAwayFromZero true.
-/
namespace Go.Proofs.Ytlkgkfgpnnahdaa
open Go.RowKit Go.Deep Go.Sd
theorem sameZ_of' {a b : List (List Int)} (ha : smallM a = true) (hb : smallM b = true) (h : SameTr a b) : sameZ a b = true := by
  unfold sameZ
  rw [ha, hb, decide_eq_true (turned_same ha hb h)]
  rfl
end Go.Proofs.Ytlkgkfgpnnahdaa
end
