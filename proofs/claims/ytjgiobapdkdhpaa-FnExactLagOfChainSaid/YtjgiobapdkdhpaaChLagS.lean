/-
  LagOfChain, the reference's.
-/
import Derived.Test.YtjgiobapdkdhpaaRows
import Derived.Test.YtjgiobapdkdhpaaBase
import Derived.Test.YtjgiobapdkdhpaaTabs
import Derived.Test.YtjgiobapdkdhpaaHarn
import Derived.Test.YtjgiobapdkdhpaaZero
import Derived.Test.YtjgiobapdkdhpaaTable
import Derived.Test.YtjgiobapdkdhpaaMoeb
import Derived.Test.YtjgiobapdkdhpaaStepH
import Derived.Test.YtjgiobapdkdhpaaStps
import Derived.Test.YtjgiobapdkdhpaaChain
import Derived.Test.YtjgiobapdkdhpaaFindN
import Derived.Test.YtjgiobapdkdhpaaChLagM
import Derived.Test.YtjgiobapdkdhpaaBoxKit
import Derived.WalkSpells
import Derived.IntWalk
import Derived.Deep.RegionHeld3
import Derived.Deep.DeepCutAuto
namespace Go.Proofs.Ytjgiobapdkdhpaa
open Go.RowKit Go.Deep Go.Sd

theorem New.pair_gap {eI eR : TypeId} {lo : Nat} {w2 w : World} {v1 v2 : Value} {x1 x2 : Tb} (h1 : New (OTab eI eR) lo w2 v1 x1) (h2 : New (OTab eI eR) (w2.heap.size + 1) w v2 x2) (hb : Below w2.heap.size w2 w) (hlo : lo ≤ w2.heap.size) (u1 u2 : Value) :
    New (OStep eI eR) lo ((w.setCell ⟨w2.heap.size, 0, none⟩ u1).setCell ⟨w2.heap.size, 1, none⟩ u2) (.agg #[v1, v2]) (x1, x2) := by
  obtain ⟨F, hF, hn, hge⟩ := h1
  obtain ⟨G, hG, hm, hgg⟩ := h2
  have hlt := (OTab.kept eI eR).lt _ _ _ _ hF
  have st : ∀ b, b ≠ w2.heap.size → ((w.setCell ⟨w2.heap.size, 0, none⟩ u1).setCell ⟨w2.heap.size, 1, none⟩ u2).heap[b]? = w.heap[b]? := fun b hb' =>
    (Below.heap_setCell _ _ _ _ hb').trans (Below.heap_setCell _ _ _ _ hb')
  refine ⟨F ++ G, ⟨v1, v2, F, G, rfl, (OTab.kept _ _).keep _ _ _ _ _ hF fun b hb' => (st b ?_).trans (hb.block b (hlt b hb')), (OTab.kept _ _).keep _ _ _ _ _ hG fun b hb' => st b ?_, rfl⟩, List.nodup_append.2 ⟨hn, hm, fun a ha b hb' e => ?_⟩, fun b hb' => ?_⟩
  · have := hlt b hb'; omega
  · have := hgg b hb'; omega
  · subst e
    have := hlt a ha
    have := hgg a hb'
    omega
  · rcases List.mem_append.1 hb' with h | h
    · exact hge b h
    · have := hgg b h; omega
set_option maxHeartbeats 4000000 in
set_option maxRecDepth 10000 in
theorem spec_LagOfChain_c {w : World} {v1 v2 : Value} {ts : List Tb} {xs : List (Tb × Tb)} (h1 : Tabs w v1 ts) (h2 : StpsR w v2 xs) :
    Calls Try.prog 33 #[v1, v2] w (Makes2 (OStep 3 78) w (found (lagC ts xs)) (lagC ts xs).isSome) := by
  have HV := Lib.hid (show lagC ts xs = if chainM ts xs = true ∧ 1 ≤ xs.length ∧ xs.length ≤ 5 then lagFold (xs.drop 1) (xs.getD 0 ([], [])) else none from rfl)
  have HC := Lib.hid (fun w1 (hb : Below w.heap.size w w1) => spec_IsChain_c (Tabs.frame _ _ _ _ h1 hb) (StpsR.frame _ _ _ _ h2 hb))
  have HS := Lib.hid (fun (hc : chainM ts xs = true) k x (hx : xs[k]? = some x) => chainM_sm hc hx)
  have H2 := Lib.hid h2
  generalize lagC ts xs = V at HV ⊢
  generalize chainM ts xs = ch at *
  obtain ⟨ta, tc, rfl, _, _, _⟩ := h1.shape
  obtain ⟨hlx, a, c, rfl, hlc, hcb, _, hcell⟩ := h2
  clear h1
  obtain ⟨n, hn⟩ : ∃ n, n = xs.length := ⟨_, rfl⟩
  rw [← hn] at HV hcell hlx hlc HC H2 ⊢
  have Hn := Lib.hid hn
  clear hn H2
  have Hin := Lib.hid (fun w1 => l1In_c (n : Int) 1 5 w1)
  go_enter Try.func33, Try.ntmps33
  go_wp2_with fail
  have fz0 : (w.alloc (.cells #[.slice none 0 0, .slice none 0 0] 38)).frozen? ⟨w.heap.size, 0, none⟩ = false := by simp [go_sem]
  have fz1 : (w.alloc (.cells #[.slice none 0 0, .slice none 0 0] 38)).frozen? ⟨w.heap.size, 1, none⟩ = false := by simp [go_sem]
  obtain ⟨w0, ex, A0, c0, c1, m1⟩ := boxA_ex w 38 (.slice none 0 0) (.slice none 0 0)
  rw [ex] at fz0 fz1
  change Calls Try.prog _ _ (w.alloc (.cells #[.slice none 0 0, .slice none 0 0] 38)) _
  rw [ex]
  clear ex
  refine (HC.out _ A0).mono ?_
  rintro e w1 ⟨rfl, hb1⟩
  replace c0 := (hb1.cell (p := ⟨w.heap.size, 0, none⟩) m1).trans c0
  replace c1 := (hb1.cell (p := ⟨w.heap.size, 1, none⟩) m1).trans c1
  replace fz0 := (hb1.frozen (p := ⟨w.heap.size, 0, none⟩) m1).trans fz0
  replace fz1 := (hb1.frozen (p := ⟨w.heap.size, 1, none⟩) m1).trans fz1
  have A1 := Lib.hid (A0.trans (hb1.mono A0.size))
  have hz1 := hb1.size
  replace m1 := Nat.lt_of_lt_of_le m1 hz1
  clear hb1 A0 HC
  cases ch with
  | false =>
    have HK := Lib.hid (show V = none from by rw [HV.out, if_neg (by simp)])
    clear HV HS hcell
    go_wp2
    have r0 := World.cell?_setCell_same w1 _ (.slice none 0 0) c0
    have s1 : ((w1.setCell ⟨w.heap.size, 0, none⟩ (.slice none 0 0)).cell? ⟨w.heap.size, 1, none⟩) = some (.slice none 0 0) := (World.cell?_setCell_other _ _ _ _ (by simp)).trans c1
    have r1 := World.cell?_setCell_same _ _ (.slice none 0 0) s1
    refine bodyPost_ret (v := .tuple #[.agg #[.slice none 0 0, .slice none 0 0], .bool false]) (by simp [results, Try.results33, go_sem, r0, r1]) rfl ?_
    exact ⟨_, by rw [HK.out]; rfl, by rw [HK.out]; exact New.none2 (by simp; have := (A1.out).size; omega), ((A1.out).setCell (p := ⟨w.heap.size, 0, none⟩) (Nat.le_refl _) _).setCell (p := ⟨w.heap.size, 1, none⟩) (Nat.le_refl _) _⟩
  | true =>
  by_cases hn1 : n < 1
  · have HK := Lib.hid (show V = none from by rw [HV.out, if_neg (by omega)])
    clear HV HS hcell
    have hin : (decide ((1 : Int) ≤ (n : Int)) && decide ((n : Int) ≤ 5)) = false := by by_cases h : (1 : Int) ≤ (n : Int) <;> simp [h] <;> omega
    rw [hin] at Hin
    clear hin
    go_wp2_with fail
    refine (Hin.out _).mono ?_
    rintro e w' ⟨rfl, rfl⟩
    go_wp2
    have r0 := World.cell?_setCell_same w1 _ (.slice none 0 0) c0
    have s1 : ((w1.setCell ⟨w.heap.size, 0, none⟩ (.slice none 0 0)).cell? ⟨w.heap.size, 1, none⟩) = some (.slice none 0 0) := (World.cell?_setCell_other _ _ _ _ (by simp)).trans c1
    have r1 := World.cell?_setCell_same _ _ (.slice none 0 0) s1
    refine bodyPost_ret (v := .tuple #[.agg #[.slice none 0 0, .slice none 0 0], .bool false]) (by simp [results, Try.results33, go_sem, r0, r1]) rfl ?_
    exact ⟨_, by rw [HK.out]; rfl, by rw [HK.out]; exact New.none2 (by simp; have := (A1.out).size; omega), ((A1.out).setCell (p := ⟨w.heap.size, 0, none⟩) (Nat.le_refl _) _).setCell (p := ⟨w.heap.size, 1, none⟩) (Nat.le_refl _) _⟩
  by_cases hn5 : 5 < n
  · have HK := Lib.hid (show V = none from by rw [HV.out, if_neg (by omega)])
    clear HV HS hcell
    have hin : (decide ((1 : Int) ≤ (n : Int)) && decide ((n : Int) ≤ 5)) = false := by by_cases h : (1 : Int) ≤ (n : Int) <;> simp [h] <;> omega
    rw [hin] at Hin
    clear hin
    go_wp2_with fail
    refine (Hin.out _).mono ?_
    rintro e w' ⟨rfl, rfl⟩
    go_wp2
    have r0 := World.cell?_setCell_same w1 _ (.slice none 0 0) c0
    have s1 : ((w1.setCell ⟨w.heap.size, 0, none⟩ (.slice none 0 0)).cell? ⟨w.heap.size, 1, none⟩) = some (.slice none 0 0) := (World.cell?_setCell_other _ _ _ _ (by simp)).trans c1
    have r1 := World.cell?_setCell_same _ _ (.slice none 0 0) s1
    refine bodyPost_ret (v := .tuple #[.agg #[.slice none 0 0, .slice none 0 0], .bool false]) (by simp [results, Try.results33, go_sem, r0, r1]) rfl ?_
    exact ⟨_, by rw [HK.out]; rfl, by rw [HK.out]; exact New.none2 (by simp; have := (A1.out).size; omega), ((A1.out).setCell (p := ⟨w.heap.size, 0, none⟩) (Nat.le_refl _) _).setCell (p := ⟨w.heap.size, 1, none⟩) (Nat.le_refl _) _⟩
  obtain ⟨b, o, rfl, hb, hx0⟩ := hcell (by omega)
  clear hcell
  obtain ⟨x0, hx0e, _⟩ := at_lt (xs := xs) (k := 0) (by have := Hn.out; omega)
  have HVV := Lib.hid (show V = lagFold (xs.drop 1) x0 from by rw [HV.out, if_pos ⟨rfl, by omega, by omega⟩]; simp [List.getD, hx0e])
  clear HV
  obtain ⟨y1, y2, f0, f1, s1, s2⟩ := hx0 0 x0 hx0e
  have hsm := (HS.out rfl 0 x0 hx0e).sz
  clear hx0e
  rw [Nat.zero_mul, Nat.add_zero] at f0 f1
  have Hx0 := Lib.hid hx0
  clear hx0
  have C1 := Lib.hid (fun wz (hz : Below w1.heap.size w1 wz) => l4Copy_c (Tab.frame _ _ _ _ s1 (A1.out.trans (hz.mono A1.out.size))) hsm.1.1 hsm.1.2)
  have C2 := Lib.hid (fun wz (hz : Below w1.heap.size w1 wz) => l4Copy_c (Tab.frame _ _ _ _ s2 (A1.out.trans (hz.mono A1.out.size))) hsm.2.1 hsm.2.2)
  obtain ⟨q1, qn1, qc1, rfl⟩ : ∃ a n c, y1 = .slice a n c := by obtain ⟨a, c, e, _⟩ := s1.shape; exact ⟨_, _, _, e⟩
  obtain ⟨q2, qn2, qc2, rfl⟩ : ∃ a n c, y2 = .slice a n c := by obtain ⟨a, c, e, _⟩ := s2.shape; exact ⟨_, _, _, e⟩
  have g0 : w1.cell? ⟨b, o, none⟩ = some (.slice q1 qn1 qc1) := (A1.out.cell (p := ⟨b, o, none⟩) hb).trans f0
  have g1 : w1.cell? ⟨b, o + 1, none⟩ = some (.slice q2 qn2 qc2) := (A1.out.cell (p := ⟨b, o + 1, none⟩) hb).trans f1
  have hbw : b < w1.heap.size := Nat.lt_of_lt_of_le hb A1.out.size
  clear f0 f1 s1 s2 hsm
  have hn0' : (0 : Int) < (n : Int) := by omega
  have hn0N : 0 < n := by omega
  have hin : (decide ((1 : Int) ≤ (n : Int)) && decide ((n : Int) ≤ 5)) = true := by simp; omega
  rw [hin] at Hin
  go_wp2_with fail
  refine (Hin.out _).mono ?_
  rintro e w' ⟨rfl, rfl⟩
  clear Hin
  go_upto_region 3 with fail
  go_cut [6] (fun s6 wx => ∃ (B : Nat) (rv sv : Value), s6 = .pointer (some ⟨B, 0, none⟩) ∧ w1.heap.size ≤ B ∧ B < wx.heap.size ∧ wx.cell? ⟨B, 0, none⟩ = some rv ∧ wx.cell? ⟨B, 1, none⟩ = some sv ∧ wx.frozen? ⟨B, 0, none⟩ = false ∧ wx.frozen? ⟨B, 1, none⟩ = false ∧ Hid (New (OStep 3 78) w1.heap.size wx (.agg #[rv, sv]) (x0.1, x0.2)) ∧ Hid (Below w1.heap.size w1 wx))
  case first =>
    have B1 := (Below.refl w1.heap.size w1).drew
    have hS0 : w1.cell? ⟨b, o, none⟩ = some (.slice q1 qn1 qc1) ∧ w1.cell? ⟨b, o + 1, none⟩ = some (.slice q2 qn2 qc2) := ⟨g0, g1⟩
    have hSd : w1.drew.cell? ⟨b, o, none⟩ = some (.slice q1 qn1 qc1) ∧ w1.drew.cell? ⟨b, o + 1, none⟩ = some (.slice q2 qn2 qc2) := hS0
    have HSS := Lib.hid (fun (wz : World) (hb3 : Below w1.heap.size w1 wz) => (show wz.cell? ⟨b, o, none⟩ = some (.slice q1 qn1 qc1) ∧ wz.cell? ⟨b, o + 1, none⟩ = some (.slice q2 qn2 qc2) from ⟨(hb3.cell (p := ⟨b, o, none⟩) hbw).trans g0, (hb3.cell (p := ⟨b, o + 1, none⟩) hbw).trans g1⟩))
    go_region_held3 (fun w' => w'.cell? ⟨b, o, none⟩ = some (.slice q1 qn1 qc1) ∧ w'.cell? ⟨b, o + 1, none⟩ = some (.slice q2 qn2 qc2))
      (first | with_reducible exact hS2 | with_reducible exact hS1 | with_reducible exact hSd | with_reducible exact hS0 | (with_reducible exact HSS.out _ ((B3.setCell (p := ⟨w2.heap.size, 0, none⟩) hB2.size _).setCell (p := ⟨w2.heap.size, 1, none⟩) hB2.size _)) | (with_reducible exact HSS.out _ ((B3.setCell (p := ⟨w1.heap.size, 0, none⟩) (Nat.le_refl _) _).setCell (p := ⟨w1.heap.size, 1, none⟩) (Nat.le_refl _) _)) | (with_reducible exact HSS.out _ (B3.alloc B3.size _)) | go_keep)
      ((first
        | (go_at_call 89; have hB2 := B2; (first
          | ((with_reducible refine (C2.out _ B2).mono ?_); rintro e w3 ⟨r3, rfl, hn3, hb3⟩; obtain ⟨sa, sn, sc, rfl⟩ := hn3.slice; have B3 := B2.trans (hb3.mono B2.size); (first | (replace ka := (hb3.cell (p := ⟨w1.heap.size, 0, none⟩) hkB).trans ka; replace kb := (hb3.cell (p := ⟨w1.heap.size, 1, none⟩) hkB).trans kb; replace kc := (hb3.frozen (p := ⟨w1.heap.size, 0, none⟩) hkB).trans kc; replace kd := (hb3.frozen (p := ⟨w1.heap.size, 1, none⟩) hkB).trans kd) | skip))
          | (have B2a := B2.alloc B2.size (.cells #[.slice none 0 0, .slice none 0 0] 38); (with_reducible refine (C2.out _ B2a).mono ?_); rintro e w3 ⟨r3, rfl, hn3, hb3⟩; obtain ⟨sa, sn, sc, rfl⟩ := hn3.slice; have B3 := B2a.trans (hb3.mono B2a.size); have ka : w3.cell? ⟨w2.heap.size, 0, none⟩ = some (.slice none 0 0) := (hb3.cell (p := ⟨w2.heap.size, 0, none⟩) (by simp)).trans (by simp [go_sem]); have kb : w3.cell? ⟨w2.heap.size, 1, none⟩ = some (.slice none 0 0) := (hb3.cell (p := ⟨w2.heap.size, 1, none⟩) (by simp)).trans (by simp [go_sem]); have kc : w3.frozen? ⟨w2.heap.size, 0, none⟩ = false := (hb3.frozen (p := ⟨w2.heap.size, 0, none⟩) (by simp)).trans (by simp [go_sem]); have kd : w3.frozen? ⟨w2.heap.size, 1, none⟩ = false := (hb3.frozen (p := ⟨w2.heap.size, 1, none⟩) (by simp)).trans (by simp [go_sem]))); have hS2 := HSS.out _ B3)
        | (go_at_call 89; (first
          | ((with_reducible refine (C1.out _ B1).mono ?_); rintro e w2 ⟨r2, rfl, hn2, hb2⟩; obtain ⟨ra, rn, rc, rfl⟩ := hn2.slice; have B2 := B1.trans (hb2.mono B1.size))
          | (have B1a := Below.drew ((Below.refl w1.heap.size w1).alloc (Nat.le_refl _) (.cells #[.slice none 0 0, .slice none 0 0] 38)); (with_reducible refine (C1.out _ B1a).mono ?_); rintro e w2 ⟨r2, rfl, hn2, hb2⟩; obtain ⟨ra, rn, rc, rfl⟩ := hn2.slice; have B2 := B1a.trans (hb2.mono B1a.size); have ka : w2.cell? ⟨w1.heap.size, 0, none⟩ = some (.slice none 0 0) := (hb2.cell (p := ⟨w1.heap.size, 0, none⟩) (by simp)).trans (by simp [go_sem]); have kb : w2.cell? ⟨w1.heap.size, 1, none⟩ = some (.slice none 0 0) := (hb2.cell (p := ⟨w1.heap.size, 1, none⟩) (by simp)).trans (by simp [go_sem]); have kc : w2.frozen? ⟨w1.heap.size, 0, none⟩ = false := (hb2.frozen (p := ⟨w1.heap.size, 0, none⟩) (by simp)).trans (by simp [go_sem]); have kd : w2.frozen? ⟨w1.heap.size, 1, none⟩ = false := (hb2.frozen (p := ⟨w1.heap.size, 1, none⟩) (by simp)).trans (by simp [go_sem]); have hkB : w1.heap.size < w2.heap.size := (by have := hb2.size; simp at this; omega))); have hS1 := HSS.out _ B2; have Hn2 := Lib.hid hn2; have hz2 := hb2.size)
        | fail))
    · have HPk := Lib.hid (((New.pair (lo := w1.heap.size) Hn2.out hn3 hb3 hz2).inn OStep.held).keep OStep.held ((Below.refl w3.heap.size w3).alloc (Nat.le_refl _) (.cells #[.slice ra rn rc, .slice sa sn sc] 38)) (Nat.le_refl _)).new
      have HBk := Lib.hid (B3.alloc B3.size (.cells #[.slice ra rn rc, .slice sa sn sc] 38))
      have hz3 := B3.size
      go_wp2
      go_meet
      case rel => exact ⟨w3.heap.size, _, _, rfl, hz3, by simp, by simp, by simp, by simp, by simp, HPk, HBk⟩
    · have hz3 := B3.size
      have hz4 := hb3.size
      have hz5 := hB2.size
      have e3 : (w2.alloc (.cells #[.slice none 0 0, .slice none 0 0] 38)).heap.size = w2.heap.size + 1 := by simp
      rw [e3] at hn3 hz4
      have HPk := Lib.hid (New.pair_gap (lo := w1.heap.size) Hn2.out hn3 ((Below.refl w2.heap.size w2).alloc (Nat.le_refl _) _ |>.trans (hb3.mono (by simp))) hz2 (.slice ra rn rc) (.slice sa sn sc))
      have HBk := Lib.hid ((B3.setCell (p := ⟨w2.heap.size, 0, none⟩) hz5 (.slice ra rn rc)).setCell (p := ⟨w2.heap.size, 1, none⟩) hz5 (.slice sa sn sc))
      have j0 := World.cell?_setCell_same _ _ (.slice ra rn rc) ka
      have j1 := World.cell?_setCell_same _ _ (.slice sa sn sc) ((World.cell?_setCell_other _ ⟨w2.heap.size, 0, none⟩ _ (.slice ra rn rc) (by simp)).trans kb)
      replace j0 := (World.cell?_setCell_other _ ⟨w2.heap.size, 1, none⟩ _ (.slice sa sn sc) (by simp)).trans j0
      have i0 : ((w3.setCell ⟨w2.heap.size, 0, none⟩ (.slice ra rn rc)).setCell ⟨w2.heap.size, 1, none⟩ (.slice sa sn sc)).frozen? ⟨w2.heap.size, 0, none⟩ = false := by rw [World.frozen?_setCell, World.frozen?_setCell]; exact kc
      have i1 : ((w3.setCell ⟨w2.heap.size, 0, none⟩ (.slice ra rn rc)).setCell ⟨w2.heap.size, 1, none⟩ (.slice sa sn sc)).frozen? ⟨w2.heap.size, 1, none⟩ = false := by rw [World.frozen?_setCell, World.frozen?_setCell]; exact kd
      go_wp2
      go_meet
      case rel => exact ⟨w2.heap.size, _, _, rfl, hz5, by simp <;> omega, j0, j1, i0, i1, HPk, HBk⟩
    · have hz3 := B3.size
      have e3 : (w1.alloc (.cells #[.slice none 0 0, .slice none 0 0] 38)).drew.heap.size = w1.heap.size + 1 := by simp
      have Hn2' := Hn2.out
      rw [e3] at Hn2' hz2
      have HPk := Lib.hid ((New.setCell_low OStep.held (New.setCell_low OStep.held (New.pair (lo := w1.heap.size + 1) Hn2' hn3 hb3 hz2) (show w1.heap.size < w1.heap.size + 1 by omega) (.slice ra rn rc) (p := ⟨w1.heap.size, 0, none⟩)) (show w1.heap.size < w1.heap.size + 1 by omega) (.slice sa sn sc) (p := ⟨w1.heap.size, 1, none⟩)).mono (lo' := w1.heap.size) (by omega))
      have HBk := Lib.hid ((B3.setCell (p := ⟨w1.heap.size, 0, none⟩) (Nat.le_refl _) (.slice ra rn rc)).setCell (p := ⟨w1.heap.size, 1, none⟩) (Nat.le_refl _) (.slice sa sn sc))
      have hz4 := hb3.size
      have j0 := World.cell?_setCell_same _ _ (.slice ra rn rc) ka
      have j1 := World.cell?_setCell_same _ _ (.slice sa sn sc) ((World.cell?_setCell_other _ ⟨w1.heap.size, 0, none⟩ _ (.slice ra rn rc) (by simp)).trans kb)
      replace j0 := (World.cell?_setCell_other _ ⟨w1.heap.size, 1, none⟩ _ (.slice sa sn sc) (by simp)).trans j0
      have i0 : ((w3.setCell ⟨w1.heap.size, 0, none⟩ (.slice ra rn rc)).setCell ⟨w1.heap.size, 1, none⟩ (.slice sa sn sc)).frozen? ⟨w1.heap.size, 0, none⟩ = false := by rw [World.frozen?_setCell, World.frozen?_setCell]; exact kc
      have i1 : ((w3.setCell ⟨w1.heap.size, 0, none⟩ (.slice ra rn rc)).setCell ⟨w1.heap.size, 1, none⟩ (.slice sa sn sc)).frozen? ⟨w1.heap.size, 1, none⟩ = false := by rw [World.frozen?_setCell, World.frozen?_setCell]; exact kd
      go_wp2
      go_meet
      case rel => exact ⟨w1.heap.size, _, _, rfl, Nat.le_refl _, by simp <;> omega, j0, j1, i0, i1, HPk, HBk⟩
  case rest =>
    obtain ⟨B, rv, sv, rfl, hB1, hB2, d0, d1, e0, e1, HP0, HB0⟩ := hcut
    obtain ⟨wz, rfl⟩ : ∃ x, x = wc := ⟨_, rfl⟩
    have M1 := m1
    have HV0 := Lib.hid (show V = lagFold (xs.drop 1) (x0.1, x0.2) from HVV.out)
    clear C1 C2 g0 g1 HVV
    go_wp2
    go_loopg [7] (n - 1) (fun g i wr => ∃ (k : Nat) (R S : Tb) (rv sv : Value), i = .int .i64 k ∧ k + g = n ∧ 1 ≤ k ∧ k ≤ n ∧ Hid (V = lagFold (xs.drop k) (R, S)) ∧ wr.cell? ⟨B, 0, none⟩ = some rv ∧ wr.cell? ⟨B, 1, none⟩ = some sv ∧ wr.frozen? ⟨B, 0, none⟩ = false ∧ wr.frozen? ⟨B, 1, none⟩ = false ∧ B < wr.heap.size ∧ Hid (New (OStep 3 78) w1.heap.size wr (.agg #[rv, sv]) (R, S)) ∧ Hid (Below w1.heap.size w1 wr))
    case atStart => exact ⟨1, x0.1, x0.2, rv, sv, rfl, by omega, by omega, by omega, HV0, d0, d1, e0, e1, hB2, HP0, HB0⟩
    case round =>
      obtain ⟨k, R, S, rv, sv, rfl, hk, hk1, hkn, HVk, d0, d1, e0, e1, hB2, HP, hbel⟩ := hrel
      clear HV0 HP0 HB0
      obtain ⟨wk, rfl⟩ : ∃ x, x = wr := ⟨_, rfl⟩
      have hzk := hbel.out.size
      replace c0 := (hbel.out.cell (p := ⟨w.heap.size, 0, none⟩) M1).trans c0
      replace c1 := (hbel.out.cell (p := ⟨w.heap.size, 1, none⟩) M1).trans c1
      replace fz0 := (hbel.out.frozen (p := ⟨w.heap.size, 0, none⟩) M1).trans fz0
      replace fz1 := (hbel.out.frozen (p := ⟨w.heap.size, 1, none⟩) M1).trans fz1
      obtain ⟨ra, rn, rc, sa, sn, sc, e⟩ := HP.out.stp.slices
      simp only [Value.agg.injEq, Array.mk.injEq, List.cons.injEq, and_true] at e
      obtain ⟨rfl, rfl⟩ := e
      by_cases hlt : k < n
      · obtain ⟨x, hx, hd⟩ := at_lt (xs := xs) (k := k) (by have := Hn.out; omega)
        have HVx := Lib.hid (show V = if ttOk R x.1 = true ∧ ttOk x.2 S = true then lagFold (xs.drop (k + 1)) (ttV R x.1, ttV x.2 S) else none from by rw [HVk.out, hd]; rfl)
        obtain ⟨y1, y2, f0, f1, s1, s2⟩ := Hx0.out k x hx
        clear hx hd HVk
        have Ak := A1.out.trans (hbel.out.mono A1.out.size)
        have hbk := Nat.lt_of_lt_of_le hb Ak.size
        replace f0 := (Ak.cell (p := ⟨b, o + k * 2, none⟩) hb).trans f0
        replace f1 := (Ak.cell (p := ⟨b, o + k * 2 + 1, none⟩) hb).trans f1
        obtain ⟨p1, pn1, pc1, rfl⟩ : ∃ a n c, y1 = .slice a n c := by obtain ⟨a, c, e, _⟩ := s1.shape; exact ⟨_, _, _, e⟩
        obtain ⟨p2, pn2, pc2, rfl⟩ : ∃ a n c, y2 = .slice a n c := by obtain ⟨a, c, e, _⟩ := s2.shape; exact ⟨_, _, _, e⟩
        obtain ⟨tr1, tr2, e, tR, tS⟩ := HP.out.stp
        simp only [Value.agg.injEq, Array.mk.injEq, List.cons.injEq, and_true] at e
        obtain ⟨rfl, rfl⟩ := e
        have K1 := Lib.hid (fun wz (hz : Below wk.heap.size wk wz) => spec_TableTimes_c (Tab.frame _ _ _ _ tR hz) (Tab.frame _ _ _ _ s1 (Ak.trans (hz.mono Ak.size))))
        have K2 := Lib.hid (fun wz (hz : Below wk.heap.size wk wz) => spec_TableTimes_c (Tab.frame _ _ _ _ s2 (Ak.trans (hz.mono Ak.size))) (Tab.frame _ _ _ _ tS hz))
        have hkm : (k : Int) < (n : Int) := by omega
        have Hbk := Lib.hid Ak
        clear tR tS s1 s2 Ak HP
        generalize ttOk R x.1 = k1 at K1 HVx
        generalize ttOk x.2 S = k2 at K2 HVx
        go_wp2
        have hS0 : wk.cell? ⟨B, 0, none⟩ = some (.slice ra rn rc) ∧ wk.cell? ⟨b, o + k * 2, none⟩ = some (.slice p1 pn1 pc1) := ⟨d0, f0⟩
        have hSd : wk.drew.cell? ⟨B, 0, none⟩ = some (.slice ra rn rc) ∧ wk.drew.cell? ⟨b, o + k * 2, none⟩ = some (.slice p1 pn1 pc1) := hS0
        have HSS := Lib.hid (fun (wz : World) (hb3 : Below wk.heap.size wk wz) => (show wz.cell? ⟨B, 0, none⟩ = some (.slice ra rn rc) ∧ wz.cell? ⟨b, o + k * 2, none⟩ = some (.slice p1 pn1 pc1) from ⟨(hb3.cell (p := ⟨B, 0, none⟩) hB2).trans d0, (hb3.cell (p := ⟨b, o + k * 2, none⟩) hbk).trans f0⟩))
        have B1 := (Below.refl wk.heap.size wk).drew
        have D1 := Lib.hid (K1.out _ B1)
        go_region_held3 (fun w' => w'.cell? ⟨B, 0, none⟩ = some (.slice ra rn rc) ∧ w'.cell? ⟨b, o + k * 2, none⟩ = some (.slice p1 pn1 pc1))
          (first | with_reducible exact hS1 | with_reducible exact hSd | with_reducible exact hS0 | go_keep)
          ((first
            | (go_at_call 90; (with_reducible refine D1.out.mono ?_); rintro e w5 ⟨v5, rfl, hn5, hb5⟩; have B5 := B1.trans (hb5.mono B1.size); have hS1 := HSS.out _ B5; obtain ⟨ra2, rn2, rc2, rfl⟩ := hn5.slice)
            | fail))
        have Hn5 := Lib.hid hn5
        have H5 := Lib.hid B5
        have hz5 := B5.size
        replace d1 := (B5.cell (p := ⟨B, 1, none⟩) hB2).trans d1
        replace f1 := (B5.cell (p := ⟨b, o + k * 2 + 1, none⟩) hbk).trans f1
        replace e0 := (B5.frozen (p := ⟨B, 0, none⟩) hB2).trans e0
        replace e1 := (B5.frozen (p := ⟨B, 1, none⟩) hB2).trans e1
        replace d0 := hS1.1
        clear hn5 hb5 hS0 hSd hS1 HSS B1 D1 K1 B5 f0
        go_wp2
        have hS0 : w5.cell? ⟨b, o + k * 2 + 1, none⟩ = some (.slice p2 pn2 pc2) ∧ w5.cell? ⟨B, 1, none⟩ = some (.slice sa sn sc) := ⟨f1, d1⟩
        have hSd : w5.drew.cell? ⟨b, o + k * 2 + 1, none⟩ = some (.slice p2 pn2 pc2) ∧ w5.drew.cell? ⟨B, 1, none⟩ = some (.slice sa sn sc) := hS0
        have HSS := Lib.hid (fun (wz : World) (hb3 : Below w5.heap.size w5 wz) => (show wz.cell? ⟨b, o + k * 2 + 1, none⟩ = some (.slice p2 pn2 pc2) ∧ wz.cell? ⟨B, 1, none⟩ = some (.slice sa sn sc) from ⟨(hb3.cell (p := ⟨b, o + k * 2 + 1, none⟩) (Nat.lt_of_lt_of_le hbk hz5)).trans f1, (hb3.cell (p := ⟨B, 1, none⟩) (Nat.lt_of_lt_of_le hB2 hz5)).trans d1⟩))
        have B1 := (Below.refl w5.heap.size w5).drew
        have D1 := Lib.hid (K2.out _ (H5.out.trans (B1.mono hz5)))
        go_region_held3 (fun w' => w'.cell? ⟨b, o + k * 2 + 1, none⟩ = some (.slice p2 pn2 pc2) ∧ w'.cell? ⟨B, 1, none⟩ = some (.slice sa sn sc))
          (first | with_reducible exact hS1 | with_reducible exact hSd | with_reducible exact hS0 | go_keep)
          ((first
            | (go_at_call 90; (with_reducible refine D1.out.mono ?_); rintro e w6 ⟨v6, rfl, hn6, hb6⟩; have B6 := B1.trans (hb6.mono B1.size); have hS1 := HSS.out _ B6; obtain ⟨sa2, sn2, sc2, rfl⟩ := hn6.slice)
            | fail))
        have HP6 := Lib.hid (New.pair Hn5.out hn6 B6 hz5)
        have H6 := Lib.hid (H5.out.trans (B6.mono hz5))
        have hz6 := B6.size
        have hB5 : B < w5.heap.size := Nat.lt_of_lt_of_le hB2 hz5
        replace d0 := (B6.cell (p := ⟨B, 0, none⟩) hB5).trans d0
        replace e0 := (B6.frozen (p := ⟨B, 0, none⟩) hB5).trans e0
        replace e1 := (B6.frozen (p := ⟨B, 1, none⟩) hB5).trans e1
        replace d1 := hS1.2
        clear hn6 hb6 hS0 hSd hS1 HSS B1 D1 K2 B6 f1 H5 
        replace c0 := (H6.out.cell (p := ⟨w.heap.size, 0, none⟩) (Nat.lt_of_lt_of_le M1 hzk)).trans c0
        replace c1 := (H6.out.cell (p := ⟨w.heap.size, 1, none⟩) (Nat.lt_of_lt_of_le M1 hzk)).trans c1
        replace fz0 := (H6.out.frozen (p := ⟨w.heap.size, 0, none⟩) (Nat.lt_of_lt_of_le M1 hzk)).trans fz0
        replace fz1 := (H6.out.frozen (p := ⟨w.heap.size, 1, none⟩) (Nat.lt_of_lt_of_le M1 hzk)).trans fz1
        have hB6 : B < w6.heap.size := Nat.lt_of_lt_of_le hB5 hz6
        by_cases hkk : k1 = true ∧ k2 = true
        · obtain ⟨rfl, rfl⟩ := hkk
          have HN := Lib.hid (show V = lagFold (xs.drop (k + 1)) (ttV R x.1, ttV x.2 S) from by rw [HVx.out, if_pos ⟨rfl, rfl⟩])
          have HR := Lib.hid (((hbel.out.trans (H6.out.mono hzk)).setCell (p := ⟨B, 0, none⟩) hB1 (.slice ra2 rn2 rc2)).setCell (p := ⟨B, 1, none⟩) hB1 (.slice sa2 sn2 sc2))
          have HPn := Lib.hid (((New.setCell_low OStep.held (New.setCell_low OStep.held HP6.out (show B < wk.heap.size from hB2) (.slice ra2 rn2 rc2) (p := ⟨B, 0, none⟩)) (show B < wk.heap.size from hB2) (.slice sa2 sn2 sc2) (p := ⟨B, 1, none⟩))).mono (lo' := w1.heap.size) hzk)
          have j0 := World.cell?_setCell_same _ _ (.slice ra2 rn2 rc2) d0
          have j1 := World.cell?_setCell_same _ _ (.slice sa2 sn2 sc2) ((World.cell?_setCell_other _ ⟨B, 0, none⟩ _ (.slice ra2 rn2 rc2) (by simp)).trans d1)
          replace j0 := (World.cell?_setCell_other _ ⟨B, 1, none⟩ _ (.slice sa2 sn2 sc2) (by simp)).trans j0
          have i0 : ((w6.setCell ⟨B, 0, none⟩ (.slice ra2 rn2 rc2)).setCell ⟨B, 1, none⟩ (.slice sa2 sn2 sc2)).frozen? ⟨B, 0, none⟩ = false := by rw [World.frozen?_setCell, World.frozen?_setCell]; exact e0
          have i1 : ((w6.setCell ⟨B, 0, none⟩ (.slice ra2 rn2 rc2)).setCell ⟨B, 1, none⟩ (.slice sa2 sn2 sc2)).frozen? ⟨B, 1, none⟩ = false := by rw [World.frozen?_setCell, World.frozen?_setCell]; exact e1
          have J0 := Lib.hid j0
          have J1 := Lib.hid j1
          have I0 := Lib.hid i0
          have I1 := Lib.hid i1
          clear HVx hbel H6 Hbk c0 c1 fz0 fz1 j0 j1 i0 i1
          go_wp2
          go_roundg (n - (k + 1))
          case measure => omega
          case rel => exact ⟨k + 1, _, _, _, _, by go_num, by omega, by omega, by omega, HN, J0.out, J1.out, I0.out, I1.out, by simp; exact hB6, HPn, HR⟩
        · have HK := Lib.hid (show V = none from by rw [HVx.out, if_neg hkk])
          have A6 := Lib.hid (Hbk.out.trans (H6.out.mono (by have := Hbk.out.size; omega)))
          clear HVx hbel H6 Hbk HP6
          cases k1
          · clear hkk
            go_wp2
            have r0 := World.cell?_setCell_same w6 _ (.slice none 0 0) c0
            have s1 : ((w6.setCell ⟨w.heap.size, 0, none⟩ (.slice none 0 0)).cell? ⟨w.heap.size, 1, none⟩) = some (.slice none 0 0) := (World.cell?_setCell_other _ _ _ _ (by simp)).trans c1
            have r1 := World.cell?_setCell_same _ _ (.slice none 0 0) s1
            refine bodyPost_ret (v := .tuple #[.agg #[.slice none 0 0, .slice none 0 0], .bool false]) (by simp [results, Try.results33, go_sem, r0, r1]) rfl ?_
            exact ⟨_, by rw [HK.out]; rfl, by rw [HK.out]; exact New.none2 (by simp; have := (A6.out).size; omega), ((A6.out).setCell (p := ⟨w.heap.size, 0, none⟩) (Nat.le_refl _) _).setCell (p := ⟨w.heap.size, 1, none⟩) (Nat.le_refl _) _⟩
          · cases k2
            · clear hkk
              go_wp2
              have r0 := World.cell?_setCell_same w6 _ (.slice none 0 0) c0
              have s1 : ((w6.setCell ⟨w.heap.size, 0, none⟩ (.slice none 0 0)).cell? ⟨w.heap.size, 1, none⟩) = some (.slice none 0 0) := (World.cell?_setCell_other _ _ _ _ (by simp)).trans c1
              have r1 := World.cell?_setCell_same _ _ (.slice none 0 0) s1
              refine bodyPost_ret (v := .tuple #[.agg #[.slice none 0 0, .slice none 0 0], .bool false]) (by simp [results, Try.results33, go_sem, r0, r1]) rfl ?_
              exact ⟨_, by rw [HK.out]; rfl, by rw [HK.out]; exact New.none2 (by simp; have := (A6.out).size; omega), ((A6.out).setCell (p := ⟨w.heap.size, 0, none⟩) (Nat.le_refl _) _).setCell (p := ⟨w.heap.size, 1, none⟩) (Nat.le_refl _) _⟩
            · exact absurd ⟨rfl, rfl⟩ hkk
      · obtain rfl : k = n := by omega
        have HN := Lib.hid (show V = some (R, S) from by rw [HVk.out, List.drop_eq_nil_of_le (by have := Hn.out; omega)]; rfl)
        have Ak := Lib.hid (A1.out.trans (hbel.out.mono A1.out.size))
        clear HVk hbel HS Hx0
        have hm1 : w.heap.size < w1.heap.size := M1
        go_wp2
        have r0 := World.cell?_setCell_same wk _ (.slice ra rn rc) c0
        have s1 : ((wk.setCell ⟨w.heap.size, 0, none⟩ (.slice ra rn rc)).cell? ⟨w.heap.size, 1, none⟩) = some (.slice none 0 0) := (World.cell?_setCell_other _ _ _ _ (by simp)).trans c1
        have r1 := World.cell?_setCell_same _ _ (.slice sa sn sc) s1
        refine bodyPost_ret (v := .tuple #[.agg #[.slice ra rn rc, .slice sa sn sc], .bool true]) (by simp [results, Try.results33, go_sem, r0, r1]) rfl ?_
        exact ⟨_, by rw [HN.out]; rfl, by rw [HN.out]; exact (New.setCell_low OStep.held (New.setCell_low OStep.held HP.out (show w.heap.size < w1.heap.size from hm1) _) (show w.heap.size < w1.heap.size from hm1) _).mono (Nat.le_of_lt hm1), ((Ak.out).setCell (p := ⟨w.heap.size, 0, none⟩) (Nat.le_refl _) _).setCell (p := ⟨w.heap.size, 1, none⟩) (Nat.le_refl _) _⟩
end Go.Proofs.Ytjgiobapdkdhpaa
