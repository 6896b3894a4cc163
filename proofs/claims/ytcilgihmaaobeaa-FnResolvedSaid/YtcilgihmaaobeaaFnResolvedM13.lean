/-
  Texts of this claim joined: laws for its walks, contracts of the functions that the law reaches.
-/
import Derived.Test.YtcilgihmaaobeaaRows
import Derived.Test.YtcilgihmaaobeaaFnResolvedM1
import Derived.Test.YtcilgihmaaobeaaFnResolvedM3
import Derived.Test.YtcilgihmaaobeaaFnResolvedM12
import Derived.Test.YtcilgihmaaobeaaFnResolvedM7
import Derived.Deep.RegionHeld3
import Derived.Deep.DeepCutAuto
import Derived.Test.YtcilgihmaaobeaaFnResolvedM2
import Derived.Test.YtcilgihmaaobeaaFnResolvedM4
import Derived.Test.YtcilgihmaaobeaaFnResolvedM11
import Derived.Test.YtcilgihmaaobeaaFnResolvedM6
import Derived.IntWalk
import Derived.RegionTactic
import Derived.ChangeAlike
set_option linter.unusedVariables false
set_option linter.unusedSimpArgs false
section
namespace Go.Proofs.Ytcilgihmaaobeaa
open Go.RowKit Go.Deep Go.Sd
theorem _root_.Go.Sd.New.lab0 {lo : Nat} {w : World} : New OLab lo w (.agg #[.int .i64 0, .int .i64 0, .slice none 0 0]) (0, 0, []) :=
  ⟨[], ⟨_, rfl, by simp, Or.inl ⟨rfl, rfl, rfl⟩⟩, by simp [Fresh]⟩
theorem _root_.Go.Sd.New.labAgg {lo : Nat} {w : World} {v : Value} {x : Lb} (h : New OLab lo w v x) : ∃ a n c, v = .agg #[.int .i64 x.1, .int .i64 x.2.1, .slice a n c] := by
  obtain ⟨F, ⟨va, rfl, _, ⟨_, rfl, _⟩ | ⟨B, c, rfl, _⟩⟩, _⟩ := h
  · exact ⟨_, _, _, rfl⟩
  · exact ⟨_, _, _, rfl⟩
set_option maxHeartbeats 4000000 in
set_option maxRecDepth 100000 in
theorem spec_TrimLabels_c {w : World} {v : Value} {l : Lb} (h : LabR w v l) :
    Calls Try.prog 24 #[v] w (Makes2 OLab w (trimV l) (trimOk l)) := by
  have H1 := Lib.hid (fun w1 (hb : Below w.heap.size w w1) => spec_IsLabels_c (LabR.frame _ _ _ _ h hb))
  have H2 := Lib.hid (fun (hok : isLab l = true) w1 (hb : Below w.heap.size w w1) => l14Live_c (LabR.frame _ _ _ _ h hb) hok)
  have H3 := Lib.hid (fun (hok : isLab l = true) w1 vb (hb : Below w.heap.size w w1) (hbs : SlOf (ValR Value.bool) w1 vb (liveO l)) => l14Keep_c (LabR.frame _ _ _ _ h hb) hbs hok (liveO_len l))
  have HV := Lib.hid (show trimV l = if trimOk l = true then keepV l (liveO l) else (0, 0, []) from rfl)
  have HO := Lib.hid (show trimOk l = (isLab l && decide (cntT (liveO l) ≠ 0)) from by unfold trimOk; congr 1)
  have HK := Lib.hid (show (keepV l (liveO l)).2.1 = (cntT (liveO l) : Int) from rfl)
  have HLV := Lib.hid (show liveL (ArcP l.2.2) l.2.1.toNat = liveO l from rfl)
  rw [HLV.out] at H2
  generalize trimV l = V at HV ⊢
  generalize trimOk l = ok at HV HO ⊢
  generalize isLab l = il at H1 H2 H3 HO
  generalize keepV l (liveO l) = kv at *
  generalize liveO l = lv at *
  clear HLV
  obtain ⟨L, S, xs⟩ := l
  obtain ⟨va, rfl, hlen, a, c, rfl, _, _, _, hcell⟩ := h
  simp only at *
  generalize xs.length = n at *
  clear hcell hlen
  obtain ⟨wA, eA, hA0⟩ : ∃ wA, wA = (w.alloc (.cells #[.int .i64 L, .int .i64 S, .slice a n c] 26)).alloc (.cells #[.int .i64 0, .int .i64 0, .slice none 0 0] 26) ∧ Below w.heap.size w wA := ⟨_, rfl, ((Below.refl _ _).alloc (Nat.le_refl _) _).alloc (by simp) _⟩
  have zA : wA.heap.size = w.heap.size + 1 + 1 := by rw [eA]; simp
  have l0 : wA.cell? ⟨w.heap.size, 0, none⟩ = some (.int .i64 L) := by rw [eA]; simp [go_sem]
  have l1 : wA.cell? ⟨w.heap.size, 1, none⟩ = some (.int .i64 S) := by rw [eA]; simp [go_sem]
  have l2 : wA.cell? ⟨w.heap.size, 2, none⟩ = some (.slice a n c) := by rw [eA]; simp [go_sem]
  have r0 : wA.cell? ⟨w.heap.size + 1, 0, none⟩ = some (.int .i64 0) := by rw [eA]; simp [go_sem]
  have r1 : wA.cell? ⟨w.heap.size + 1, 1, none⟩ = some (.int .i64 0) := by rw [eA]; simp [go_sem]
  have r2 : wA.cell? ⟨w.heap.size + 1, 2, none⟩ = some (.slice none 0 0) := by rw [eA]; simp [go_sem]
  have t0 : wA.frozen? ⟨w.heap.size + 1, 0, none⟩ = false := by rw [eA]; simp [go_sem]
  have t1 : wA.frozen? ⟨w.heap.size + 1, 1, none⟩ = false := by rw [eA]; simp [go_sem]
  have t2 : wA.frozen? ⟨w.heap.size + 1, 2, none⟩ = false := by rw [eA]; simp [go_sem]
  have HA := Lib.hid hA0
  have eW := eA.symm
  have h1A : w.heap.size + 1 < wA.heap.size := by omega
  have h0A : w.heap.size < wA.heap.size := by omega
  clear eA hA0 zA
  go_enter Try.func24, Try.ntmps24
  go_wp2_with fail
  refine (H1.out _ HA.out).mono ?_
  rintro e w1 ⟨rfl, hb1⟩
  replace l0 := (hb1.cell (p := ⟨w.heap.size, 0, none⟩) h0A).trans l0
  replace l1 := (hb1.cell (p := ⟨w.heap.size, 1, none⟩) h0A).trans l1
  replace l2 := (hb1.cell (p := ⟨w.heap.size, 2, none⟩) h0A).trans l2
  replace r0 := (hb1.cell (p := ⟨w.heap.size + 1, 0, none⟩) h1A).trans r0
  replace t0 := (hb1.frozen (p := ⟨w.heap.size + 1, 0, none⟩) h1A).trans t0
  replace r1 := (hb1.cell (p := ⟨w.heap.size + 1, 1, none⟩) h1A).trans r1
  replace t1 := (hb1.frozen (p := ⟨w.heap.size + 1, 1, none⟩) h1A).trans t1
  replace r2 := (hb1.cell (p := ⟨w.heap.size + 1, 2, none⟩) h1A).trans r2
  replace t2 := (hb1.frozen (p := ⟨w.heap.size + 1, 2, none⟩) h1A).trans t2
  have A1 := Lib.hid (HA.out.trans (hb1.mono HA.out.size))
  have h1w : w.heap.size + 1 < w1.heap.size := Nat.lt_of_lt_of_le h1A hb1.size
  have h0w : w.heap.size < w1.heap.size := Nat.lt_of_lt_of_le h0A hb1.size
  clear eW hb1 H1 HA
  cases il with
  | false =>
    have HF := Lib.hid (show ok = false from by rw [HO.out]; rfl)
    have HW := Lib.hid (show V = (0, 0, []) from by rw [HV.out, HF.out]; rfl)
    clear HV HO H2 H3
    go_wp2
    have s0 := World.cell?_setCell_same w1 _ (.int .i64 0) r0
    have u1 := (World.cell?_setCell_other _ ⟨w.heap.size + 1, 0, none⟩ _ (.int .i64 0) (by simp)).trans r1
    have s1 := World.cell?_setCell_same _ _ (.int .i64 0) u1
    have u2 := (World.cell?_setCell_other _ ⟨w.heap.size + 1, 1, none⟩ _ (.int .i64 0) (by simp)).trans ((World.cell?_setCell_other _ ⟨w.heap.size + 1, 0, none⟩ _ (.int .i64 0) (by simp)).trans r2)
    have s2 := World.cell?_setCell_same _ _ (.slice none 0 0) u2
    refine bodyPost_ret (v := .tuple #[.agg #[.int .i64 0, .int .i64 0, .slice none 0 0], .bool false]) (by simp [results, Try.results24, go_sem, s0, s1, s2]) rfl ?_
    exact ⟨_, by rw [HF.out], by rw [HW.out]; exact New.lab0, (((A1.out.setCell (p := ⟨w.heap.size + 1, 0, none⟩) (by simp) _).setCell (p := ⟨w.heap.size + 1, 1, none⟩) (by simp) _).setCell (p := ⟨w.heap.size + 1, 2, none⟩) (by simp) _)⟩
  | true =>
  have D1 := Lib.hid (fun wz (hz : Below w1.heap.size w1 wz) => H2.out (by first | rfl | trivial) wz (A1.out.trans (hz.mono A1.out.size)))
  have D2 := Lib.hid (fun wz vb (hz : Below w1.heap.size w1 wz) => H3.out (by first | rfl | trivial) wz vb (A1.out.trans (hz.mono A1.out.size)))
  have HO2 := Lib.hid (show ok = decide (cntT lv ≠ 0) from by rw [HO.out]; rfl)
  clear H2 H3 HO
  go_upto_region 3 with fail
  go_cut [4] (fun s4 wx => ∃ (B : Nat) (sa : Option Addr) (sn sc : Nat), s4 = .pointer (some ⟨B, 0, none⟩) ∧ B < wx.heap.size ∧ wx.cell? ⟨B, 0, none⟩ = some (.int .i64 kv.1) ∧ wx.cell? ⟨B, 1, none⟩ = some (.int .i64 kv.2.1) ∧ wx.cell? ⟨B, 2, none⟩ = some (.slice sa sn sc) ∧ Hid (New OLab w1.heap.size wx (.agg #[.int .i64 kv.1, .int .i64 kv.2.1, .slice sa sn sc]) kv) ∧ Hid (Below w1.heap.size w1 wx))
  case first =>
    have B1 := (Below.refl w1.heap.size w1).drew
    have hS0 : w1.cell? ⟨w.heap.size, 0, none⟩ = some (.int .i64 L) ∧ w1.cell? ⟨w.heap.size, 1, none⟩ = some (.int .i64 S) ∧ w1.cell? ⟨w.heap.size, 2, none⟩ = some (.slice a n c) := ⟨l0, l1, l2⟩
    have hSd : w1.drew.cell? ⟨w.heap.size, 0, none⟩ = some (.int .i64 L) ∧ w1.drew.cell? ⟨w.heap.size, 1, none⟩ = some (.int .i64 S) ∧ w1.drew.cell? ⟨w.heap.size, 2, none⟩ = some (.slice a n c) := hS0
    have HSS := Lib.hid (fun (wz : World) (hb3 : Below w1.heap.size w1 wz) => (show wz.cell? ⟨w.heap.size, 0, none⟩ = some (.int .i64 L) ∧ wz.cell? ⟨w.heap.size, 1, none⟩ = some (.int .i64 S) ∧ wz.cell? ⟨w.heap.size, 2, none⟩ = some (.slice a n c) from ⟨(hb3.cell (p := ⟨w.heap.size, 0, none⟩) h0w).trans l0, (hb3.cell (p := ⟨w.heap.size, 1, none⟩) h0w).trans l1, (hb3.cell (p := ⟨w.heap.size, 2, none⟩) h0w).trans l2⟩))
    go_region_held3 (fun w' => w'.cell? ⟨w.heap.size, 0, none⟩ = some (.int .i64 L) ∧ w'.cell? ⟨w.heap.size, 1, none⟩ = some (.int .i64 S) ∧ w'.cell? ⟨w.heap.size, 2, none⟩ = some (.slice a n c))
      (first | with_reducible exact hS2 | with_reducible exact hS1 | with_reducible exact hSd | with_reducible exact hS0 | (with_reducible exact HSS.out _ (((B3.setCell (p := ⟨w2.heap.size, 0, none⟩) hB2.size (.int .i64 kv.1)).setCell (p := ⟨w2.heap.size, 1, none⟩) hB2.size (.int .i64 kv.2.1)).setCell (p := ⟨w2.heap.size, 2, none⟩) hB2.size (.slice sa sn sc))) | (with_reducible exact HSS.out _ (((B3.setCell (p := ⟨w1.heap.size, 0, none⟩) (Nat.le_refl _) (.int .i64 kv.1)).setCell (p := ⟨w1.heap.size, 1, none⟩) (Nat.le_refl _) (.int .i64 kv.2.1)).setCell (p := ⟨w1.heap.size, 2, none⟩) (Nat.le_refl _) (.slice sa sn sc))) | (with_reducible exact HSS.out _ (B3.alloc B3.size _)) | go_keep)
      ((first
        | (go_at_call 59; have hB2 := B2; (first
          | ((with_reducible refine (D2.out _ _ B2 hbs).mono ?_); rintro e w3 ⟨r3, rfl, hn3, hb3⟩; obtain ⟨sa, sn, sc, rfl⟩ := hn3.labAgg; have B3 := B2.trans (hb3.mono B2.size); (first | (replace k0 := (hb3.cell (p := ⟨w1.heap.size, 0, none⟩) hkB).trans k0; replace f0 := (hb3.frozen (p := ⟨w1.heap.size, 0, none⟩) hkB).trans f0; replace k1 := (hb3.cell (p := ⟨w1.heap.size, 1, none⟩) hkB).trans k1; replace f1 := (hb3.frozen (p := ⟨w1.heap.size, 1, none⟩) hkB).trans f1; replace k2 := (hb3.cell (p := ⟨w1.heap.size, 2, none⟩) hkB).trans k2; replace f2 := (hb3.frozen (p := ⟨w1.heap.size, 2, none⟩) hkB).trans f2) | skip))
          | (have B2a := B2.alloc B2.size (.cells #[.int .i64 0, .int .i64 0, .slice none 0 0] 26); have hbsa := SlOf.frame (fun _ _ _ _ h _ => h) _ _ _ _ hbs ((Below.refl w2.heap.size w2).alloc (Nat.le_refl _) (.cells #[.int .i64 0, .int .i64 0, .slice none 0 0] 26)); (with_reducible refine (D2.out _ _ B2a hbsa).mono ?_); rintro e w3 ⟨r3, rfl, hn3, hb3⟩; obtain ⟨sa, sn, sc, rfl⟩ := hn3.labAgg; have B3 := B2a.trans (hb3.mono B2a.size); have k0 : w3.cell? ⟨w2.heap.size, 0, none⟩ = some (.int .i64 0) := (hb3.cell (p := ⟨w2.heap.size, 0, none⟩) (by simp)).trans (by simp [go_sem]); have f0 : w3.frozen? ⟨w2.heap.size, 0, none⟩ = false := (hb3.frozen (p := ⟨w2.heap.size, 0, none⟩) (by simp)).trans (by simp [go_sem]); have k1 : w3.cell? ⟨w2.heap.size, 1, none⟩ = some (.int .i64 0) := (hb3.cell (p := ⟨w2.heap.size, 1, none⟩) (by simp)).trans (by simp [go_sem]); have f1 : w3.frozen? ⟨w2.heap.size, 1, none⟩ = false := (hb3.frozen (p := ⟨w2.heap.size, 1, none⟩) (by simp)).trans (by simp [go_sem]); have k2 : w3.cell? ⟨w2.heap.size, 2, none⟩ = some (.slice none 0 0) := (hb3.cell (p := ⟨w2.heap.size, 2, none⟩) (by simp)).trans (by simp [go_sem]); have f2 : w3.frozen? ⟨w2.heap.size, 2, none⟩ = false := (hb3.frozen (p := ⟨w2.heap.size, 2, none⟩) (by simp)).trans (by simp [go_sem]))); have hS2 := HSS.out _ B3)
        | (go_at_call 60; (first
          | ((with_reducible refine (D1.out _ B1).mono ?_); rintro e w2 ⟨r2, rfl, hn2, hb2⟩; obtain ⟨ra, rn, rc, rfl⟩ := hn2.slice; have B2 := B1.trans (hb2.mono B1.size))
          | (have B1a := Below.drew ((Below.refl w1.heap.size w1).alloc (Nat.le_refl _) (.cells #[.int .i64 0, .int .i64 0, .slice none 0 0] 26)); (with_reducible refine (D1.out _ B1a).mono ?_); rintro e w2 ⟨r2, rfl, hn2, hb2⟩; obtain ⟨ra, rn, rc, rfl⟩ := hn2.slice; have B2 := B1a.trans (hb2.mono B1a.size); have k0 : w2.cell? ⟨w1.heap.size, 0, none⟩ = some (.int .i64 0) := (hb2.cell (p := ⟨w1.heap.size, 0, none⟩) (by simp)).trans (by simp [go_sem]); have f0 : w2.frozen? ⟨w1.heap.size, 0, none⟩ = false := (hb2.frozen (p := ⟨w1.heap.size, 0, none⟩) (by simp)).trans (by simp [go_sem]); have k1 : w2.cell? ⟨w1.heap.size, 1, none⟩ = some (.int .i64 0) := (hb2.cell (p := ⟨w1.heap.size, 1, none⟩) (by simp)).trans (by simp [go_sem]); have f1 : w2.frozen? ⟨w1.heap.size, 1, none⟩ = false := (hb2.frozen (p := ⟨w1.heap.size, 1, none⟩) (by simp)).trans (by simp [go_sem]); have k2 : w2.cell? ⟨w1.heap.size, 2, none⟩ = some (.slice none 0 0) := (hb2.cell (p := ⟨w1.heap.size, 2, none⟩) (by simp)).trans (by simp [go_sem]); have f2 : w2.frozen? ⟨w1.heap.size, 2, none⟩ = false := (hb2.frozen (p := ⟨w1.heap.size, 2, none⟩) (by simp)).trans (by simp [go_sem]); have hkB : w1.heap.size < w2.heap.size := (by have := hb2.size; simp at this; omega))); have hS1 := HSS.out _ B2; have hbs := (show SlOf (ValR Value.bool) w2 _ lv from by obtain ⟨F, hF, _⟩ := hn2; exact OwnOf.reads (fun _ _ _ _ h => h.1) hF))
        | fail))
    · have hz2 := B2.size
      have HPk := Lib.hid ((((hn3.mono hz2).inn OLab.held).keep OLab.held ((Below.refl w3.heap.size w3).alloc (Nat.le_refl _) (.cells #[.int .i64 kv.1, .int .i64 kv.2.1, .slice sa sn sc] 26)) (Nat.le_refl _)).new)
      have HBk := Lib.hid (B3.alloc B3.size (.cells #[.int .i64 kv.1, .int .i64 kv.2.1, .slice sa sn sc] 26))
      go_wp2
      go_meet
      case rel => exact ⟨w3.heap.size, _, _, _, rfl, by simp, by simp, by simp, by simp, HPk, HBk⟩
    · have hz2 := hB2.size
      have hz3 := hb3.size
      have e3 : (w2.alloc (.cells #[.int .i64 0, .int .i64 0, .slice none 0 0] 26)).heap.size = w2.heap.size + 1 := by simp
      rw [e3] at hn3 hz3
      have HPk := Lib.hid ((New.storeLow OLab.held (New.storeLow OLab.held (New.storeLow OLab.held hn3 (show w2.heap.size < w2.heap.size + 1 by omega) (.int .i64 kv.1) (p := ⟨w2.heap.size, 0, none⟩)) (show w2.heap.size < w2.heap.size + 1 by omega) (.int .i64 kv.2.1) (p := ⟨w2.heap.size, 1, none⟩)) (show w2.heap.size < w2.heap.size + 1 by omega) (.slice sa sn sc) (p := ⟨w2.heap.size, 2, none⟩)).mono (lo' := w1.heap.size) (by omega))
      have HBk := Lib.hid ((((B3.setCell (p := ⟨w2.heap.size, 0, none⟩) hz2 (.int .i64 kv.1)).setCell (p := ⟨w2.heap.size, 1, none⟩) hz2 (.int .i64 kv.2.1)).setCell (p := ⟨w2.heap.size, 2, none⟩) hz2 (.slice sa sn sc)))
      have s0 := World.cell?_setCell_same _ _ (.int .i64 kv.1) k0
      have u1 := (World.cell?_setCell_other _ ⟨w2.heap.size, 0, none⟩ _ (.int .i64 kv.1) (by simp)).trans k1
      have s1 := World.cell?_setCell_same _ _ (.int .i64 kv.2.1) u1
      have u2 := (World.cell?_setCell_other _ ⟨w2.heap.size, 1, none⟩ _ (.int .i64 kv.2.1) (by simp)).trans ((World.cell?_setCell_other _ ⟨w2.heap.size, 0, none⟩ _ (.int .i64 kv.1) (by simp)).trans k2)
      have s2 := World.cell?_setCell_same _ _ (.slice sa sn sc) u2
      have s1' := (World.cell?_setCell_other _ ⟨w2.heap.size, 2, none⟩ _ (.slice sa sn sc) (by simp)).trans s1
      have s0' := (World.cell?_setCell_other _ ⟨w2.heap.size, 2, none⟩ _ (.slice sa sn sc) (by simp)).trans ((World.cell?_setCell_other _ ⟨w2.heap.size, 1, none⟩ _ (.int .i64 kv.2.1) (by simp)).trans s0)
      go_wp2
      go_meet
      case rel => exact ⟨w2.heap.size, _, _, _, rfl, by simp <;> omega, s0', s1', s2, HPk, HBk⟩
    · have hz2 := B2.size
      have hz3 := hb3.size
      have HPk := Lib.hid ((New.storeLow OLab.held (New.storeLow OLab.held (New.storeLow OLab.held hn3 (show w1.heap.size < w2.heap.size from hkB) (.int .i64 kv.1) (p := ⟨w1.heap.size, 0, none⟩)) (show w1.heap.size < w2.heap.size from hkB) (.int .i64 kv.2.1) (p := ⟨w1.heap.size, 1, none⟩)) (show w1.heap.size < w2.heap.size from hkB) (.slice sa sn sc) (p := ⟨w1.heap.size, 2, none⟩)).mono (lo' := w1.heap.size) (by omega))
      have HBk := Lib.hid ((((B3.setCell (p := ⟨w1.heap.size, 0, none⟩) (Nat.le_refl _) (.int .i64 kv.1)).setCell (p := ⟨w1.heap.size, 1, none⟩) (Nat.le_refl _) (.int .i64 kv.2.1)).setCell (p := ⟨w1.heap.size, 2, none⟩) (Nat.le_refl _) (.slice sa sn sc)))
      have s0 := World.cell?_setCell_same _ _ (.int .i64 kv.1) k0
      have u1 := (World.cell?_setCell_other _ ⟨w1.heap.size, 0, none⟩ _ (.int .i64 kv.1) (by simp)).trans k1
      have s1 := World.cell?_setCell_same _ _ (.int .i64 kv.2.1) u1
      have u2 := (World.cell?_setCell_other _ ⟨w1.heap.size, 1, none⟩ _ (.int .i64 kv.2.1) (by simp)).trans ((World.cell?_setCell_other _ ⟨w1.heap.size, 0, none⟩ _ (.int .i64 kv.1) (by simp)).trans k2)
      have s2 := World.cell?_setCell_same _ _ (.slice sa sn sc) u2
      have s1' := (World.cell?_setCell_other _ ⟨w1.heap.size, 2, none⟩ _ (.slice sa sn sc) (by simp)).trans s1
      have s0' := (World.cell?_setCell_other _ ⟨w1.heap.size, 2, none⟩ _ (.slice sa sn sc) (by simp)).trans ((World.cell?_setCell_other _ ⟨w1.heap.size, 1, none⟩ _ (.int .i64 kv.2.1) (by simp)).trans s0)
      go_wp2
      go_meet
      case rel => exact ⟨w1.heap.size, _, _, _, rfl, by simp <;> omega, s0', s1', s2, HPk, HBk⟩
  case rest =>
    obtain ⟨B, sa, sn, sc, rfl, hBx, d0, d1, d2, HP, HB⟩ := hcut
    obtain ⟨wz, rfl⟩ : ∃ x, x = wc := ⟨_, rfl⟩
    replace r0 := (HB.out.cell (p := ⟨w.heap.size + 1, 0, none⟩) h1w).trans r0
    replace t0 := (HB.out.frozen (p := ⟨w.heap.size + 1, 0, none⟩) h1w).trans t0
    replace r1 := (HB.out.cell (p := ⟨w.heap.size + 1, 1, none⟩) h1w).trans r1
    replace t1 := (HB.out.frozen (p := ⟨w.heap.size + 1, 1, none⟩) h1w).trans t1
    replace r2 := (HB.out.cell (p := ⟨w.heap.size + 1, 2, none⟩) h1w).trans r2
    replace t2 := (HB.out.frozen (p := ⟨w.heap.size + 1, 2, none⟩) h1w).trans t2
    have Az := Lib.hid (A1.out.trans (HB.out.mono A1.out.size))
    clear D1 D2 l0 l1 l2
    by_cases h0 : cntT lv = 0
    · have HF := Lib.hid (show ok = false from by rw [HO2.out, h0]; rfl)
      have HW := Lib.hid (show V = (0, 0, []) from by rw [HV.out, HF.out]; rfl)
      rw [HK.out, h0] at d1
      clear HV HO2 HP HK h0
      go_wp2
      have s0 := World.cell?_setCell_same wz _ (.int .i64 0) r0
      have u1 := (World.cell?_setCell_other _ ⟨w.heap.size + 1, 0, none⟩ _ (.int .i64 0) (by simp)).trans r1
      have s1 := World.cell?_setCell_same _ _ (.int .i64 0) u1
      have u2 := (World.cell?_setCell_other _ ⟨w.heap.size + 1, 1, none⟩ _ (.int .i64 0) (by simp)).trans ((World.cell?_setCell_other _ ⟨w.heap.size + 1, 0, none⟩ _ (.int .i64 0) (by simp)).trans r2)
      have s2 := World.cell?_setCell_same _ _ (.slice none 0 0) u2
      refine bodyPost_ret (v := .tuple #[.agg #[.int .i64 0, .int .i64 0, .slice none 0 0], .bool false]) (by simp [results, Try.results24, go_sem, s0, s1, s2]) rfl ?_
      exact ⟨_, by rw [HF.out], by rw [HW.out]; exact New.lab0, (((Az.out.setCell (p := ⟨w.heap.size + 1, 0, none⟩) (by simp) _).setCell (p := ⟨w.heap.size + 1, 1, none⟩) (by simp) _).setCell (p := ⟨w.heap.size + 1, 2, none⟩) (by simp) _)⟩
    · have HF := Lib.hid (show ok = true from by rw [HO2.out]; exact decide_eq_true h0)
      have HW := Lib.hid (show V = kv from by rw [HV.out, HF.out]; rfl)
      have t0' : (kv.2.1 == (0 : Int)) = false := by rw [HK.out]; simp; exact h0
      clear HV HO2 HK h0
      go_wp2
      have s0 := World.cell?_setCell_same wz _ (.int .i64 kv.1) r0
      have u1 := (World.cell?_setCell_other _ ⟨w.heap.size + 1, 0, none⟩ _ (.int .i64 kv.1) (by simp)).trans r1
      have s1 := World.cell?_setCell_same _ _ (.int .i64 kv.2.1) u1
      have u2 := (World.cell?_setCell_other _ ⟨w.heap.size + 1, 1, none⟩ _ (.int .i64 kv.2.1) (by simp)).trans ((World.cell?_setCell_other _ ⟨w.heap.size + 1, 0, none⟩ _ (.int .i64 kv.1) (by simp)).trans r2)
      have s2 := World.cell?_setCell_same _ _ (.slice sa sn sc) u2
      refine bodyPost_ret (v := .tuple #[.agg #[.int .i64 kv.1, .int .i64 kv.2.1, .slice sa sn sc], .bool true]) (by simp [results, Try.results24, go_sem, s0, s1, s2]) rfl ?_
      exact ⟨_, by rw [HF.out], by rw [HW.out]; exact (New.storeLow OLab.held (New.storeLow OLab.held (New.storeLow OLab.held HP.out (show w.heap.size + 1 < w1.heap.size from h1w) _) (show w.heap.size + 1 < w1.heap.size from h1w) _) (show w.heap.size + 1 < w1.heap.size from h1w) _).mono (by omega), (((Az.out.setCell (p := ⟨w.heap.size + 1, 0, none⟩) (by simp) _).setCell (p := ⟨w.heap.size + 1, 1, none⟩) (by simp) _).setCell (p := ⟨w.heap.size + 1, 2, none⟩) (by simp) _)⟩
end Go.Proofs.Ytcilgihmaaobeaa
end

section
namespace Go.Proofs.Ytcilgihmaaobeaa
open Go.RowKit Go.Deep Go.Sd
def OLabG : OwnRel Lb := fun w v x F => ∃ va, v = .agg #[.int .i64 x.1, .int .i64 x.2.1, va] ∧ RowA 59 w va x.2.2 F
theorem OLabG.held : Held OLabG :=
  ⟨fun _ _ _ _ _ ⟨va, e, h⟩ hk => ⟨va, e, RowG.held.keep _ _ _ _ _ h hk⟩, fun _ _ _ _ ⟨_, _, h⟩ b hb => RowG.held.lt _ _ _ _ h b hb⟩
theorem OLabG.lab {w : World} {v : Value} {x : Lb} {F : List Nat} (h : OLabG w v x F) : OLab w v x F := by
  obtain ⟨va, e, h⟩ := h
  exact ⟨va, e, RowG.arcs h⟩
theorem New.lab0G {lo : Nat} {w : World} : New OLabG lo w (.agg #[.int .i64 0, .int .i64 0, .slice none 0 0]) (0, 0, []) := by
  obtain ⟨F, h, hf⟩ := (RowG.nil (e := 59) (sz := 3) (f := acell) (w := w) (lo := lo))
  exact ⟨F, ⟨_, rfl, h⟩, hf⟩
theorem OLabG.slice {w : World} {v : Value} {x : Lb} {F : List Nat} (h : OLabG w v x F) : ∃ a c, v = .agg #[.int .i64 x.1, .int .i64 x.2.1, .slice a x.2.2.length c] := by
  obtain ⟨va, rfl, h⟩ := h
  obtain ⟨a, c, rfl⟩ := RowG.slice h
  exact ⟨a, c, rfl⟩
abbrev ResLg (v : Value) (x : Lb) : Res := Res.of OLabG OLabG.held v x
abbrev ResLb (v : Value) (x : Lb) : Res := Res.of OLab OLab.held v x
/-- A row laid at once. -/
theorem New.rowLit {α : Type} {sz : Nat} {f : α → List Value} (L : Lay sz f) (e : TypeId) (w : World) (xs : List α) (cs : Array Value) (hcs : cs = (xs.flatMap f).toArray) (h0 : 0 < xs.length) (hl : xs.length ≤ 1000) : New (RowG e sz f) w.heap.size (w.alloc (.cells cs e)) (.slice (some ⟨w.heap.size, 0, none⟩) xs.length xs.length) xs := by
  have hz := flatMap_len L xs
  subst hcs
  exact ⟨[w.heap.size], ⟨⟨by rw [hz], .inr ⟨w.heap.size, xs.length, _, rfl, Nat.zero_le _, heap_alloc_new w _, Nat.le_refl _, (by unfold maxLen; omega), by simp [hz], List.take_of_length_le (by simp only [hz]; exact Nat.le_refl _)⟩⟩, rfl⟩, by simp [Fresh]⟩
end Go.Proofs.Ytcilgihmaaobeaa
end

section
namespace Go.Proofs.Ytcilgihmaaobeaa
open Go.RowKit Go.Deep Go.Sd

set_option maxHeartbeats 4000000 in
set_option maxRecDepth 10000 in
theorem lively_c {w : World} {v : Value} {next : List (List Int)} {n : Nat} (h : Tab w v next) (hnx : next.length = n) (hin : ∀ r, r ∈ next → ∀ x, x ∈ r → 0 ≤ x ∧ x < (n : Int)) (hn0 : 0 < n) (hn : n ≤ 16) :
    Calls Try.prog 78 #[v] w (Makes (OwnOf 4 (OValR Value.bool)) w (liveL (EntN next) n)) := by
  obtain ⟨a, c, rfl, _, _, hcell⟩ := h.shape
  obtain ⟨ab, ao, rfl, hab, hx0⟩ := hcell (by omega)
  rw [hnx]
  have Hnx := Lib.hid hnx
  have Hin := Lib.hid hin
  clear h hcell hin hnx
  have hmk := fun w => run_make_row' (P := Try.prog) 81 4 (.bool false) 1 Try.underlying81 infoB rfl .i64 .i64 n (by omega) (by omega) (w := w)
  go_enter Try.func78, Try.ntmps78
  go_wp2
  go_loopg [17] n (fun g i wr => ∃ (k : Nat), i = .int .i64 k ∧ k + g = n ∧ Hid (New (OwnOf 4 (OValR Value.bool)) w.heap.size wr (.slice (some ⟨w.heap.size, 0, none⟩) n n) (fillT n k)) ∧ Hid (Below w.heap.size w wr))
  case atStart => exact ⟨0, rfl, by omega, Lib.hid (New.made 4 w (.bool false) false n (Nat.le_refl _) (by omega) (fun _ => ⟨rfl, rfl⟩)), Lib.hid ((Below.refl _ _).alloc (Nat.le_refl _) _)⟩
  case round =>
    obtain ⟨k, rfl, hk, hnew, hbel⟩ := hrel
    by_cases hlt : k < n
    · obtain ⟨b', c', hv, _, _, hblt, hcl, hfr, hst⟩ := hnew.out.val_at (fun _ => rfl) (fillT_at hlt)
      obtain rfl : b' = w.heap.size := by simp at hv; exact hv.1.symm
      have Hst := Lib.hid (by have := hst true; rw [fillT_set hlt] at this; exact this)
      have Hb := Lib.hid (hbel.out.setCell (p := ⟨w.heap.size, k, none⟩) (Nat.le_refl _) (.bool true))
      have hkI : (k : Int) < (n : Int) := Int.ofNat_lt.2 hlt
      clear hv hst hnew hbel hx0 hmk
      go_wp2
      go_roundg (n - (k + 1))
      case measure => omega
      case rel => exact ⟨k + 1, by go_num, by omega, Hst, Hb⟩
    · obtain rfl : k = n := by omega
      have HL0 := Lib.hid (show New (OwnOf 4 (OValR Value.bool)) w.heap.size wr (.slice (some ⟨w.heap.size, 0, none⟩) k k) (List.replicate k true) from by have h := hnew.out; unfold fillT at h; simpa using h)
      have HS0 := Lib.hid (Inv.start (E := EntN next) (n := k))
      clear hnew
      go_wp2
      go_loopg [26] k (fun g i wr => ∃ (r : Nat) (l : List Bool), i = .int .i64 r ∧ r + g = k ∧ Hid (Inv (EntN next) k r l) ∧ Hid (New (OwnOf 4 (OValR Value.bool)) w.heap.size wr (.slice (some ⟨w.heap.size, 0, none⟩) k k) l) ∧ Hid (Below w.heap.size w wr))
      case atStart => exact ⟨0, List.replicate k true, rfl, by omega, HS0, HL0, hbel⟩
      case round =>
        clear HS0 HL0 hbel
        obtain ⟨r, l0, rfl, hr, hinv, hnew, hbel⟩ := hrel
        obtain ⟨w0, rfl⟩ : ∃ x, x = wr := ⟨_, rfl⟩
        by_cases hltr : r < k
        · have hrI : (r : Int) < (k : Int) := Int.ofNat_lt.2 hltr
          have hbig : ∀ (bf : Nat), w0.heap.size ≤ bf → bf < w0.heap.size + 2 → Bl (((w0.alloc (.cells (madeCells #[.bool false] k) 4)).alloc (.cells (madeCells #[.bool false] k) 4)).drew) bf (List.replicate l0.length false) := by
            intro bf h1 h2
            have hl0 : l0.length = k := hinv.out.1.1
            have hm : ∀ (w1 : World), w1.heap.size ≤ w0.heap.size + 1 → Bl (w1.alloc (.cells (madeCells #[.bool false] k) 4)) w1.heap.size (List.replicate k false) := by
              intro w1 _
              have hnw := New.made (R := OValR Value.bool) 4 w1 (.bool false) false k (Nat.le_refl _) (by omega) (fun _ => ⟨rfl, rfl⟩)
              refine ⟨by simp, fun i x hx => ?_⟩
              obtain ⟨b', c', hv, _, _, _, hcl, hfr, _⟩ := hnw.val_at (fun _ => rfl) hx
              obtain rfl : b' = w1.heap.size := by simp at hv; exact hv.1.symm
              exact ⟨hcl, hfr⟩
            rw [hl0]
            by_cases e : bf = w0.heap.size
            · subst e
              have h3 := hm w0 (by omega)
              have hbb : Below (w0.heap.size + 1) (w0.alloc (.cells (madeCells #[.bool false] k) 4)) (((w0.alloc (.cells (madeCells #[.bool false] k) 4)).alloc (.cells (madeCells #[.bool false] k) 4)).drew) := ((Below.refl _ _).alloc (by simp) _).drew
              exact ⟨by simp [World.drew]; omega, fun i x hx => ⟨(hbb.cell (p := ⟨w0.heap.size, i, none⟩) (by simp)).trans (h3.2 i x hx).1, (hbb.frozen (p := ⟨w0.heap.size, i, none⟩) (by simp)).trans (h3.2 i x hx).2⟩⟩
            · obtain rfl : bf = w0.heap.size + 1 := by omega
              have h3 := hm (w0.alloc (.cells (madeCells #[.bool false] k) 4)) (by simp)
              have e2 : (w0.alloc (.cells (madeCells #[.bool false] k) 4)).heap.size = w0.heap.size + 1 := by simp
              rw [e2] at h3
              have hbb : Below (w0.heap.size + 2) ((w0.alloc (.cells (madeCells #[.bool false] k) 4)).alloc (.cells (madeCells #[.bool false] k) 4)) (((w0.alloc (.cells (madeCells #[.bool false] k) 4)).alloc (.cells (madeCells #[.bool false] k) 4)).drew) := (Below.refl _ _).drew
              exact ⟨by simp [World.drew], fun i x hx => ⟨(hbb.cell (p := ⟨w0.heap.size + 1, i, none⟩) (by simp)).trans (h3.2 i x hx).1, (hbb.frozen (p := ⟨w0.heap.size + 1, i, none⟩) (by simp)).trans (h3.2 i x hx).2⟩⟩
          have hB9 : Below w0.heap.size w0 (((w0.alloc (.cells (madeCells #[.bool false] k) 4)).alloc (.cells (madeCells #[.bool false] k) 4)).drew) := (((Below.refl _ _).alloc (Nat.le_refl _) _).alloc (by simp) _).drew
          have HB0 := Lib.hid (hbig w0.heap.size (Nat.le_refl _) (by omega))
          have HB1 := Lib.hid (hbig (w0.heap.size + 1) (by omega) (by omega))
          have HB9 := Lib.hid hB9
          clear hbig hB9
          have HN0 := Lib.hid hnew.out
          have Hl0 := Lib.hid hinv.out.1.1
          go_wp2
          go_region
          · clear hmk
            obtain ⟨bf, ebf⟩ : ∃ x, x = w0.heap.size := ⟨_, rfl⟩
            obtain ⟨bt, ebt⟩ : ∃ x, x = w0.heap.size + 1 := ⟨_, rfl⟩
            have hbf : w0.heap.size ≤ bf := by omega
            have hbt : w0.heap.size ≤ bt := by omega
            have hne : bf ≠ bt := by omega
            have hne2 : bt ≠ bf := by omega
            rw [← ebf] at HB0
            rw [← ebt] at HB1
            generalize ((w0.alloc (.cells (madeCells #[.bool false] k) 4)).alloc (.cells (madeCells #[.bool false] k) 4)).drew = w9 at *
            have HF0 := Lib.hid (show FrOk next l0 0 0 (List.replicate l0.length false) ∧ Bl w9 bf (List.replicate l0.length false) from ⟨FrOk.start, HB0.out⟩)
            have HT0 := Lib.hid (show ToOk next l0 0 0 (List.replicate l0.length false) ∧ Bl w9 bt (List.replicate l0.length false) from ⟨ToOk.start, HB1.out⟩)
            try rw [← ebt]
            try rw [← ebf]
            clear ebf ebt HB0 HB1
            go_wp2
            go_loopg [36] k (fun g iv wr => ∃ (i : Nat) (fr t : List Bool), iv = .int .i64 i ∧ i + g = k ∧ Hid (FrOk next l0 i 0 fr ∧ Bl wr bf fr) ∧ Hid (ToOk next l0 i 0 t ∧ Bl wr bt t) ∧ Hid (Below w0.heap.size w0 wr))
            case atStart => exact ⟨0, _, _, rfl, by omega, HF0, HT0, HB9⟩
            case round =>
              clear HF0 HT0 HB9
              obtain ⟨i, fr, t, rfl, hi, hfo, hto, hb0⟩ := hrel
              by_cases hlti : i < k
              · obtain ⟨row, hrow, _⟩ := at_lt (xs := next) (k := i) (by have := Hnx.out; omega)
                obtain ⟨u, hu, hru⟩ := hx0 i row hrow
                have hgd : next.getD i [] = row := by rw [List.getD_eq_getElem?_getD, hrow]; rfl
                have Hgd := Lib.hid hgd
                have Hrow := Lib.hid (Hin.out row (List.mem_of_getElem? hrow))
                have hu1 := ((hbel.out.trans (hb0.out.mono hbel.out.size)).cell (p := ⟨ab, ao + i, none⟩) hab).trans hu
                obtain ⟨ra, rc, rfl, _, _, hrc⟩ := hru.shape
                obtain ⟨m, hm⟩ : ∃ m, m = row.length := ⟨_, rfl⟩
                have Hm := Lib.hid hm
                have hm63 : m ≤ 9223372036854775807 := by omega
                rw [← hm] at hrc hu1
                have hiI : (i : Int) < (k : Int) := Int.ofNat_lt.2 hlti
                clear hu hru hrow hgd hm
                go_wp2
                go_loopg [43] m (fun g cv wr => ∃ (c : Nat) (fr t : List Bool), cv = .int .i64 c ∧ c + g = m ∧ Hid (FrOk next l0 i c fr ∧ Bl wr bf fr) ∧ Hid (ToOk next l0 i c t ∧ Bl wr bt t) ∧ Hid (Below w0.heap.size w0 wr))
                case atStart => exact ⟨0, fr, t, rfl, by omega, hfo, hto, hb0⟩
                case round =>
                  clear hfo hto hb0 hu1
                  obtain ⟨c, fr, t, rfl, hc, hfo, hto, hb0⟩ := hrel
                  by_cases hltc : c < m
                  · obtain ⟨b, o, rfl, hb, hr0⟩ := hrc (by omega)
                    obtain ⟨y, hy, _⟩ := at_lt (xs := row) (k := c) (by have := Hm.out; omega)
                    obtain ⟨u, hu2, hux⟩ := hr0 c y hy
                    obtain rfl : u = .int .i64 y := hux
                    obtain ⟨hy0, hy1⟩ := Hrow.out y (List.mem_of_getElem? hy)
                    obtain ⟨yn, rfl⟩ := Int.eq_ofNat_of_zero_le hy0
                    have hyn : yn < k := by omega
                    have Hy := Lib.hid (show (next.getD i [])[c]? = some (yn : Int) from by rw [Hgd.out]; exact hy)
                    have hc1 := ((hbel.out.trans (hb0.out.mono hbel.out.size)).cell (p := ⟨b, o + c, none⟩) hb).trans hu2
                    have hll := Hl0.out
                    have hli : l0[i]? = some (l0[i]'(by omega)) := List.getElem?_eq_getElem (by omega)
                    have hly : l0[yn]? = some (l0[yn]'(by omega)) := List.getElem?_eq_getElem (by omega)
                    obtain ⟨b1, _, hv, _, _, hbl1, hcl1, _, _⟩ := HN0.out.val_at (fun _ => rfl) hli
                    obtain rfl : b1 = w.heap.size := by simp at hv; exact hv.1.symm
                    obtain ⟨b2, _, hv2, _, _, _, hcl2, _, _⟩ := HN0.out.val_at (fun _ => rfl) hly
                    obtain rfl : b2 = w.heap.size := by simp at hv2; exact hv2.1.symm
                    replace hcl1 := (hb0.out.cell (p := ⟨w.heap.size, i, none⟩) hbl1).trans hcl1
                    replace hcl2 := (hb0.out.cell (p := ⟨w.heap.size, yn, none⟩) hbl1).trans hcl2
                    have hoi : On l0 i ↔ l0[i]'(by omega) = true := by unfold On; rw [hli]; simp
                    have hoy : On l0 yn ↔ l0[yn]'(by omega) = true := by unfold On; rw [hly]; simp
                    generalize l0[i]'(by omega) = li at *
                    generalize l0[yn]'(by omega) = ly at *
                    have hcm : (c : Int) < (m : Int) := Int.ofNat_lt.2 hltc
                    have hiF : i < fr.length := by rw [hfo.out.1.1]; omega
                    have hyT : yn < t.length := by rw [hto.out.1.1]; omega
                    have HSK := Lib.hid (fun (h : ¬ (li = true ∧ ly = true)) => And.intro (hfo.out.1.skip Hy.out (fun ⟨p1, p2⟩ => h ⟨hoi.1 p1, hoy.1 p2⟩)) (hto.out.1.skip Hy.out (fun ⟨p1, p2⟩ => h ⟨hoi.1 p1, hoy.1 p2⟩)))
                    have HTK := Lib.hid (fun (h1 : li = true) (h2 : ly = true) => And.intro (hfo.out.1.take Hy.out (hoi.2 h1) (hoy.2 h2)) (hto.out.1.take Hy.out (hoi.2 h1) (hoy.2 h2)))
                    have fA := hfo.out.2.2 i _ (List.getElem?_eq_getElem hiF)
                    have tA := hto.out.2.2 yn _ (List.getElem?_eq_getElem hyT)
                    have HBF := Lib.hid (((hfo.out.2.set hiF true).other (i := yn) hne2 (.bool true)))
                    have HBT := Lib.hid ((hto.out.2.other (i := i) hne (.bool true)).set hyT true)
                    have HBW := Lib.hid ((hb0.out.setCell (p := ⟨bf, i, none⟩) hbf (.bool true)).setCell (p := ⟨bt, yn, none⟩) hbt (.bool true))
                    obtain ⟨fA1, fA2⟩ := fA
                    obtain ⟨tA1, tA2⟩ := tA
                    have hiF' : bf < wr.heap.size := hfo.out.2.1
                    have hbF := Lib.hid hfo.out.2
                    have hbT := Lib.hid hto.out.2
                    generalize fr[i] = x1 at *
                    generalize t[yn] = x2 at *
                    clear hy hr0 hu2 hli hly hv hv2 hoi hoy hy0 hy1 Hy hfo hto hx0
                    cases li with
                    | false =>
                      have R := Lib.hid (HSK.out (by simp))
                      clear HSK HTK HBF HBT HBW fA1 fA2 tA1 tA2
                      go_wp2
                      go_roundg (m - (c + 1))
                      case measure => omega
                      case rel => exact ⟨c + 1, fr, t, by go_num, by omega, Lib.hid ⟨R.out.1, hbF.out⟩, Lib.hid ⟨R.out.2, hbT.out⟩, hb0⟩
                    | true =>
                      cases ly with
                      | false =>
                        have R := Lib.hid (HSK.out (by simp))
                        clear HSK HTK HBF HBT HBW fA1 fA2 tA1 tA2
                        go_wp2
                        go_roundg (m - (c + 1))
                        case measure => omega
                        case rel => exact ⟨c + 1, fr, t, by go_num, by omega, Lib.hid ⟨R.out.1, hbF.out⟩, Lib.hid ⟨R.out.2, hbT.out⟩, hb0⟩
                      | true =>
                        have R := Lib.hid (HTK.out rfl rfl)
                        clear HSK HTK hbF hbT
                        go_wp2
                        go_roundg (m - (c + 1))
                        case measure => omega
                        case rel => exact ⟨c + 1, fr.set i true, t.set yn true, by go_num, by omega, Lib.hid ⟨R.out.1, HBF.out⟩, Lib.hid ⟨R.out.2, HBT.out⟩, HBW⟩
                  · have R1 := Lib.hid (And.intro (hfo.out.1.row (by rw [Hgd.out, ← Hm.out]; omega)) hfo.out.2)
                    have R2 := Lib.hid (And.intro (hto.out.1.row (by rw [Hgd.out, ← Hm.out]; omega)) hto.out.2)
                    clear hfo hto hrc
                    go_wp2
                    go_roundg (k - (i + 1))
                    case measure => omega
                    case rel => exact ⟨i + 1, fr, t, by go_num, by omega, R1, R2, hb0⟩
              · obtain rfl : i = k := by omega
                have HBF := Lib.hid hfo.out.2
                have HBT := Lib.hid hto.out.2
                have HFO := Lib.hid hfo.out.1
                have HTO := Lib.hid hto.out.1
                have HR0 := Lib.hid (Ren.start (l0 := l0) (fr := fr) (t := t))
                have HNr := Lib.hid (New.keep (OwnOf.kept (OVal.kept (fun _ => rfl))) HN0.out hb0.out (Nat.le_refl _))
                have HBr := Lib.hid (hbel.out.trans (hb0.out.mono hbel.out.size))
                have hz0 := hb0.out.size
                have hwlt : w.heap.size < w0.heap.size := by
                  have hli : l0[0]? = some (l0[0]'(by have := Hl0.out; omega)) := List.getElem?_eq_getElem (by have := Hl0.out; omega)
                  obtain ⟨b1, _, hv, _, _, hbl1, _⟩ := HN0.out.val_at (fun _ => rfl) hli
                  obtain rfl : b1 = w.heap.size := by simp at hv; exact hv.1.symm
                  exact hbl1
                have hwf : w.heap.size ≠ bf := by omega
                have hwt : w.heap.size ≠ bt := by omega
                clear hfo hto hnew hbel hb0 HN0
                go_wp2
                go_loopg [67] i (fun g jv wr => ∃ (j : Nat) (l : List Bool), jv = .int .i64 j ∧ j + g = i ∧ Hid (Ren l0 fr t j l) ∧ Hid (New (OwnOf 4 (OValR Value.bool)) w.heap.size wr (.slice (some ⟨w.heap.size, 0, none⟩) i i) l) ∧ Hid (Bl wr bf fr) ∧ Hid (Bl wr bt t) ∧ Hid (Below w.heap.size w wr))
                case atStart => exact ⟨0, l0, rfl, by omega, HR0, HNr, HBF, HBT, HBr⟩
                case round =>
                  clear HR0 HNr HBF HBT HBr
                  obtain ⟨j, l, rfl, hj, hren, hnl, hbf2, hbt2, hbr⟩ := hrel
                  by_cases hltj : j < i
                  · have hjI : (j : Int) < (i : Int) := Int.ofNat_lt.2 hltj
                    have hll := Hl0.out
                    have e1 := hren.out.1
                    have e2 := HFO.out.1
                    have e3 := HTO.out.1
                    have hlj : l[j]? = some (l[j]'(by omega)) := List.getElem?_eq_getElem (by omega)
                    have hfj : fr[j]? = some (fr[j]'(by omega)) := List.getElem?_eq_getElem (by omega)
                    have htj : t[j]? = some (t[j]'(by omega)) := List.getElem?_eq_getElem (by omega)
                    obtain ⟨b1, _, hv, _, _, hbl1, hcl1, hfr1, hst⟩ := hnl.out.val_at (fun _ => rfl) hlj
                    obtain rfl : b1 = w.heap.size := by simp at hv; exact hv.1.symm
                    obtain ⟨fA1, fA2⟩ := hbf2.out.2 j _ hfj
                    obtain ⟨tA1, tA2⟩ := hbt2.out.2 j _ htj
                    have R1 := Lib.hid (hren.out.step hlj hfj htj)
                    generalize l[j]'(by omega) = x1 at *
                    generalize fr[j]'(by omega) = x2 at *
                    generalize t[j]'(by omega) = x3 at *
                    have R2 := Lib.hid (hst (x1 && x2 && x3))
                    have R3 := Lib.hid (hbf2.out.other (i := j) hwf (.bool (x1 && x2 && x3)))
                    have R4 := Lib.hid (hbt2.out.other (i := j) hwt (.bool (x1 && x2 && x3)))
                    have R5 := Lib.hid (hbr.out.setCell (p := ⟨w.heap.size, j, none⟩) (Nat.le_refl _) (.bool (x1 && x2 && x3)))
                    clear hlj hfj htj hv hst hren hnl hbf2 hbt2 hbr e1 e2 e3
                    cases x1 <;> cases x2 <;> cases x3 <;> (go_wp2; go_roundg (i - (j + 1)); (case measure => omega); (case rel => exact ⟨j + 1, _, by go_num, by omega, R1, R2, R3, R4, R5⟩))
                  · obtain rfl : j = i := by omega
                    have R1 := Lib.hid (hinv.out.step (hren.out.rnd Hl0.out (by rw [Hnx.out]; exact Nat.le_refl _) HFO.out HTO.out))
                    clear hren hinv hbf2 hbt2 HFO HTO
                    go_wp2
                    go_roundg (j - (r + 1))
                    case measure => omega
                    case rel => exact ⟨r + 1, l, by go_num, by omega, R1, hnl, hbr⟩
          · clear hmk
            obtain ⟨bf, ebf⟩ : ∃ x, x = w0.heap.size + 1 := ⟨_, rfl⟩
            obtain ⟨bt, ebt⟩ : ∃ x, x = w0.heap.size := ⟨_, rfl⟩
            have hbf : w0.heap.size ≤ bf := by omega
            have hbt : w0.heap.size ≤ bt := by omega
            have hne : bf ≠ bt := by omega
            have hne2 : bt ≠ bf := by omega
            rw [← ebf] at HB1
            rw [← ebt] at HB0
            generalize ((w0.alloc (.cells (madeCells #[.bool false] k) 4)).alloc (.cells (madeCells #[.bool false] k) 4)).drew = w9 at *
            have HF0 := Lib.hid (show FrOk next l0 0 0 (List.replicate l0.length false) ∧ Bl w9 bf (List.replicate l0.length false) from ⟨FrOk.start, HB1.out⟩)
            have HT0 := Lib.hid (show ToOk next l0 0 0 (List.replicate l0.length false) ∧ Bl w9 bt (List.replicate l0.length false) from ⟨ToOk.start, HB0.out⟩)
            try rw [← ebf]
            try rw [← ebt]
            clear ebf ebt HB0 HB1
            go_wp2
            go_loopg [36] k (fun g iv wr => ∃ (i : Nat) (fr t : List Bool), iv = .int .i64 i ∧ i + g = k ∧ Hid (FrOk next l0 i 0 fr ∧ Bl wr bf fr) ∧ Hid (ToOk next l0 i 0 t ∧ Bl wr bt t) ∧ Hid (Below w0.heap.size w0 wr))
            case atStart => exact ⟨0, _, _, rfl, by omega, HF0, HT0, HB9⟩
            case round =>
              clear HF0 HT0 HB9
              obtain ⟨i, fr, t, rfl, hi, hfo, hto, hb0⟩ := hrel
              by_cases hlti : i < k
              · obtain ⟨row, hrow, _⟩ := at_lt (xs := next) (k := i) (by have := Hnx.out; omega)
                obtain ⟨u, hu, hru⟩ := hx0 i row hrow
                have hgd : next.getD i [] = row := by rw [List.getD_eq_getElem?_getD, hrow]; rfl
                have Hgd := Lib.hid hgd
                have Hrow := Lib.hid (Hin.out row (List.mem_of_getElem? hrow))
                have hu1 := ((hbel.out.trans (hb0.out.mono hbel.out.size)).cell (p := ⟨ab, ao + i, none⟩) hab).trans hu
                obtain ⟨ra, rc, rfl, _, _, hrc⟩ := hru.shape
                obtain ⟨m, hm⟩ : ∃ m, m = row.length := ⟨_, rfl⟩
                have Hm := Lib.hid hm
                have hm63 : m ≤ 9223372036854775807 := by omega
                rw [← hm] at hrc hu1
                have hiI : (i : Int) < (k : Int) := Int.ofNat_lt.2 hlti
                clear hu hru hrow hgd hm
                go_wp2
                go_loopg [43] m (fun g cv wr => ∃ (c : Nat) (fr t : List Bool), cv = .int .i64 c ∧ c + g = m ∧ Hid (FrOk next l0 i c fr ∧ Bl wr bf fr) ∧ Hid (ToOk next l0 i c t ∧ Bl wr bt t) ∧ Hid (Below w0.heap.size w0 wr))
                case atStart => exact ⟨0, fr, t, rfl, by omega, hfo, hto, hb0⟩
                case round =>
                  clear hfo hto hb0 hu1
                  obtain ⟨c, fr, t, rfl, hc, hfo, hto, hb0⟩ := hrel
                  by_cases hltc : c < m
                  · obtain ⟨b, o, rfl, hb, hr0⟩ := hrc (by omega)
                    obtain ⟨y, hy, _⟩ := at_lt (xs := row) (k := c) (by have := Hm.out; omega)
                    obtain ⟨u, hu2, hux⟩ := hr0 c y hy
                    obtain rfl : u = .int .i64 y := hux
                    obtain ⟨hy0, hy1⟩ := Hrow.out y (List.mem_of_getElem? hy)
                    obtain ⟨yn, rfl⟩ := Int.eq_ofNat_of_zero_le hy0
                    have hyn : yn < k := by omega
                    have Hy := Lib.hid (show (next.getD i [])[c]? = some (yn : Int) from by rw [Hgd.out]; exact hy)
                    have hc1 := ((hbel.out.trans (hb0.out.mono hbel.out.size)).cell (p := ⟨b, o + c, none⟩) hb).trans hu2
                    have hll := Hl0.out
                    have hli : l0[i]? = some (l0[i]'(by omega)) := List.getElem?_eq_getElem (by omega)
                    have hly : l0[yn]? = some (l0[yn]'(by omega)) := List.getElem?_eq_getElem (by omega)
                    obtain ⟨b1, _, hv, _, _, hbl1, hcl1, _, _⟩ := HN0.out.val_at (fun _ => rfl) hli
                    obtain rfl : b1 = w.heap.size := by simp at hv; exact hv.1.symm
                    obtain ⟨b2, _, hv2, _, _, _, hcl2, _, _⟩ := HN0.out.val_at (fun _ => rfl) hly
                    obtain rfl : b2 = w.heap.size := by simp at hv2; exact hv2.1.symm
                    replace hcl1 := (hb0.out.cell (p := ⟨w.heap.size, i, none⟩) hbl1).trans hcl1
                    replace hcl2 := (hb0.out.cell (p := ⟨w.heap.size, yn, none⟩) hbl1).trans hcl2
                    have hoi : On l0 i ↔ l0[i]'(by omega) = true := by unfold On; rw [hli]; simp
                    have hoy : On l0 yn ↔ l0[yn]'(by omega) = true := by unfold On; rw [hly]; simp
                    generalize l0[i]'(by omega) = li at *
                    generalize l0[yn]'(by omega) = ly at *
                    have hcm : (c : Int) < (m : Int) := Int.ofNat_lt.2 hltc
                    have hiF : i < fr.length := by rw [hfo.out.1.1]; omega
                    have hyT : yn < t.length := by rw [hto.out.1.1]; omega
                    have HSK := Lib.hid (fun (h : ¬ (li = true ∧ ly = true)) => And.intro (hfo.out.1.skip Hy.out (fun ⟨p1, p2⟩ => h ⟨hoi.1 p1, hoy.1 p2⟩)) (hto.out.1.skip Hy.out (fun ⟨p1, p2⟩ => h ⟨hoi.1 p1, hoy.1 p2⟩)))
                    have HTK := Lib.hid (fun (h1 : li = true) (h2 : ly = true) => And.intro (hfo.out.1.take Hy.out (hoi.2 h1) (hoy.2 h2)) (hto.out.1.take Hy.out (hoi.2 h1) (hoy.2 h2)))
                    have fA := hfo.out.2.2 i _ (List.getElem?_eq_getElem hiF)
                    have tA := hto.out.2.2 yn _ (List.getElem?_eq_getElem hyT)
                    have HBF := Lib.hid (((hfo.out.2.set hiF true).other (i := yn) hne2 (.bool true)))
                    have HBT := Lib.hid ((hto.out.2.other (i := i) hne (.bool true)).set hyT true)
                    have HBW := Lib.hid ((hb0.out.setCell (p := ⟨bf, i, none⟩) hbf (.bool true)).setCell (p := ⟨bt, yn, none⟩) hbt (.bool true))
                    obtain ⟨fA1, fA2⟩ := fA
                    obtain ⟨tA1, tA2⟩ := tA
                    have hiF' : bf < wr.heap.size := hfo.out.2.1
                    have hbF := Lib.hid hfo.out.2
                    have hbT := Lib.hid hto.out.2
                    generalize fr[i] = x1 at *
                    generalize t[yn] = x2 at *
                    clear hy hr0 hu2 hli hly hv hv2 hoi hoy hy0 hy1 Hy hfo hto hx0
                    cases li with
                    | false =>
                      have R := Lib.hid (HSK.out (by simp))
                      clear HSK HTK HBF HBT HBW fA1 fA2 tA1 tA2
                      go_wp2
                      go_roundg (m - (c + 1))
                      case measure => omega
                      case rel => exact ⟨c + 1, fr, t, by go_num, by omega, Lib.hid ⟨R.out.1, hbF.out⟩, Lib.hid ⟨R.out.2, hbT.out⟩, hb0⟩
                    | true =>
                      cases ly with
                      | false =>
                        have R := Lib.hid (HSK.out (by simp))
                        clear HSK HTK HBF HBT HBW fA1 fA2 tA1 tA2
                        go_wp2
                        go_roundg (m - (c + 1))
                        case measure => omega
                        case rel => exact ⟨c + 1, fr, t, by go_num, by omega, Lib.hid ⟨R.out.1, hbF.out⟩, Lib.hid ⟨R.out.2, hbT.out⟩, hb0⟩
                      | true =>
                        have R := Lib.hid (HTK.out rfl rfl)
                        clear HSK HTK hbF hbT
                        go_wp2
                        go_roundg (m - (c + 1))
                        case measure => omega
                        case rel => exact ⟨c + 1, fr.set i true, t.set yn true, by go_num, by omega, Lib.hid ⟨R.out.1, HBF.out⟩, Lib.hid ⟨R.out.2, HBT.out⟩, HBW⟩
                  · have R1 := Lib.hid (And.intro (hfo.out.1.row (by rw [Hgd.out, ← Hm.out]; omega)) hfo.out.2)
                    have R2 := Lib.hid (And.intro (hto.out.1.row (by rw [Hgd.out, ← Hm.out]; omega)) hto.out.2)
                    clear hfo hto hrc
                    go_wp2
                    go_roundg (k - (i + 1))
                    case measure => omega
                    case rel => exact ⟨i + 1, fr, t, by go_num, by omega, R1, R2, hb0⟩
              · obtain rfl : i = k := by omega
                have HBF := Lib.hid hfo.out.2
                have HBT := Lib.hid hto.out.2
                have HFO := Lib.hid hfo.out.1
                have HTO := Lib.hid hto.out.1
                have HR0 := Lib.hid (Ren.start (l0 := l0) (fr := fr) (t := t))
                have HNr := Lib.hid (New.keep (OwnOf.kept (OVal.kept (fun _ => rfl))) HN0.out hb0.out (Nat.le_refl _))
                have HBr := Lib.hid (hbel.out.trans (hb0.out.mono hbel.out.size))
                have hz0 := hb0.out.size
                have hwlt : w.heap.size < w0.heap.size := by
                  have hli : l0[0]? = some (l0[0]'(by have := Hl0.out; omega)) := List.getElem?_eq_getElem (by have := Hl0.out; omega)
                  obtain ⟨b1, _, hv, _, _, hbl1, _⟩ := HN0.out.val_at (fun _ => rfl) hli
                  obtain rfl : b1 = w.heap.size := by simp at hv; exact hv.1.symm
                  exact hbl1
                have hwf : w.heap.size ≠ bf := by omega
                have hwt : w.heap.size ≠ bt := by omega
                clear hfo hto hnew hbel hb0 HN0
                go_wp2
                go_loopg [67] i (fun g jv wr => ∃ (j : Nat) (l : List Bool), jv = .int .i64 j ∧ j + g = i ∧ Hid (Ren l0 fr t j l) ∧ Hid (New (OwnOf 4 (OValR Value.bool)) w.heap.size wr (.slice (some ⟨w.heap.size, 0, none⟩) i i) l) ∧ Hid (Bl wr bf fr) ∧ Hid (Bl wr bt t) ∧ Hid (Below w.heap.size w wr))
                case atStart => exact ⟨0, l0, rfl, by omega, HR0, HNr, HBF, HBT, HBr⟩
                case round =>
                  clear HR0 HNr HBF HBT HBr
                  obtain ⟨j, l, rfl, hj, hren, hnl, hbf2, hbt2, hbr⟩ := hrel
                  by_cases hltj : j < i
                  · have hjI : (j : Int) < (i : Int) := Int.ofNat_lt.2 hltj
                    have hll := Hl0.out
                    have e1 := hren.out.1
                    have e2 := HFO.out.1
                    have e3 := HTO.out.1
                    have hlj : l[j]? = some (l[j]'(by omega)) := List.getElem?_eq_getElem (by omega)
                    have hfj : fr[j]? = some (fr[j]'(by omega)) := List.getElem?_eq_getElem (by omega)
                    have htj : t[j]? = some (t[j]'(by omega)) := List.getElem?_eq_getElem (by omega)
                    obtain ⟨b1, _, hv, _, _, hbl1, hcl1, hfr1, hst⟩ := hnl.out.val_at (fun _ => rfl) hlj
                    obtain rfl : b1 = w.heap.size := by simp at hv; exact hv.1.symm
                    obtain ⟨fA1, fA2⟩ := hbf2.out.2 j _ hfj
                    obtain ⟨tA1, tA2⟩ := hbt2.out.2 j _ htj
                    have R1 := Lib.hid (hren.out.step hlj hfj htj)
                    generalize l[j]'(by omega) = x1 at *
                    generalize fr[j]'(by omega) = x2 at *
                    generalize t[j]'(by omega) = x3 at *
                    have R2 := Lib.hid (hst (x1 && x2 && x3))
                    have R3 := Lib.hid (hbf2.out.other (i := j) hwf (.bool (x1 && x2 && x3)))
                    have R4 := Lib.hid (hbt2.out.other (i := j) hwt (.bool (x1 && x2 && x3)))
                    have R5 := Lib.hid (hbr.out.setCell (p := ⟨w.heap.size, j, none⟩) (Nat.le_refl _) (.bool (x1 && x2 && x3)))
                    clear hlj hfj htj hv hst hren hnl hbf2 hbt2 hbr e1 e2 e3
                    cases x1 <;> cases x2 <;> cases x3 <;> (go_wp2; go_roundg (i - (j + 1)); (case measure => omega); (case rel => exact ⟨j + 1, _, by go_num, by omega, R1, R2, R3, R4, R5⟩))
                  · obtain rfl : j = i := by omega
                    have R1 := Lib.hid (hinv.out.step (hren.out.rnd Hl0.out (by rw [Hnx.out]; exact Nat.le_refl _) HFO.out HTO.out))
                    clear hren hinv hbf2 hbt2 HFO HTO
                    go_wp2
                    go_roundg (j - (r + 1))
                    case measure => omega
                    case rel => exact ⟨r + 1, l, by go_num, by omega, R1, hnl, hbr⟩
        · obtain rfl : r = k := by omega
          have HF := Lib.hid (show New (OwnOf 4 (OValR Value.bool)) w.heap.size w0 (.slice (some ⟨w.heap.size, 0, none⟩) r r) (liveL (EntN next) r) from by have h := hnew.out; rw [hinv.out.end] at h; exact h)
          clear hnew hinv
          go_wp2
          go_ret
          exact ⟨_, rfl, HF.out, hbel.out⟩
end Go.Proofs.Ytcilgihmaaobeaa
end
