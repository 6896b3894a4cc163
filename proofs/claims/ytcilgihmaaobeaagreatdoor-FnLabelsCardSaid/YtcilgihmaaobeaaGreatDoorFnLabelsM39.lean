/-
  Laws for this claim's walks, contracts of the functions that it reaches.
-/
import Derived.Test.YtcilgihmaaobeaaGreatDoorFnLabelsM24
set_option linter.unusedVariables false
set_option linter.unusedSimpArgs false
section
namespace Go.Proofs.YtcilgihmaaobeaaGreatDoor
open Go.RowKit Go.Deep Go.Sd
theorem _root_.Go.Sd.New.lab0 {lo : Nat} {w : World} : New OLab lo w (.agg #[.int .i64 0, .int .i64 0, .slice none 0 0]) (0, 0, []) :=
  ⟨[], ⟨_, rfl, by simp, Or.inl ⟨rfl, rfl, rfl⟩⟩, by simp [Fresh]⟩
theorem _root_.Go.Sd.New.labAgg {lo : Nat} {w : World} {v : Value} {x : Lb} (h : New OLab lo w v x) : ∃ a n c, v = .agg #[.int .i64 x.1, .int .i64 x.2.1, .slice a n c] := by
  obtain ⟨F, ⟨va, rfl, _, ⟨_, rfl, _⟩ | ⟨B, c, rfl, _⟩⟩, _⟩ := h
  · exact ⟨_, _, _, rfl⟩
  · exact ⟨_, _, _, rfl⟩
set_option maxHeartbeats 4000000 in
set_option maxRecDepth 100000 in
theorem spec_TrimLabels_c {w : World} {v : Value} {l : Lb} (h : LabR w v l) :
    Calls Tryz.prog 10 #[v] w (Makes2 OLab w (trimV l) (trimOk l)) := by
  have H1 := Lib.hid (fun w1 (hb : Below w.heap.size w w1) => spec_IsLabels_c (LabR.frame _ _ _ _ h hb))
  have H2 := Lib.hid (fun (hok : isLab l = true) w1 (hb : Below w.heap.size w w1) => l14Live_c (LabR.frame _ _ _ _ h hb) hok)
  have H3 := Lib.hid (fun (hok : isLab l = true) w1 vb (hb : Below w.heap.size w w1) (hbs : SlOf (ValR Value.bool) w1 vb (liveO l)) => l14Keep_c (LabR.frame _ _ _ _ h hb) hbs hok (liveO_len l))
  have HV := Lib.hid (show trimV l = if trimOk l = true then keepV l (liveO l) else (0, 0, []) from rfl)
  have HO := Lib.hid (show trimOk l = (isLab l && decide (cntT (liveO l) ≠ 0)) from by unfold trimOk; congr 1)
  have HK := Lib.hid (show (keepV l (liveO l)).2.1 = (cntT (liveO l) : Int) from rfl)
  have HLV := Lib.hid (show liveL (ArcP l.2.2) l.2.1.toNat = liveO l from rfl)
  rw [HLV.out] at H2
  generalize trimV l = V at HV ⊢
  generalize trimOk l = ok at HV HO ⊢
  generalize isLab l = il at H1 H2 H3 HO
  generalize keepV l (liveO l) = kv at *
  generalize liveO l = lv at *
  clear HLV
  obtain ⟨L, S, xs⟩ := l
  obtain ⟨va, rfl, hlen, a, c, rfl, _, _, _, hcell⟩ := h
  simp only at *
  generalize xs.length = n at *
  clear hcell hlen
  obtain ⟨wA, eA, hA0⟩ : ∃ wA, wA = (w.alloc (.cells #[.int .i64 L, .int .i64 S, .slice a n c] 26)).alloc (.cells #[.int .i64 0, .int .i64 0, .slice none 0 0] 26) ∧ Below w.heap.size w wA := ⟨_, rfl, ((Below.refl _ _).alloc (Nat.le_refl _) _).alloc (by simp) _⟩
  have zA : wA.heap.size = w.heap.size + 1 + 1 := by rw [eA]; simp
  have l0 : wA.cell? ⟨w.heap.size, 0, none⟩ = some (.int .i64 L) := by rw [eA]; simp [go_sem]
  have l1 : wA.cell? ⟨w.heap.size, 1, none⟩ = some (.int .i64 S) := by rw [eA]; simp [go_sem]
  have l2 : wA.cell? ⟨w.heap.size, 2, none⟩ = some (.slice a n c) := by rw [eA]; simp [go_sem]
  have r0 : wA.cell? ⟨w.heap.size + 1, 0, none⟩ = some (.int .i64 0) := by rw [eA]; simp [go_sem]
  have r1 : wA.cell? ⟨w.heap.size + 1, 1, none⟩ = some (.int .i64 0) := by rw [eA]; simp [go_sem]
  have r2 : wA.cell? ⟨w.heap.size + 1, 2, none⟩ = some (.slice none 0 0) := by rw [eA]; simp [go_sem]
  have t0 : wA.frozen? ⟨w.heap.size + 1, 0, none⟩ = false := by rw [eA]; simp [go_sem]
  have t1 : wA.frozen? ⟨w.heap.size + 1, 1, none⟩ = false := by rw [eA]; simp [go_sem]
  have t2 : wA.frozen? ⟨w.heap.size + 1, 2, none⟩ = false := by rw [eA]; simp [go_sem]
  have HA := Lib.hid hA0
  have eW := eA.symm
  have h1A : w.heap.size + 1 < wA.heap.size := by omega
  have h0A : w.heap.size < wA.heap.size := by omega
  clear eA hA0 zA
  go_enter Tryz.func10, Tryz.ntmps10
  go_wp2_with fail
  refine (H1.out _ HA.out).mono ?_
  rintro e w1 ⟨rfl, hb1⟩
  replace l0 := (hb1.cell (p := ⟨w.heap.size, 0, none⟩) h0A).trans l0
  replace l1 := (hb1.cell (p := ⟨w.heap.size, 1, none⟩) h0A).trans l1
  replace l2 := (hb1.cell (p := ⟨w.heap.size, 2, none⟩) h0A).trans l2
  replace r0 := (hb1.cell (p := ⟨w.heap.size + 1, 0, none⟩) h1A).trans r0
  replace t0 := (hb1.frozen (p := ⟨w.heap.size + 1, 0, none⟩) h1A).trans t0
  replace r1 := (hb1.cell (p := ⟨w.heap.size + 1, 1, none⟩) h1A).trans r1
  replace t1 := (hb1.frozen (p := ⟨w.heap.size + 1, 1, none⟩) h1A).trans t1
  replace r2 := (hb1.cell (p := ⟨w.heap.size + 1, 2, none⟩) h1A).trans r2
  replace t2 := (hb1.frozen (p := ⟨w.heap.size + 1, 2, none⟩) h1A).trans t2
  have A1 := Lib.hid (HA.out.trans (hb1.mono HA.out.size))
  have h1w : w.heap.size + 1 < w1.heap.size := Nat.lt_of_lt_of_le h1A hb1.size
  have h0w : w.heap.size < w1.heap.size := Nat.lt_of_lt_of_le h0A hb1.size
  clear eW hb1 H1 HA
  cases il with
  | false =>
    have HF := Lib.hid (show ok = false from by rw [HO.out]; rfl)
    have HW := Lib.hid (show V = (0, 0, []) from by rw [HV.out, HF.out]; rfl)
    clear HV HO H2 H3
    go_wp2
    have s0 := World.cell?_setCell_same w1 _ (.int .i64 0) r0
    have u1 := (World.cell?_setCell_other _ ⟨w.heap.size + 1, 0, none⟩ _ (.int .i64 0) (by simp)).trans r1
    have s1 := World.cell?_setCell_same _ _ (.int .i64 0) u1
    have u2 := (World.cell?_setCell_other _ ⟨w.heap.size + 1, 1, none⟩ _ (.int .i64 0) (by simp)).trans ((World.cell?_setCell_other _ ⟨w.heap.size + 1, 0, none⟩ _ (.int .i64 0) (by simp)).trans r2)
    have s2 := World.cell?_setCell_same _ _ (.slice none 0 0) u2
    refine bodyPost_ret (v := .tuple #[.agg #[.int .i64 0, .int .i64 0, .slice none 0 0], .bool false]) (by simp [results, Tryz.results10, go_sem, s0, s1, s2]) rfl ?_
    exact ⟨_, by rw [HF.out], by rw [HW.out]; exact New.lab0, (((A1.out.setCell (p := ⟨w.heap.size + 1, 0, none⟩) (by simp) _).setCell (p := ⟨w.heap.size + 1, 1, none⟩) (by simp) _).setCell (p := ⟨w.heap.size + 1, 2, none⟩) (by simp) _)⟩
  | true =>
  have D1 := Lib.hid (fun wz (hz : Below w1.heap.size w1 wz) => H2.out (by first | rfl | trivial) wz (A1.out.trans (hz.mono A1.out.size)))
  have D2 := Lib.hid (fun wz vb (hz : Below w1.heap.size w1 wz) => H3.out (by first | rfl | trivial) wz vb (A1.out.trans (hz.mono A1.out.size)))
  have HO2 := Lib.hid (show ok = decide (cntT lv ≠ 0) from by rw [HO.out]; rfl)
  clear H2 H3 HO
  go_upto_region 3 with fail
  go_cut [4] (fun s4 wx => ∃ (B : Nat) (sa : Option Addr) (sn sc : Nat), s4 = .pointer (some ⟨B, 0, none⟩) ∧ B < wx.heap.size ∧ wx.cell? ⟨B, 0, none⟩ = some (.int .i64 kv.1) ∧ wx.cell? ⟨B, 1, none⟩ = some (.int .i64 kv.2.1) ∧ wx.cell? ⟨B, 2, none⟩ = some (.slice sa sn sc) ∧ Hid (New OLab w1.heap.size wx (.agg #[.int .i64 kv.1, .int .i64 kv.2.1, .slice sa sn sc]) kv) ∧ Hid (Below w1.heap.size w1 wx))
  case first =>
    have B1 := (Below.refl w1.heap.size w1).drew
    have hS0 : w1.cell? ⟨w.heap.size, 0, none⟩ = some (.int .i64 L) ∧ w1.cell? ⟨w.heap.size, 1, none⟩ = some (.int .i64 S) ∧ w1.cell? ⟨w.heap.size, 2, none⟩ = some (.slice a n c) := ⟨l0, l1, l2⟩
    have hSd : w1.drew.cell? ⟨w.heap.size, 0, none⟩ = some (.int .i64 L) ∧ w1.drew.cell? ⟨w.heap.size, 1, none⟩ = some (.int .i64 S) ∧ w1.drew.cell? ⟨w.heap.size, 2, none⟩ = some (.slice a n c) := hS0
    have HSS := Lib.hid (fun (wz : World) (hb3 : Below w1.heap.size w1 wz) => (show wz.cell? ⟨w.heap.size, 0, none⟩ = some (.int .i64 L) ∧ wz.cell? ⟨w.heap.size, 1, none⟩ = some (.int .i64 S) ∧ wz.cell? ⟨w.heap.size, 2, none⟩ = some (.slice a n c) from ⟨(hb3.cell (p := ⟨w.heap.size, 0, none⟩) h0w).trans l0, (hb3.cell (p := ⟨w.heap.size, 1, none⟩) h0w).trans l1, (hb3.cell (p := ⟨w.heap.size, 2, none⟩) h0w).trans l2⟩))
    go_region_held3 (fun w' => w'.cell? ⟨w.heap.size, 0, none⟩ = some (.int .i64 L) ∧ w'.cell? ⟨w.heap.size, 1, none⟩ = some (.int .i64 S) ∧ w'.cell? ⟨w.heap.size, 2, none⟩ = some (.slice a n c))
      (first | with_reducible exact hS2 | with_reducible exact hS1 | with_reducible exact hSd | with_reducible exact hS0 | (with_reducible exact HSS.out _ (((B3.setCell (p := ⟨w2.heap.size, 0, none⟩) hB2.size (.int .i64 kv.1)).setCell (p := ⟨w2.heap.size, 1, none⟩) hB2.size (.int .i64 kv.2.1)).setCell (p := ⟨w2.heap.size, 2, none⟩) hB2.size (.slice sa sn sc))) | (with_reducible exact HSS.out _ (((B3.setCell (p := ⟨w1.heap.size, 0, none⟩) (Nat.le_refl _) (.int .i64 kv.1)).setCell (p := ⟨w1.heap.size, 1, none⟩) (Nat.le_refl _) (.int .i64 kv.2.1)).setCell (p := ⟨w1.heap.size, 2, none⟩) (Nat.le_refl _) (.slice sa sn sc))) | (with_reducible exact HSS.out _ (B3.alloc B3.size _)) | go_keep)
      ((first
        | (go_at_call 43; have hB2 := B2; (first
          | ((with_reducible refine (D2.out _ _ B2 hbs).mono ?_); rintro e w3 ⟨r3, rfl, hn3, hb3⟩; obtain ⟨sa, sn, sc, rfl⟩ := hn3.labAgg; have B3 := B2.trans (hb3.mono B2.size); (first | (replace k0 := (hb3.cell (p := ⟨w1.heap.size, 0, none⟩) hkB).trans k0; replace f0 := (hb3.frozen (p := ⟨w1.heap.size, 0, none⟩) hkB).trans f0; replace k1 := (hb3.cell (p := ⟨w1.heap.size, 1, none⟩) hkB).trans k1; replace f1 := (hb3.frozen (p := ⟨w1.heap.size, 1, none⟩) hkB).trans f1; replace k2 := (hb3.cell (p := ⟨w1.heap.size, 2, none⟩) hkB).trans k2; replace f2 := (hb3.frozen (p := ⟨w1.heap.size, 2, none⟩) hkB).trans f2) | skip))
          | (have B2a := B2.alloc B2.size (.cells #[.int .i64 0, .int .i64 0, .slice none 0 0] 26); have hbsa := SlOf.frame (fun _ _ _ _ h _ => h) _ _ _ _ hbs ((Below.refl w2.heap.size w2).alloc (Nat.le_refl _) (.cells #[.int .i64 0, .int .i64 0, .slice none 0 0] 26)); (with_reducible refine (D2.out _ _ B2a hbsa).mono ?_); rintro e w3 ⟨r3, rfl, hn3, hb3⟩; obtain ⟨sa, sn, sc, rfl⟩ := hn3.labAgg; have B3 := B2a.trans (hb3.mono B2a.size); have k0 : w3.cell? ⟨w2.heap.size, 0, none⟩ = some (.int .i64 0) := (hb3.cell (p := ⟨w2.heap.size, 0, none⟩) (by simp)).trans (by simp [go_sem]); have f0 : w3.frozen? ⟨w2.heap.size, 0, none⟩ = false := (hb3.frozen (p := ⟨w2.heap.size, 0, none⟩) (by simp)).trans (by simp [go_sem]); have k1 : w3.cell? ⟨w2.heap.size, 1, none⟩ = some (.int .i64 0) := (hb3.cell (p := ⟨w2.heap.size, 1, none⟩) (by simp)).trans (by simp [go_sem]); have f1 : w3.frozen? ⟨w2.heap.size, 1, none⟩ = false := (hb3.frozen (p := ⟨w2.heap.size, 1, none⟩) (by simp)).trans (by simp [go_sem]); have k2 : w3.cell? ⟨w2.heap.size, 2, none⟩ = some (.slice none 0 0) := (hb3.cell (p := ⟨w2.heap.size, 2, none⟩) (by simp)).trans (by simp [go_sem]); have f2 : w3.frozen? ⟨w2.heap.size, 2, none⟩ = false := (hb3.frozen (p := ⟨w2.heap.size, 2, none⟩) (by simp)).trans (by simp [go_sem]))); have hS2 := HSS.out _ B3)
        | (go_at_call 44; (first
          | ((with_reducible refine (D1.out _ B1).mono ?_); rintro e w2 ⟨r2, rfl, hn2, hb2⟩; obtain ⟨ra, rn, rc, rfl⟩ := hn2.slice; have B2 := B1.trans (hb2.mono B1.size))
          | (have B1a := Below.drew ((Below.refl w1.heap.size w1).alloc (Nat.le_refl _) (.cells #[.int .i64 0, .int .i64 0, .slice none 0 0] 26)); (with_reducible refine (D1.out _ B1a).mono ?_); rintro e w2 ⟨r2, rfl, hn2, hb2⟩; obtain ⟨ra, rn, rc, rfl⟩ := hn2.slice; have B2 := B1a.trans (hb2.mono B1a.size); have k0 : w2.cell? ⟨w1.heap.size, 0, none⟩ = some (.int .i64 0) := (hb2.cell (p := ⟨w1.heap.size, 0, none⟩) (by simp)).trans (by simp [go_sem]); have f0 : w2.frozen? ⟨w1.heap.size, 0, none⟩ = false := (hb2.frozen (p := ⟨w1.heap.size, 0, none⟩) (by simp)).trans (by simp [go_sem]); have k1 : w2.cell? ⟨w1.heap.size, 1, none⟩ = some (.int .i64 0) := (hb2.cell (p := ⟨w1.heap.size, 1, none⟩) (by simp)).trans (by simp [go_sem]); have f1 : w2.frozen? ⟨w1.heap.size, 1, none⟩ = false := (hb2.frozen (p := ⟨w1.heap.size, 1, none⟩) (by simp)).trans (by simp [go_sem]); have k2 : w2.cell? ⟨w1.heap.size, 2, none⟩ = some (.slice none 0 0) := (hb2.cell (p := ⟨w1.heap.size, 2, none⟩) (by simp)).trans (by simp [go_sem]); have f2 : w2.frozen? ⟨w1.heap.size, 2, none⟩ = false := (hb2.frozen (p := ⟨w1.heap.size, 2, none⟩) (by simp)).trans (by simp [go_sem]); have hkB : w1.heap.size < w2.heap.size := (by have := hb2.size; simp at this; omega))); have hS1 := HSS.out _ B2; have hbs := (show SlOf (ValR Value.bool) w2 _ lv from by obtain ⟨F, hF, _⟩ := hn2; exact OwnOf.reads (fun _ _ _ _ h => h.1) hF))
        | fail))
    · have hz2 := B2.size
      have HPk := Lib.hid ((((hn3.mono hz2).inn OLab.held).keep OLab.held ((Below.refl w3.heap.size w3).alloc (Nat.le_refl _) (.cells #[.int .i64 kv.1, .int .i64 kv.2.1, .slice sa sn sc] 26)) (Nat.le_refl _)).new)
      have HBk := Lib.hid (B3.alloc B3.size (.cells #[.int .i64 kv.1, .int .i64 kv.2.1, .slice sa sn sc] 26))
      go_wp2
      go_meet
      case rel => exact ⟨w3.heap.size, _, _, _, rfl, by simp, by simp, by simp, by simp, HPk, HBk⟩
    · have hz2 := hB2.size
      have hz3 := hb3.size
      have e3 : (w2.alloc (.cells #[.int .i64 0, .int .i64 0, .slice none 0 0] 26)).heap.size = w2.heap.size + 1 := by simp
      rw [e3] at hn3 hz3
      have HPk := Lib.hid ((New.storeLow OLab.held (New.storeLow OLab.held (New.storeLow OLab.held hn3 (show w2.heap.size < w2.heap.size + 1 by omega) (.int .i64 kv.1) (p := ⟨w2.heap.size, 0, none⟩)) (show w2.heap.size < w2.heap.size + 1 by omega) (.int .i64 kv.2.1) (p := ⟨w2.heap.size, 1, none⟩)) (show w2.heap.size < w2.heap.size + 1 by omega) (.slice sa sn sc) (p := ⟨w2.heap.size, 2, none⟩)).mono (lo' := w1.heap.size) (by omega))
      have HBk := Lib.hid ((((B3.setCell (p := ⟨w2.heap.size, 0, none⟩) hz2 (.int .i64 kv.1)).setCell (p := ⟨w2.heap.size, 1, none⟩) hz2 (.int .i64 kv.2.1)).setCell (p := ⟨w2.heap.size, 2, none⟩) hz2 (.slice sa sn sc)))
      have s0 := World.cell?_setCell_same _ _ (.int .i64 kv.1) k0
      have u1 := (World.cell?_setCell_other _ ⟨w2.heap.size, 0, none⟩ _ (.int .i64 kv.1) (by simp)).trans k1
      have s1 := World.cell?_setCell_same _ _ (.int .i64 kv.2.1) u1
      have u2 := (World.cell?_setCell_other _ ⟨w2.heap.size, 1, none⟩ _ (.int .i64 kv.2.1) (by simp)).trans ((World.cell?_setCell_other _ ⟨w2.heap.size, 0, none⟩ _ (.int .i64 kv.1) (by simp)).trans k2)
      have s2 := World.cell?_setCell_same _ _ (.slice sa sn sc) u2
      have s1' := (World.cell?_setCell_other _ ⟨w2.heap.size, 2, none⟩ _ (.slice sa sn sc) (by simp)).trans s1
      have s0' := (World.cell?_setCell_other _ ⟨w2.heap.size, 2, none⟩ _ (.slice sa sn sc) (by simp)).trans ((World.cell?_setCell_other _ ⟨w2.heap.size, 1, none⟩ _ (.int .i64 kv.2.1) (by simp)).trans s0)
      go_wp2
      go_meet
      case rel => exact ⟨w2.heap.size, _, _, _, rfl, by simp <;> omega, s0', s1', s2, HPk, HBk⟩
    · have hz2 := B2.size
      have hz3 := hb3.size
      have HPk := Lib.hid ((New.storeLow OLab.held (New.storeLow OLab.held (New.storeLow OLab.held hn3 (show w1.heap.size < w2.heap.size from hkB) (.int .i64 kv.1) (p := ⟨w1.heap.size, 0, none⟩)) (show w1.heap.size < w2.heap.size from hkB) (.int .i64 kv.2.1) (p := ⟨w1.heap.size, 1, none⟩)) (show w1.heap.size < w2.heap.size from hkB) (.slice sa sn sc) (p := ⟨w1.heap.size, 2, none⟩)).mono (lo' := w1.heap.size) (by omega))
      have HBk := Lib.hid ((((B3.setCell (p := ⟨w1.heap.size, 0, none⟩) (Nat.le_refl _) (.int .i64 kv.1)).setCell (p := ⟨w1.heap.size, 1, none⟩) (Nat.le_refl _) (.int .i64 kv.2.1)).setCell (p := ⟨w1.heap.size, 2, none⟩) (Nat.le_refl _) (.slice sa sn sc)))
      have s0 := World.cell?_setCell_same _ _ (.int .i64 kv.1) k0
      have u1 := (World.cell?_setCell_other _ ⟨w1.heap.size, 0, none⟩ _ (.int .i64 kv.1) (by simp)).trans k1
      have s1 := World.cell?_setCell_same _ _ (.int .i64 kv.2.1) u1
      have u2 := (World.cell?_setCell_other _ ⟨w1.heap.size, 1, none⟩ _ (.int .i64 kv.2.1) (by simp)).trans ((World.cell?_setCell_other _ ⟨w1.heap.size, 0, none⟩ _ (.int .i64 kv.1) (by simp)).trans k2)
      have s2 := World.cell?_setCell_same _ _ (.slice sa sn sc) u2
      have s1' := (World.cell?_setCell_other _ ⟨w1.heap.size, 2, none⟩ _ (.slice sa sn sc) (by simp)).trans s1
      have s0' := (World.cell?_setCell_other _ ⟨w1.heap.size, 2, none⟩ _ (.slice sa sn sc) (by simp)).trans ((World.cell?_setCell_other _ ⟨w1.heap.size, 1, none⟩ _ (.int .i64 kv.2.1) (by simp)).trans s0)
      go_wp2
      go_meet
      case rel => exact ⟨w1.heap.size, _, _, _, rfl, by simp <;> omega, s0', s1', s2, HPk, HBk⟩
  case rest =>
    obtain ⟨B, sa, sn, sc, rfl, hBx, d0, d1, d2, HP, HB⟩ := hcut
    obtain ⟨wz, rfl⟩ : ∃ x, x = wc := ⟨_, rfl⟩
    replace r0 := (HB.out.cell (p := ⟨w.heap.size + 1, 0, none⟩) h1w).trans r0
    replace t0 := (HB.out.frozen (p := ⟨w.heap.size + 1, 0, none⟩) h1w).trans t0
    replace r1 := (HB.out.cell (p := ⟨w.heap.size + 1, 1, none⟩) h1w).trans r1
    replace t1 := (HB.out.frozen (p := ⟨w.heap.size + 1, 1, none⟩) h1w).trans t1
    replace r2 := (HB.out.cell (p := ⟨w.heap.size + 1, 2, none⟩) h1w).trans r2
    replace t2 := (HB.out.frozen (p := ⟨w.heap.size + 1, 2, none⟩) h1w).trans t2
    have Az := Lib.hid (A1.out.trans (HB.out.mono A1.out.size))
    clear D1 D2 l0 l1 l2
    by_cases h0 : cntT lv = 0
    · have HF := Lib.hid (show ok = false from by rw [HO2.out, h0]; rfl)
      have HW := Lib.hid (show V = (0, 0, []) from by rw [HV.out, HF.out]; rfl)
      rw [HK.out, h0] at d1
      clear HV HO2 HP HK h0
      go_wp2
      have s0 := World.cell?_setCell_same wz _ (.int .i64 0) r0
      have u1 := (World.cell?_setCell_other _ ⟨w.heap.size + 1, 0, none⟩ _ (.int .i64 0) (by simp)).trans r1
      have s1 := World.cell?_setCell_same _ _ (.int .i64 0) u1
      have u2 := (World.cell?_setCell_other _ ⟨w.heap.size + 1, 1, none⟩ _ (.int .i64 0) (by simp)).trans ((World.cell?_setCell_other _ ⟨w.heap.size + 1, 0, none⟩ _ (.int .i64 0) (by simp)).trans r2)
      have s2 := World.cell?_setCell_same _ _ (.slice none 0 0) u2
      refine bodyPost_ret (v := .tuple #[.agg #[.int .i64 0, .int .i64 0, .slice none 0 0], .bool false]) (by simp [results, Tryz.results10, go_sem, s0, s1, s2]) rfl ?_
      exact ⟨_, by rw [HF.out], by rw [HW.out]; exact New.lab0, (((Az.out.setCell (p := ⟨w.heap.size + 1, 0, none⟩) (by simp) _).setCell (p := ⟨w.heap.size + 1, 1, none⟩) (by simp) _).setCell (p := ⟨w.heap.size + 1, 2, none⟩) (by simp) _)⟩
    · have HF := Lib.hid (show ok = true from by rw [HO2.out]; exact decide_eq_true h0)
      have HW := Lib.hid (show V = kv from by rw [HV.out, HF.out]; rfl)
      have t0' : (kv.2.1 == (0 : Int)) = false := by rw [HK.out]; simp; exact h0
      clear HV HO2 HK h0
      go_wp2
      have s0 := World.cell?_setCell_same wz _ (.int .i64 kv.1) r0
      have u1 := (World.cell?_setCell_other _ ⟨w.heap.size + 1, 0, none⟩ _ (.int .i64 kv.1) (by simp)).trans r1
      have s1 := World.cell?_setCell_same _ _ (.int .i64 kv.2.1) u1
      have u2 := (World.cell?_setCell_other _ ⟨w.heap.size + 1, 1, none⟩ _ (.int .i64 kv.2.1) (by simp)).trans ((World.cell?_setCell_other _ ⟨w.heap.size + 1, 0, none⟩ _ (.int .i64 kv.1) (by simp)).trans r2)
      have s2 := World.cell?_setCell_same _ _ (.slice sa sn sc) u2
      refine bodyPost_ret (v := .tuple #[.agg #[.int .i64 kv.1, .int .i64 kv.2.1, .slice sa sn sc], .bool true]) (by simp [results, Tryz.results10, go_sem, s0, s1, s2]) rfl ?_
      exact ⟨_, by rw [HF.out], by rw [HW.out]; exact (New.storeLow OLab.held (New.storeLow OLab.held (New.storeLow OLab.held HP.out (show w.heap.size + 1 < w1.heap.size from h1w) _) (show w.heap.size + 1 < w1.heap.size from h1w) _) (show w.heap.size + 1 < w1.heap.size from h1w) _).mono (by omega), (((Az.out.setCell (p := ⟨w.heap.size + 1, 0, none⟩) (by simp) _).setCell (p := ⟨w.heap.size + 1, 1, none⟩) (by simp) _).setCell (p := ⟨w.heap.size + 1, 2, none⟩) (by simp) _)⟩
end Go.Proofs.YtcilgihmaaobeaaGreatDoor
end
