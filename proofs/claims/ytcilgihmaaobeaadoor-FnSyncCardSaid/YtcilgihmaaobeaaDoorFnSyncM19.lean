/-
  Texts of this claim joined: laws for its walks, contracts of the functions that the law reaches.
-/
import Derived.Test.YtcilgihmaaobeaaDoorFnSyncM18
import Derived.Test.YtcilgihmaaobeaaDoorFnSyncM8
import Derived.Test.YtcilgihmaaobeaaDoorRows
import Derived.Test.YtcilgihmaaobeaaDoorFnSyncM1
import Derived.Test.YtcilgihmaaobeaaDoorFnSyncM5
import Derived.Test.YtcilgihmaaobeaaDoorFnSyncM4
import Derived.Test.YtcilgihmaaobeaaDoorFnSyncM6
import Derived.Test.YtcilgihmaaobeaaDoorFnSyncM7
import Derived.IntWalk
import Derived.BigQuiet
import Derived.Test.YtcilgihmaaobeaaDoorFnSyncM2
import Derived.Deep.RegionWith
import Derived.Deep.RegionHeld3
import Derived.Deep.DeepCutAuto
set_option linter.unusedVariables false
set_option linter.unusedSimpArgs false
section
namespace Go.Proofs.YtcilgihmaaobeaaDoor
open Go.RowKit Go.Deep Go.Sd
set_option linter.unusedSimpArgs false
theorem txt_short {k : Lb} : (txt (shortM k)).size ≤ 16 := by
  cases h : shortM k with
  | none => exact Nat.zero_le _
  | some wd =>
    have := (short_facts h).2.1
    show (wordT wd).size ≤ 16
    rw [wordT_size]
    exact this
set_option maxHeartbeats 8000000 in
set_option maxRecDepth 100000 in
theorem l16Case_c {w : World} {vc : Value} {xs : List Int} (h : BytR w vc xs) :
    Calls Tryd.prog 25 #[vc] w fun e w' => ∃ (v : Value) (l : Lb) (s : ByteArray), e = .returned (.tuple #[v, .string s]) ∧ New OLab w.heap.size w' v l ∧ s.size ≤ 18 ∧ Below w.heap.size w w' := by
  obtain ⟨wA, eA, hA⟩ : ∃ x, x = w.alloc (.cells #[.int .i64 0, .int .i64 0, .slice none 0 0] 26) ∧ Below w.heap.size w x := ⟨_, rfl, (Below.refl _ _).alloc (Nat.le_refl _) _⟩
  have hA' : BytR wA vc xs := BytR.frame _ _ _ _ h hA
  have HN := Lib.hid (l1New_c hA')
  have HK := Lib.hid (fun w' (hb : Below wA.heap.size wA w') => BytR.frame _ _ _ _ hA' hb)
  obtain ⟨a, c, rfl, -⟩ := h.cellsB
  have z0 : w.heap.size < wA.heap.size := by rw [eA]; simp
  have RC := Lib.hid (show Cells wA w.heap.size [.int .i64 0, .int .i64 0, .slice none 0 0] from by
    refine ⟨z0, fun j u hj => ?_⟩
    rcases j with _ | _ | _ | j <;> first | (simp at hj; done) | (simp at hj; subst hj; rw [eA]; simp [go_sem]))
  have HA := Lib.hid hA
  have eAs := eA.symm
  clear h hA hA' eA
  go_enter Tryd.func25, Tryd.ntmps25
  go_wp2_with fail
  (with_reducible refine HN.out.mono ?_)
  rintro e w1 ⟨rfl, ⟨hh, hs⟩, hb⟩
  obtain ⟨cb, hcb⟩ : ∃ b, b = wA.heap.size := ⟨_, rfl⟩
  have HC1 := Lib.hid (show Cur wA.heap.size w1 cb (.slice a xs.length c) xs.length [] from by rw [hcb]; exact ⟨0, hh, Nat.zero_le _, hs⟩)
  rw [← hcb]
  have HX1 := Lib.hid hb
  have hz1 := hb.size
  clear hs hb HN eAs hcb
  have HL := Lib.hid (l15Draw_c (fun w' hb' => HK.out w' (HX1.out.trans hb')) HC1.out hz1)
  go_wp2_with fail
  (with_reducible refine HL.out.mono ?_)
  rintro e w2 ⟨v, l, rfl, hc, hb⟩
  have hz2 := Nat.le_trans hz1 hb.size
  have HX2 := Lib.hid (HX1.out.trans hb)
  obtain ⟨ya, yc, rfl⟩ := hc.labSlice
  obtain ⟨l0, l1, la⟩ := l
  obtain ⟨al, hal⟩ : ∃ n, n = la.length := ⟨_, rfl⟩
  simp only [← hal] at hc ⊢
  obtain ⟨w3, e3, hb3, -, -, -, -⟩ := boxA3_ex w2 26 (.int .i64 l0) (.int .i64 l1) (.slice ya al yc)
  have hc3 := hc.box hz2 [.int .i64 l0, .int .i64 l1, .slice ya al yc] 26
  rw [e3] at hc3
  have HC3 := Lib.hid hc3
  have HX3 := Lib.hid (HX2.out.trans (hb3.mono hz2))
  have hz3 := Nat.le_trans hz2 hb3.size
  have HE3 := Lib.hid e3
  clear hc3 hb3 e3
  have HR := Lib.hid (spec_ShortestSync_c HC3.out.rest.labR)
  have HT := Lib.hid (txt_short (k := (l0, l1, la)))
  generalize txt (shortM (l0, l1, la)) = t at HR HT
  generalize (shortM (l0, l1, la)).isSome = ok at HR
  clear hal hc hb HL HC1 HX1 HX2 hz1 hz2
  go_wp2_with fail
  rw [HE3.out]
  (with_reducible refine HR.out.mono ?_)
  rintro e w4 ⟨rfl, hb⟩
  obtain ⟨sb, hsb⟩ : ∃ b, b = w2.heap.size := ⟨_, rfl⟩
  rw [← hsb] at HC3 ⊢
  have hz4 := Nat.le_trans hz3 hb.size
  have HC4 := Lib.hid (HC3.out.below hb)
  have HX4 := Lib.hid (HX3.out.trans (hb.mono hz3))
  have hts : t.size ≤ 16 := HT.out
  clear hb hsb HE3 HR HC3 HX3 hz3 HT
  cases ok with
  | false =>
    have hwd : Below w4.heap.size w4 w4.drew := (Below.refl _ _).drew
    have HCd := Lib.hid (HC4.out.below hwd)
    have HXd := Lib.hid (HX4.out.trans (hwd.mono hz4))
    have hzd : wA.heap.size ≤ w4.drew.heap.size := Nat.le_trans hz4 hwd.size
    have hSd : w4.drew.cell? ⟨sb, 0, none⟩ = some (.int .i64 l0) ∧ w4.drew.cell? ⟨sb, 1, none⟩ = some (.int .i64 l1) ∧ w4.drew.cell? ⟨sb, 2, none⟩ = some (.slice ya al yc) := ⟨((HCd.out).out.headBox.2.2 0 _ rfl).1, ((HCd.out).out.headBox.2.2 1 _ rfl).1, ((HCd.out).out.headBox.2.2 2 _ rfl).1⟩
    have HL := Lib.hid (show Calls Tryd.prog 52 #[.pointer (some ⟨cb, 0, none⟩), .int .i64 2, .int .i64 6] w4.drew _ from l2Draw_c (kk := 2) (most := 6) (fun w' hb' => HK.out w' (HXd.out.trans hb')) HCd.out hzd (by omega) (by omega) (by omega))
    clear hwd HC4 HX4
    go_wp2_with fail
    refine wp_region_L (fun w' => w'.cell? ⟨sb, 0, none⟩ = some (.int .i64 l0) ∧ w'.cell? ⟨sb, 1, none⟩ = some (.int .i64 l1) ∧ w'.cell? ⟨sb, 2, none⟩ = some (.slice ya al yc)) (by kernel_rfl) ?_
    refine wpAnyL_take 0 (v := ?_) rfl (by kernel_rfl) (by kernel_rfl) (by kernel_rfl) (by kernel_rfl) (fun _ _ _ h => h) (Or.inl ⟨by rfl, ?_⟩) hSd ?_
    rotate_left
    · (intro w hSw; (try dsimp only at hSw); go_simp) <;> (try with_reducible rfl)
    try simp only [Act.put, List.getElem_toArray, List.getElem_cons_zero, List.getElem_cons_succ, List.setIfInBounds_toArray, List.set_cons_zero, List.set_cons_succ]
    refine wpAnyL_take 1 (v := ?_) rfl (by kernel_rfl) (by kernel_rfl) (by kernel_rfl) (by kernel_rfl) (fun _ _ _ h => h) (Or.inl ⟨by rfl, ?_⟩) hSd ?_
    rotate_left
    · (intro w hSw; (try dsimp only at hSw); go_simp) <;> (try with_reducible rfl)
    try simp only [Act.put, List.getElem_toArray, List.getElem_cons_zero, List.getElem_cons_succ, List.setIfInBounds_toArray, List.set_cons_zero, List.set_cons_succ]
    refine wpAnyL_one 2 (by kernel_rfl) rfl (fun K hK => ?_)
    go_simp
    (with_reducible refine HL.out.mono ?_)
    rintro e wm ⟨s, rfl, hs, hcm, hb, ho⟩
    have HXn := Lib.hid (HXd.out.trans hb)
    have hSm : wm.cell? ⟨sb, 0, none⟩ = some (.int .i64 l0) ∧ wm.cell? ⟨sb, 1, none⟩ = some (.int .i64 l1) ∧ wm.cell? ⟨sb, 2, none⟩ = some (.slice ya al yc) := ⟨((hcm).out.headBox.2.2 0 _ rfl).1, ((hcm).out.headBox.2.2 1 _ rfl).1, ((hcm).out.headBox.2.2 2 _ rfl).1⟩
    have Hsum := Lib.hid (show s.size ≤ 18 from by omega)
    clear hs hb ho HL HCd HXd
    have hRC := Cells.below' RC.out HXn.out z0
    have r0 := (hRC.2 0 _ rfl).1
    have r1 := (hRC.2 1 _ rfl).1
    have r2 := (hRC.2 2 _ rfl).1
    have f0 := (hRC.2 0 _ rfl).2
    have f1 := (hRC.2 1 _ rfl).2
    have f2 := (hRC.2 2 _ rfl).2
    obtain ⟨ws, ews⟩ : ∃ x, x = (((wm.setCell ⟨w.heap.size, 0, none⟩ (.int .i64 l0)).setCell ⟨w.heap.size, 1, none⟩ (.int .i64 l1)).setCell ⟨w.heap.size, 2, none⟩ (.slice ya al yc)) := ⟨_, rfl⟩
    have hRs : Cells ws (w.heap.size) [.int .i64 l0, .int .i64 l1, .slice ya al yc] := by rw [ews]; exact Cells.fill3 hRC _ _ _
    have hcs := Cur.fill3 hcm z0 (.int .i64 l0) (.int .i64 l1) (.slice ya al yc)
    change Cur _ (((wm.setCell ⟨w.heap.size, 0, none⟩ (.int .i64 l0)).setCell ⟨w.heap.size, 1, none⟩ (.int .i64 l1)).setCell ⟨w.heap.size, 2, none⟩ (.slice ya al yc)) _ _ _ _ at hcs
    rw [← ews] at hcs
    have hBs : Below w.heap.size w ws := by rw [ews]; exact (Below.fill3 (HA.out.trans (HXn.out.mono (Nat.le_of_lt z0))) (Nat.le_refl _) _ _ _)
    have Hews := Lib.hid ews
    clear ews
    have hSs : ws.cell? ⟨sb, 0, none⟩ = some (.int .i64 l0) ∧ ws.cell? ⟨sb, 1, none⟩ = some (.int .i64 l1) ∧ ws.cell? ⟨sb, 2, none⟩ = some (.slice ya al yc) := ⟨((hcs).out.headBox.2.2 0 _ rfl).1, ((hcs).out.headBox.2.2 1 _ rfl).1, ((hcs).out.headBox.2.2 2 _ rfl).1⟩
    go_wp2_with fail
    refine hK.out _ _ (fun _ => hSm) ?_
    clear hK K
    try simp only [Act.put, List.getElem_toArray, List.getElem_cons_zero, List.getElem_cons_succ, List.setIfInBounds_toArray, List.set_cons_zero, List.set_cons_succ]
    refine wpAnyL_one 3 (by kernel_rfl) rfl (fun K hK => ?_)
    go_simp
    rw [← Hews.out]
    refine hK.out _ _ (fun _ => hSs) ?_
    clear hK K
    try simp only [Act.put, List.getElem_toArray, List.getElem_cons_zero, List.getElem_cons_succ, List.setIfInBounds_toArray, List.set_cons_zero, List.set_cons_succ]
    refine wpAnyL_one 4 (by kernel_rfl) rfl (fun K hK => ?_)
    go_simp
    refine hK.out _ _ (fun h => absurd h (not_rem (by kernel_rfl))) ?_
    clear hK K
    try simp only [Act.put, List.getElem_toArray, List.getElem_cons_zero, List.getElem_cons_succ, List.setIfInBounds_toArray, List.set_cons_zero, List.set_cons_succ]
    refine wpAnyL_done (by kernel_rfl) ?_ _
    have S0 := (hRs.2 0 _ rfl).1
    have S1 := (hRs.2 1 _ rfl).1
    have S2 := (hRs.2 2 _ rfl).1
    have HG := Lib.hid (show New OLab w.heap.size ws (.agg #[.int .i64 l0, .int .i64 l1, .slice ya al yc]) (l0, l1, la) from New.mono (hcs.rest.out.headNew) (Nat.le_of_lt z0))
    have HBs := Lib.hid hBs
    clear hcs hBs
    go_wp2_with fail
    refine bodyPost_ret (v := .tuple #[.agg #[.int .i64 l0, .int .i64 l1, .slice ya al yc], .string (s)]) (by simp [results, Tryd.results25, go_sem, S0, S1, S2]) rfl ?_
    exact ⟨_, (l0, l1, la), _, rfl, HG.out, Hsum.out, HBs.out⟩
  | true =>
    have HO := Lib.hid (l1Once_i (z := 3) (fun w' hb' => HK.out w' (HX4.out.trans hb')) HC4.out hz4 (by omega) (by omega))
    go_wp2_with fail
    (with_reducible refine HO.out.mono ?_)
    rintro e w5 ⟨b, rfl, hc, hb, ho⟩
    have HC5 := Lib.hid hc
    have HX5 := Lib.hid (HX4.out.trans hb)
    have hz5 := Nat.le_trans hz4 hb.size
    clear hc hb ho HO HC4 HX4 hz4
    cases b with
    | false =>
      have hwd : Below w5.heap.size w5 w5.drew := (Below.refl _ _).drew
      have HCd := Lib.hid (HC5.out.below hwd)
      have HXd := Lib.hid (HX5.out.trans (hwd.mono hz5))
      have hzd : wA.heap.size ≤ w5.drew.heap.size := Nat.le_trans hz5 hwd.size
      have hSd : w5.drew.cell? ⟨sb, 0, none⟩ = some (.int .i64 l0) ∧ w5.drew.cell? ⟨sb, 1, none⟩ = some (.int .i64 l1) ∧ w5.drew.cell? ⟨sb, 2, none⟩ = some (.slice ya al yc) := ⟨((HCd.out).out.headBox.2.2 0 _ rfl).1, ((HCd.out).out.headBox.2.2 1 _ rfl).1, ((HCd.out).out.headBox.2.2 2 _ rfl).1⟩
      have HL := Lib.hid (show Calls Tryd.prog 52 #[.pointer (some ⟨cb, 0, none⟩), .int .i64 2, .int .i64 6] w5.drew _ from l2Draw_c (kk := 2) (most := 6) (fun w' hb' => HK.out w' (HXd.out.trans hb')) HCd.out hzd (by omega) (by omega) (by omega))
      clear hwd HC5 HX5
      go_wp2_with fail
      refine wp_region_L (fun w' => w'.cell? ⟨sb, 0, none⟩ = some (.int .i64 l0) ∧ w'.cell? ⟨sb, 1, none⟩ = some (.int .i64 l1) ∧ w'.cell? ⟨sb, 2, none⟩ = some (.slice ya al yc)) (by kernel_rfl) ?_
      refine wpAnyL_take 0 (v := ?_) rfl (by kernel_rfl) (by kernel_rfl) (by kernel_rfl) (by kernel_rfl) (fun _ _ _ h => h) (Or.inl ⟨by rfl, ?_⟩) hSd ?_
      rotate_left
      · (intro w hSw; (try dsimp only at hSw); go_simp) <;> (try with_reducible rfl)
      try simp only [Act.put, List.getElem_toArray, List.getElem_cons_zero, List.getElem_cons_succ, List.setIfInBounds_toArray, List.set_cons_zero, List.set_cons_succ]
      refine wpAnyL_take 1 (v := ?_) rfl (by kernel_rfl) (by kernel_rfl) (by kernel_rfl) (by kernel_rfl) (fun _ _ _ h => h) (Or.inl ⟨by rfl, ?_⟩) hSd ?_
      rotate_left
      · (intro w hSw; (try dsimp only at hSw); go_simp) <;> (try with_reducible rfl)
      try simp only [Act.put, List.getElem_toArray, List.getElem_cons_zero, List.getElem_cons_succ, List.setIfInBounds_toArray, List.set_cons_zero, List.set_cons_succ]
      refine wpAnyL_one 2 (by kernel_rfl) rfl (fun K hK => ?_)
      go_simp
      (with_reducible refine HL.out.mono ?_)
      rintro e wm ⟨s, rfl, hs, hcm, hb, ho⟩
      have HXn := Lib.hid (HXd.out.trans hb)
      have hSm : wm.cell? ⟨sb, 0, none⟩ = some (.int .i64 l0) ∧ wm.cell? ⟨sb, 1, none⟩ = some (.int .i64 l1) ∧ wm.cell? ⟨sb, 2, none⟩ = some (.slice ya al yc) := ⟨((hcm).out.headBox.2.2 0 _ rfl).1, ((hcm).out.headBox.2.2 1 _ rfl).1, ((hcm).out.headBox.2.2 2 _ rfl).1⟩
      have Hsum := Lib.hid (show s.size ≤ 18 from by omega)
      clear hs hb ho HL HCd HXd
      have hRC := Cells.below' RC.out HXn.out z0
      have r0 := (hRC.2 0 _ rfl).1
      have r1 := (hRC.2 1 _ rfl).1
      have r2 := (hRC.2 2 _ rfl).1
      have f0 := (hRC.2 0 _ rfl).2
      have f1 := (hRC.2 1 _ rfl).2
      have f2 := (hRC.2 2 _ rfl).2
      obtain ⟨ws, ews⟩ : ∃ x, x = (((wm.setCell ⟨w.heap.size, 0, none⟩ (.int .i64 l0)).setCell ⟨w.heap.size, 1, none⟩ (.int .i64 l1)).setCell ⟨w.heap.size, 2, none⟩ (.slice ya al yc)) := ⟨_, rfl⟩
      have hRs : Cells ws (w.heap.size) [.int .i64 l0, .int .i64 l1, .slice ya al yc] := by rw [ews]; exact Cells.fill3 hRC _ _ _
      have hcs := Cur.fill3 hcm z0 (.int .i64 l0) (.int .i64 l1) (.slice ya al yc)
      change Cur _ (((wm.setCell ⟨w.heap.size, 0, none⟩ (.int .i64 l0)).setCell ⟨w.heap.size, 1, none⟩ (.int .i64 l1)).setCell ⟨w.heap.size, 2, none⟩ (.slice ya al yc)) _ _ _ _ at hcs
      rw [← ews] at hcs
      have hBs : Below w.heap.size w ws := by rw [ews]; exact (Below.fill3 (HA.out.trans (HXn.out.mono (Nat.le_of_lt z0))) (Nat.le_refl _) _ _ _)
      have Hews := Lib.hid ews
      clear ews
      have hSs : ws.cell? ⟨sb, 0, none⟩ = some (.int .i64 l0) ∧ ws.cell? ⟨sb, 1, none⟩ = some (.int .i64 l1) ∧ ws.cell? ⟨sb, 2, none⟩ = some (.slice ya al yc) := ⟨((hcs).out.headBox.2.2 0 _ rfl).1, ((hcs).out.headBox.2.2 1 _ rfl).1, ((hcs).out.headBox.2.2 2 _ rfl).1⟩
      go_wp2_with fail
      refine hK.out _ _ (fun _ => hSm) ?_
      clear hK K
      try simp only [Act.put, List.getElem_toArray, List.getElem_cons_zero, List.getElem_cons_succ, List.setIfInBounds_toArray, List.set_cons_zero, List.set_cons_succ]
      refine wpAnyL_one 3 (by kernel_rfl) rfl (fun K hK => ?_)
      go_simp
      rw [← Hews.out]
      refine hK.out _ _ (fun _ => hSs) ?_
      clear hK K
      try simp only [Act.put, List.getElem_toArray, List.getElem_cons_zero, List.getElem_cons_succ, List.setIfInBounds_toArray, List.set_cons_zero, List.set_cons_succ]
      refine wpAnyL_one 4 (by kernel_rfl) rfl (fun K hK => ?_)
      go_simp
      refine hK.out _ _ (fun h => absurd h (not_rem (by kernel_rfl))) ?_
      clear hK K
      try simp only [Act.put, List.getElem_toArray, List.getElem_cons_zero, List.getElem_cons_succ, List.setIfInBounds_toArray, List.set_cons_zero, List.set_cons_succ]
      refine wpAnyL_done (by kernel_rfl) ?_ _
      have S0 := (hRs.2 0 _ rfl).1
      have S1 := (hRs.2 1 _ rfl).1
      have S2 := (hRs.2 2 _ rfl).1
      have HG := Lib.hid (show New OLab w.heap.size ws (.agg #[.int .i64 l0, .int .i64 l1, .slice ya al yc]) (l0, l1, la) from New.mono (hcs.rest.out.headNew) (Nat.le_of_lt z0))
      have HBs := Lib.hid hBs
      clear hcs hBs
      go_wp2_with fail
      refine bodyPost_ret (v := .tuple #[.agg #[.int .i64 l0, .int .i64 l1, .slice ya al yc], .string (s)]) (by simp [results, Tryd.results25, go_sem, S0, S1, S2]) rfl ?_
      exact ⟨_, (l0, l1, la), _, rfl, HG.out, Hsum.out, HBs.out⟩
    | true =>
      have hwd : Below w5.heap.size w5 w5.drew := (Below.refl _ _).drew
      have HCd := Lib.hid (HC5.out.below hwd)
      have HXd := Lib.hid (HX5.out.trans (hwd.mono hz5))
      have hzd : wA.heap.size ≤ w5.drew.heap.size := Nat.le_trans hz5 hwd.size
      have hSd : w5.drew.cell? ⟨sb, 0, none⟩ = some (.int .i64 l0) ∧ w5.drew.cell? ⟨sb, 1, none⟩ = some (.int .i64 l1) ∧ w5.drew.cell? ⟨sb, 2, none⟩ = some (.slice ya al yc) := ⟨((HCd.out).out.headBox.2.2 0 _ rfl).1, ((HCd.out).out.headBox.2.2 1 _ rfl).1, ((HCd.out).out.headBox.2.2 2 _ rfl).1⟩
      have HL := Lib.hid (show Calls Tryd.prog 52 #[.pointer (some ⟨cb, 0, none⟩), .int .i64 2, .int .i64 2] w5.drew _ from l2Draw_c (kk := 2) (most := 2) (fun w' hb' => HK.out w' (HXd.out.trans hb')) HCd.out hzd (by omega) (by omega) (by omega))
      clear hwd HC5 HX5
      go_wp2_with fail
      refine wp_region_L (fun w' => w'.cell? ⟨sb, 0, none⟩ = some (.int .i64 l0) ∧ w'.cell? ⟨sb, 1, none⟩ = some (.int .i64 l1) ∧ w'.cell? ⟨sb, 2, none⟩ = some (.slice ya al yc)) (by kernel_rfl) ?_
      refine wpAnyL_take 0 (v := ?_) rfl (by kernel_rfl) (by kernel_rfl) (by kernel_rfl) (by kernel_rfl) (fun _ _ _ h => h) (Or.inl ⟨by rfl, ?_⟩) hSd ?_
      rotate_left
      · (intro w hSw; (try dsimp only at hSw); go_simp) <;> (try with_reducible rfl)
      try simp only [Act.put, List.getElem_toArray, List.getElem_cons_zero, List.getElem_cons_succ, List.setIfInBounds_toArray, List.set_cons_zero, List.set_cons_succ]
      refine wpAnyL_take 1 (v := ?_) rfl (by kernel_rfl) (by kernel_rfl) (by kernel_rfl) (by kernel_rfl) (fun _ _ _ h => h) (Or.inl ⟨by rfl, ?_⟩) hSd ?_
      rotate_left
      · (intro w hSw; (try dsimp only at hSw); go_simp) <;> (try with_reducible rfl)
      try simp only [Act.put, List.getElem_toArray, List.getElem_cons_zero, List.getElem_cons_succ, List.setIfInBounds_toArray, List.set_cons_zero, List.set_cons_succ]
      refine wpAnyL_take 2 (v := ?_) rfl (by kernel_rfl) (by kernel_rfl) (by kernel_rfl) (by kernel_rfl) (fun _ _ _ h => h) (Or.inl ⟨by rfl, ?_⟩) hSd ?_
      rotate_left
      · (intro w hSw; (try dsimp only at hSw); go_simp) <;> (try with_reducible rfl)
      try simp only [Act.put, List.getElem_toArray, List.getElem_cons_zero, List.getElem_cons_succ, List.setIfInBounds_toArray, List.set_cons_zero, List.set_cons_succ]
      refine wpAnyL_one 3 (by kernel_rfl) rfl (fun K hK => ?_)
      go_simp
      (with_reducible refine HL.out.mono ?_)
      rintro e wm ⟨s, rfl, hs, hcm, hb, ho⟩
      have HXn := Lib.hid (HXd.out.trans hb)
      have hSm : wm.cell? ⟨sb, 0, none⟩ = some (.int .i64 l0) ∧ wm.cell? ⟨sb, 1, none⟩ = some (.int .i64 l1) ∧ wm.cell? ⟨sb, 2, none⟩ = some (.slice ya al yc) := ⟨((hcm).out.headBox.2.2 0 _ rfl).1, ((hcm).out.headBox.2.2 1 _ rfl).1, ((hcm).out.headBox.2.2 2 _ rfl).1⟩
      have hsum : ¬ (9223372036854775807 < t.size + s.size) := by omega
      have Hsum := Lib.hid (show (t ++ s).size ≤ 18 from by rw [ByteArray.size_append]; omega)
      clear hs hb ho HL HCd HXd
      have hRC := Cells.below' RC.out HXn.out z0
      have r0 := (hRC.2 0 _ rfl).1
      have r1 := (hRC.2 1 _ rfl).1
      have r2 := (hRC.2 2 _ rfl).1
      have f0 := (hRC.2 0 _ rfl).2
      have f1 := (hRC.2 1 _ rfl).2
      have f2 := (hRC.2 2 _ rfl).2
      obtain ⟨ws, ews⟩ : ∃ x, x = (((wm.setCell ⟨w.heap.size, 0, none⟩ (.int .i64 l0)).setCell ⟨w.heap.size, 1, none⟩ (.int .i64 l1)).setCell ⟨w.heap.size, 2, none⟩ (.slice ya al yc)) := ⟨_, rfl⟩
      have hRs : Cells ws (w.heap.size) [.int .i64 l0, .int .i64 l1, .slice ya al yc] := by rw [ews]; exact Cells.fill3 hRC _ _ _
      have hcs := Cur.fill3 hcm z0 (.int .i64 l0) (.int .i64 l1) (.slice ya al yc)
      change Cur _ (((wm.setCell ⟨w.heap.size, 0, none⟩ (.int .i64 l0)).setCell ⟨w.heap.size, 1, none⟩ (.int .i64 l1)).setCell ⟨w.heap.size, 2, none⟩ (.slice ya al yc)) _ _ _ _ at hcs
      rw [← ews] at hcs
      have hBs : Below w.heap.size w ws := by rw [ews]; exact (Below.fill3 (HA.out.trans (HXn.out.mono (Nat.le_of_lt z0))) (Nat.le_refl _) _ _ _)
      have Hews := Lib.hid ews
      clear ews
      have hSs : ws.cell? ⟨sb, 0, none⟩ = some (.int .i64 l0) ∧ ws.cell? ⟨sb, 1, none⟩ = some (.int .i64 l1) ∧ ws.cell? ⟨sb, 2, none⟩ = some (.slice ya al yc) := ⟨((hcs).out.headBox.2.2 0 _ rfl).1, ((hcs).out.headBox.2.2 1 _ rfl).1, ((hcs).out.headBox.2.2 2 _ rfl).1⟩
      go_wp2_with fail
      refine hK.out _ _ (fun _ => hSm) ?_
      clear hK K
      try simp only [Act.put, List.getElem_toArray, List.getElem_cons_zero, List.getElem_cons_succ, List.setIfInBounds_toArray, List.set_cons_zero, List.set_cons_succ]
      refine wpAnyL_take 4 (v := ?_) rfl (by kernel_rfl) (by kernel_rfl) (by kernel_rfl) (by kernel_rfl) (fun _ _ _ h => h) (Or.inl ⟨by rfl, ?_⟩) hSm ?_
      rotate_left
      · (intro w hSw; (try dsimp only at hSw); go_simp) <;> (try with_reducible rfl)
      try simp only [Act.put, List.getElem_toArray, List.getElem_cons_zero, List.getElem_cons_succ, List.setIfInBounds_toArray, List.set_cons_zero, List.set_cons_succ]
      refine wpAnyL_one 5 (by kernel_rfl) rfl (fun K hK => ?_)
      go_simp
      rw [← Hews.out]
      refine hK.out _ _ (fun _ => hSs) ?_
      clear hK K
      try simp only [Act.put, List.getElem_toArray, List.getElem_cons_zero, List.getElem_cons_succ, List.setIfInBounds_toArray, List.set_cons_zero, List.set_cons_succ]
      refine wpAnyL_one 6 (by kernel_rfl) rfl (fun K hK => ?_)
      go_simp
      refine hK.out _ _ (fun h => absurd h (not_rem (by kernel_rfl))) ?_
      clear hK K
      try simp only [Act.put, List.getElem_toArray, List.getElem_cons_zero, List.getElem_cons_succ, List.setIfInBounds_toArray, List.set_cons_zero, List.set_cons_succ]
      refine wpAnyL_done (by kernel_rfl) ?_ _
      have S0 := (hRs.2 0 _ rfl).1
      have S1 := (hRs.2 1 _ rfl).1
      have S2 := (hRs.2 2 _ rfl).1
      have HG := Lib.hid (show New OLab w.heap.size ws (.agg #[.int .i64 l0, .int .i64 l1, .slice ya al yc]) (l0, l1, la) from New.mono (hcs.rest.out.headNew) (Nat.le_of_lt z0))
      have HBs := Lib.hid hBs
      clear hcs hBs
      go_wp2_with fail
      refine bodyPost_ret (v := .tuple #[.agg #[.int .i64 l0, .int .i64 l1, .slice ya al yc], .string (t ++ s)]) (by simp [results, Tryd.results25, go_sem, S0, S1, S2]) rfl ?_
      exact ⟨_, (l0, l1, la), _, rfl, HG.out, Hsum.out, HBs.out⟩
set_option maxHeartbeats 4000000 in
set_option maxRecDepth 100000 in
theorem DrawIsSynchronizing_c {w : World} {vc : Value} {xs : List Int} (h : BytR w vc xs) :
    Calls Tryd.prog 5 #[vc] w fun e w' => ∃ (v : Value) (l : Lb) (s : ByteArray), e = .returned (.tuple #[v, .string s]) ∧ New OLab w.heap.size w' v l ∧ s.size ≤ 18 ∧ Below w.heap.size w w' := by
  obtain ⟨wA, eA, hA⟩ : ∃ x, x = w.alloc (.cells #[.int .i64 0, .int .i64 0, .slice none 0 0] 26) ∧ Below w.heap.size w x := ⟨_, rfl, (Below.refl _ _).alloc (Nat.le_refl _) _⟩
  have hA' : BytR wA vc xs := BytR.frame _ _ _ _ h hA
  have HN := Lib.hid (l16Case_c hA')
  obtain ⟨a, c, rfl, -⟩ := h.cellsB
  have z0 : w.heap.size < wA.heap.size := by rw [eA]; simp
  have RC := Lib.hid (show Cells wA w.heap.size [.int .i64 0, .int .i64 0, .slice none 0 0] from by
    refine ⟨z0, fun j u hj => ?_⟩
    rcases j with _ | _ | _ | j <;> first | (simp at hj; done) | (simp at hj; subst hj; rw [eA]; simp [go_sem]))
  have HA := Lib.hid hA
  have eAs := eA.symm
  clear h hA hA' eA
  go_enter Tryd.func5, Tryd.ntmps5
  go_wp2_with fail
  (with_reducible refine HN.out.mono ?_)
  rintro e w2 ⟨v, l, s, rfl, hn, hs, hb⟩
  have hz2 := hb.size
  obtain ⟨ya, yc, rfl⟩ : ∃ a c, v = .agg #[.int .i64 l.1, .int .i64 l.2.1, .slice a l.2.2.length c] := by obtain ⟨F, hF, -⟩ := hn; exact OLab.slice hF
  obtain ⟨l0, l1, la⟩ := l
  obtain ⟨al, hal⟩ : ∃ n, n = la.length := ⟨_, rfl⟩
  simp only [← hal] at hn ⊢
  obtain ⟨w3, e3, hb3, c0, c1, c2, -⟩ := boxA3_ex w2 26 (.int .i64 l0) (.int .i64 l1) (.slice ya al yc)
  have HX3 := Lib.hid (hb.trans (hb3.mono hz2))
  have HG3 := Lib.hid (show New OLab wA.heap.size w3 (.agg #[.int .i64 l0, .int .i64 l1, .slice ya al yc]) (l0, l1, la) from by
    obtain ⟨F, hF, hf⟩ := hn
    exact ⟨F, OLab.held.keep _ w3 _ _ _ hF (fun b hb' => hb3.block b (OLab.held.lt _ _ _ _ hF b hb')), hf⟩)
  have Hs := Lib.hid hs
  have hRC := Cells.below' RC.out HX3.out z0
  have r0 := (hRC.2 0 _ rfl).1
  have r1 := (hRC.2 1 _ rfl).1
  have r2 := (hRC.2 2 _ rfl).1
  have f0 := (hRC.2 0 _ rfl).2
  have f1 := (hRC.2 1 _ rfl).2
  have f2 := (hRC.2 2 _ rfl).2
  have HRs := Lib.hid (Cells.fill3 hRC (.int .i64 l0) (.int .i64 l1) (.slice ya al yc))
  clear hal hn hs hb hb3 hRC HN eAs RC
  go_wp2_with fail
  have S0 := (HRs.out.2 0 _ rfl).1
  have S1 := (HRs.out.2 1 _ rfl).1
  have S2 := (HRs.out.2 2 _ rfl).1
  refine bodyPost_ret (v := .tuple #[.agg #[.int .i64 l0, .int .i64 l1, .slice ya al yc], .string s]) (by simp [results, Tryd.results5, go_sem, S0, S1, S2]) rfl ?_
  exact ⟨_, (l0, l1, la), s, rfl, (New.storeLow OLab.held (New.storeLow OLab.held (New.storeLow OLab.held HG3.out (p := ⟨w.heap.size, 0, none⟩) z0 (.int .i64 l0)) (p := ⟨w.heap.size, 1, none⟩) z0 (.int .i64 l1)) (p := ⟨w.heap.size, 2, none⟩) z0 (.slice ya al yc)).mono (Nat.le_of_lt z0), Hs.out, Below.fill3 (HA.out.trans (HX3.out.mono (Nat.le_of_lt z0))) (Nat.le_refl _) _ _ _⟩
set_option maxHeartbeats 4000000 in
set_option maxRecDepth 100000 in
theorem DrawWordRank_c {w : World} {vc : Value} {xs : List Int} (h : BytR w vc xs) :
    Calls Tryd.prog 10 #[vc] w fun e w' => ∃ (v : Value) (l : Lb) (s : ByteArray), e = .returned (.tuple #[v, .string s]) ∧ New OLab w.heap.size w' v l ∧ s.size ≤ 18 ∧ Below w.heap.size w w' := by
  obtain ⟨wA, eA, hA⟩ : ∃ x, x = w.alloc (.cells #[.int .i64 0, .int .i64 0, .slice none 0 0] 26) ∧ Below w.heap.size w x := ⟨_, rfl, (Below.refl _ _).alloc (Nat.le_refl _) _⟩
  have hA' : BytR wA vc xs := BytR.frame _ _ _ _ h hA
  have HN := Lib.hid (l16Case_c hA')
  obtain ⟨a, c, rfl, -⟩ := h.cellsB
  have z0 : w.heap.size < wA.heap.size := by rw [eA]; simp
  have RC := Lib.hid (show Cells wA w.heap.size [.int .i64 0, .int .i64 0, .slice none 0 0] from by
    refine ⟨z0, fun j u hj => ?_⟩
    rcases j with _ | _ | _ | j <;> first | (simp at hj; done) | (simp at hj; subst hj; rw [eA]; simp [go_sem]))
  have HA := Lib.hid hA
  have eAs := eA.symm
  clear h hA hA' eA
  go_enter Tryd.func10, Tryd.ntmps10
  go_wp2_with fail
  (with_reducible refine HN.out.mono ?_)
  rintro e w2 ⟨v, l, s, rfl, hn, hs, hb⟩
  have hz2 := hb.size
  obtain ⟨ya, yc, rfl⟩ : ∃ a c, v = .agg #[.int .i64 l.1, .int .i64 l.2.1, .slice a l.2.2.length c] := by obtain ⟨F, hF, -⟩ := hn; exact OLab.slice hF
  obtain ⟨l0, l1, la⟩ := l
  obtain ⟨al, hal⟩ : ∃ n, n = la.length := ⟨_, rfl⟩
  simp only [← hal] at hn ⊢
  obtain ⟨w3, e3, hb3, c0, c1, c2, -⟩ := boxA3_ex w2 26 (.int .i64 l0) (.int .i64 l1) (.slice ya al yc)
  have HX3 := Lib.hid (hb.trans (hb3.mono hz2))
  have HG3 := Lib.hid (show New OLab wA.heap.size w3 (.agg #[.int .i64 l0, .int .i64 l1, .slice ya al yc]) (l0, l1, la) from by
    obtain ⟨F, hF, hf⟩ := hn
    exact ⟨F, OLab.held.keep _ w3 _ _ _ hF (fun b hb' => hb3.block b (OLab.held.lt _ _ _ _ hF b hb')), hf⟩)
  have Hs := Lib.hid hs
  have hRC := Cells.below' RC.out HX3.out z0
  have r0 := (hRC.2 0 _ rfl).1
  have r1 := (hRC.2 1 _ rfl).1
  have r2 := (hRC.2 2 _ rfl).1
  have f0 := (hRC.2 0 _ rfl).2
  have f1 := (hRC.2 1 _ rfl).2
  have f2 := (hRC.2 2 _ rfl).2
  have HRs := Lib.hid (Cells.fill3 hRC (.int .i64 l0) (.int .i64 l1) (.slice ya al yc))
  clear hal hn hs hb hb3 hRC HN eAs RC
  go_wp2_with fail
  have S0 := (HRs.out.2 0 _ rfl).1
  have S1 := (HRs.out.2 1 _ rfl).1
  have S2 := (HRs.out.2 2 _ rfl).1
  refine bodyPost_ret (v := .tuple #[.agg #[.int .i64 l0, .int .i64 l1, .slice ya al yc], .string s]) (by simp [results, Tryd.results10, go_sem, S0, S1, S2]) rfl ?_
  exact ⟨_, (l0, l1, la), s, rfl, (New.storeLow OLab.held (New.storeLow OLab.held (New.storeLow OLab.held HG3.out (p := ⟨w.heap.size, 0, none⟩) z0 (.int .i64 l0)) (p := ⟨w.heap.size, 1, none⟩) z0 (.int .i64 l1)) (p := ⟨w.heap.size, 2, none⟩) z0 (.slice ya al yc)).mono (Nat.le_of_lt z0), Hs.out, Below.fill3 (HA.out.trans (HX3.out.mono (Nat.le_of_lt z0))) (Nat.le_refl _) _ _ _⟩
end Go.Proofs.YtcilgihmaaobeaaDoor
end

section
namespace Go.Proofs.YtcilgihmaaobeaaDoor
open Go.RowKit Go.Deep Go.Sd
set_option linter.unusedSimpArgs false
set_option maxHeartbeats 4000000 in
set_option maxRecDepth 100000 in
theorem impl_ShortestSync_c {w : World} {v : Value} {l : Lb} (h : LabR w v l) :
    Calls Tryd.prog 7 #[v] w fun e w' => e = .returned (.tuple #[.string (txt (shortM l)), .bool (shortM l).isSome]) ∧ Below w.heap.size w w' := by
  have H1 := Lib.hid (fun w1 (hb : Below w.heap.size w w1) => impl_IsResolving_c (LabR.frame _ _ _ _ h hb))
  have Hfr := Lib.hid (fun w1 (hb : Below w.heap.size w w1) => LabR.frame _ _ _ _ h hb)
  obtain ⟨T, hT⟩ : ∃ T, T = shortM l := ⟨_, rfl⟩
  rw [← hT]
  have HT := Lib.hid hT
  clear hT
  have Hok := Lib.hid (fun h => resolv_facts (l := l) h)
  have HF0 := Lib.hid (fun (h : resolvM l = false) => (show shortM l = none from by unfold shortM; rw [h]; rfl))
  generalize hil : resolvM l = il at H1
  have Hil := Lib.hid hil
  clear hil
  obtain ⟨L, S, xs⟩ := l
  obtain ⟨_, rfl, -, a, c, rfl, -, -, -, -⟩ := h
  simp only at *
  generalize hn : xs.length = n at *
  clear hn
  obtain ⟨w1, ex, hb1, c0, c1, c2, m1⟩ := boxA3_ex w 26 (.int .i64 L) (.int .i64 S) (.slice a n c)
  have A1 := Lib.hid hb1
  clear hb1
  go_enter Tryd.func7, Tryd.ntmps7
  go_wp2_with fail
  refine (H1.out _ A1.out).mono ?_
  rintro e w2 ⟨rfl, hb1⟩
  replace c0 := (hb1.cell (p := ⟨w.heap.size, 0, none⟩) m1).trans c0
  replace c1 := (hb1.cell (p := ⟨w.heap.size, 1, none⟩) m1).trans c1
  replace c2 := (hb1.cell (p := ⟨w.heap.size, 2, none⟩) m1).trans c2
  have m2 : w.heap.size < w2.heap.size := Nat.lt_of_lt_of_le m1 hb1.size
  replace A1 := Lib.hid (A1.out.trans (hb1.mono A1.out.size))
  clear hb1 ex H1 m1
  cases il with
  | false =>
    have HF := Lib.hid (show T = none from by rw [HT.out]; exact HF0.out Hil.out)
    clear HT HF0 Hil Hok Hfr
    go_wp2
    go_ret2
    exact ⟨by rw [HF.out]; rfl, A1.out⟩
  | true =>
  have Hil2 := Lib.hid (Hok.out Hil.out)
  clear Hok HF0
  obtain ⟨ho, hS1, hS2, hL1, hL2⟩ := Hil2.out
  have HT2 := Lib.hid (show reachE xs L.toNat 16 cbShort 4096 [(allN S, [])] 0 none = T from by
    rw [HT.out]
    unfold shortM
    rw [Hil.out, if_pos rfl])
  have hlo : w.heap.size ≤ w2.heap.size := by omega
  have hs0 := (Sep.nil w2.heap.size w2).boxNew (Nat.le_refl _) [.string ⟨#[]⟩] 9
  have hs1 := hs0.boxNew (by simp) [.bool false] 4
  obtain ⟨w3, e3⟩ : ∃ x, x = (w2.alloc (.cells #[.string ⟨#[]⟩] 9)).alloc (.cells #[.bool false] 4) := ⟨_, rfl⟩
  have hz : (w2.alloc (.cells [.string ⟨#[]⟩].toArray 9)).heap.size = w2.heap.size + 1 := by simp
  rw [hz] at hs1
  have hs3 : Sep w2.heap.size w3 [Res.box w2.heap.size [.string ⟨#[]⟩], Res.box (w2.heap.size + 1) [.bool false]] := by rw [e3]; exact hs1.swap
  have B3 : Below w2.heap.size w2 w3 := by rw [e3]; exact ((Below.refl _ _).alloc (Nat.le_refl _) _).alloc (by simp) _
  have A3 := Lib.hid (A1.out.trans (B3.mono hlo))
  have hz3 := B3.size
  have hs5 : Sep w2.heap.size ((w3.setCell ⟨w2.heap.size, 0, none⟩ (.string ⟨#[]⟩)).setCell ⟨w2.heap.size + 1, 0, none⟩ (.bool false)) [Res.box w2.heap.size [.string ⟨#[]⟩], Res.box (w2.heap.size + 1) [.bool false]] :=
    (((hs3.boxStore hz3 (j := 0) (u0 := .string ⟨#[]⟩) rfl (.string ⟨#[]⟩)).swap).boxStore (by simp; exact hz3) (j := 0) (u0 := .bool false) rfl (.bool false)).swap
  have A5 := Lib.hid (show Below w.heap.size w ((w3.setCell ⟨w2.heap.size, 0, none⟩ (.string ⟨#[]⟩)).setCell ⟨w2.heap.size + 1, 0, none⟩ (.bool false)) from (A3.out.setCell (p := ⟨w2.heap.size, 0, none⟩) hlo _).setCell (p := ⟨w2.heap.size + 1, 0, none⟩) (by simp; omega) _)
  have HR := Lib.hid (reachShort_c (w := ((w3.setCell ⟨w2.heap.size, 0, none⟩ (.string ⟨#[]⟩)).setCell ⟨w2.heap.size + 1, 0, none⟩ (.bool false))) (lo := w2.heap.size) (c := w2.heap.size) (fun w1 hb => Hfr.out w1 (A5.out.trans (hb.mono hlo))) ho hS1 hS2 hL1 hL2 hs5 (by simp; exact hz3))
  obtain ⟨-, hcx⟩ := hs3.headBox
  obtain ⟨x0, x0f⟩ := hcx.2 0 _ rfl
  obtain ⟨-, hcy⟩ := hs3.tail.headBox
  obtain ⟨x1, x1f⟩ := hcy.2 0 _ rfl
  have y0 := hcx.1
  have y1 := hcy.1
  simp only at HR
  rw [HT2.out] at HR
  replace c0 := (B3.cell (p := ⟨w.heap.size, 0, none⟩) m2).trans c0
  replace c1 := (B3.cell (p := ⟨w.heap.size, 1, none⟩) m2).trans c1
  replace c2 := (B3.cell (p := ⟨w.heap.size, 2, none⟩) m2).trans c2
  have e3s := e3.symm
  have hmf : ∀ (fn : Fn) (first cap : Array Value) (w : World), (Instr.makeFunc fn first cap).run Tryd.prog w = .ok (.func fn first cap) w := fun _ _ _ _ => rfl
  clear HT Hil Hil2 ho hS1 hS2 hL1 hL2 Hfr HT2 hs0 hs1 hs3 B3 e3 A1 hz hs5 hcx hcy
  go_wp2_with fail
  refine HR.out.mono ?_
  rintro e w4 ⟨rfl, hs4, hb4⟩
  have A4 := Lib.hid (A5.out.trans (hb4.mono hlo))
  have HG : w4.cell? ⟨w2.heap.size, 0, none⟩ = some (.string (txt T)) ∧ w4.cell? ⟨w2.heap.size + 1, 0, none⟩ = some (.bool T.isSome) := by
    cases T with
    | none => exact ⟨((hs4.headBox).2.2 0 _ rfl).1, ((hs4.tail.headBox).2.2 0 _ rfl).1⟩
    | some wd => exact ⟨((hs4.headBox).2.2 0 _ rfl).1, ((hs4.tail.headBox).2.2 0 _ rfl).1⟩
  obtain ⟨g0, g1⟩ := HG
  clear hs4 hb4 HR c0 c1 c2 e3s hmf
  generalize h1 : txt T = tt at g0
  generalize h2 : T.isSome = tb at g1
  have H1 := Lib.hid h1
  have H2 := Lib.hid h2
  clear h1 h2
  go_wp2
  go_quiet (fail)
  go_wp2
  go_ret2
  exact ⟨by simp; exact ⟨H1.out.symm, H2.out.symm⟩, below_drewN A4.out _⟩
end Go.Proofs.YtcilgihmaaobeaaDoor
end

section
namespace Go.Proofs.YtcilgihmaaobeaaDoor
open Go.RowKit Go.Deep Go.Sd
set_option linter.unusedSimpArgs false
set_option maxHeartbeats 2000000 in
set_option maxRecDepth 100000 in
theorem leastclo_c {w : World} {lo c : Nat} {rest : List Res} {m : Int} (hs : Sep lo w (Res.box c [.int .i64 m] :: rest)) (hlo : lo ≤ w.heap.size) {s : Nat} (hs4 : s < 4096) (vw : Value) :
    Calls Tryd.prog 46 #[.int .i64 s, vw, .pointer (some ⟨c, 0, none⟩)] w fun e w' => e = .returned (.bool false) ∧ Sep lo w' (Res.box c [.int .i64 (minF popI m s)] :: rest) ∧ Below lo w w' ∧ ∀ p : Addr, p.block ≠ c → w'.cell? p = w.cell? p := by
  have C1 := Lib.hid (fun w => show Calls Tryd.prog 31 #[.int .u64 s] w fun e w' => e = .returned (.int .i64 (popI s)) ∧ w = w' from OnesCount_c s hs4 w)
  obtain ⟨hlc, hcs⟩ := hs.headBox
  obtain ⟨hc0, hf0⟩ := hcs.2 0 (.int .i64 m) rfl
  have HS := Lib.hid (fun y => hs.boxStore hlo (j := 0) (u0 := .int .i64 m) rfl (.int .i64 y))
  have HB := Lib.hid (fun y => (Below.refl lo w).setCell (p := ⟨c, 0, none⟩) hlc (.int .i64 y))
  have hM := Lib.hid (show minF popI m s = if popI s < m then popI s else m from rfl)
  rw [hM.out]
  generalize popI s = y at C1
  have hur : IntKind.u64.wrap (s : Int) = (s : Int) := IntWalk.u64_in _ (by omega)
  clear hM hcs hs hlo hs4 hlc
  by_cases hym : y < m
  · rw [if_pos hym]
    go_enter Tryd.func46, Tryd.ntmps46
    go_wp2
    go_region_with ((go_at_call 31; refine (C1.out _).mono ?_; rintro e w' ⟨rfl, rfl⟩))
    all_goals (
      go_wp2
      go_ret
      exact ⟨rfl, (HS.out y).below ((Below.refl _ _).drew) (Nat.le_refl _), (HB.out y).drew, fun p hp => World.cell?_setCell_other _ _ _ _ (fun e2 => hp (by rw [← e2]))⟩)
  · rw [if_neg hym]
    go_enter Tryd.func46, Tryd.ntmps46
    go_wp2
    go_region_with ((go_at_call 31; refine (C1.out _).mono ?_; rintro e w' ⟨rfl, rfl⟩))
    all_goals (
      go_wp2
      go_ret
      exact ⟨rfl, (HS.out m).below ((Below.refl _ _).drew) (Nat.le_refl _), (HB.out m).drew, fun p hp => World.cell?_setCell_other _ _ _ _ (fun e2 => hp (by rw [← e2]))⟩)
end Go.Proofs.YtcilgihmaaobeaaDoor
end

section
namespace Go.Proofs.YtcilgihmaaobeaaDoor
open Go.RowKit Go.Deep Go.Sd Go.Maps
set_option linter.unusedSimpArgs false
set_option maxHeartbeats 4000000 in
set_option maxRecDepth 100000 in
theorem reachLeast_c {w : World} {v : Value} {l : Lb} {lo c : Nat} {m : Int} (hfr : ∀ w1, Below lo w w1 → LabR w1 v l) (ho : okArcs l.2.1 l.2.2) (hS1 : 1 ≤ l.2.1) (hS2 : l.2.1 ≤ 12) (hL1 : 1 ≤ l.1) (hL2 : l.1 ≤ 3) (hs : Sep lo w [Res.box c [.int .i64 m]]) (hlo : lo ≤ w.heap.size) :
    Calls Tryd.prog 29 #[v, .int .i64 4096, .func (.func 46) #[] #[.pointer (some ⟨c, 0, none⟩)]] w fun e w' => e = .returned (.tuple #[]) ∧ Sep lo w' [Res.box c [.int .i64 (reachE l.2.2 l.1.toNat 4096 (cbMin popI) 4096 [(allN l.2.1, [])] 0 m)]] ∧ Below lo w w' := by
  have Hfr := Lib.hid hfr
  have hlab := hfr w (Below.refl _ _)
  clear hfr
  obtain ⟨L, S, xs⟩ := l
  obtain ⟨_, rfl, -, a, ac, rfl, -, -, -, -⟩ := hlab
  simp only at *
  generalize hn : xs.length = n at *
  clear hn
  obtain ⟨N, rfl⟩ := Int.eq_ofNat_of_zero_le (show 0 ≤ L by omega)
  obtain ⟨q, rfl⟩ := Int.eq_ofNat_of_zero_le (show 0 ≤ S by omega)
  rw [show (N : Int).toNat = N from rfl]
  have hAok := all_ok hS1 hS2
  have hA4 := allN_lt hS2
  have HAl := Lib.hid (fun w1 (hb : Below lo w w1) => impl_all_c (Hfr.out w1 hb) hS1 hS2)
  have HSt := Lib.hid (fun w' (hb : Below lo w w') q (hq : q < 4096) x => impl_step_c (Hfr.out w' hb) ho hS2 hq x)
  have Hlt := Lib.hid (fun q x => stepN_lt ho hS2 q x)
  simp only at HAl HSt Hlt
  generalize allN (q : Int) = A at hAok hA4 HAl ⊢
  have HO := Lib.hid (show OkE [(A, [])] from hAok)
  have HI := Lib.hid (show Short [(A, [])] from fun i e hi => by cases i with | zero => (simp at hi; subst hi; simp) | succ i => (simp at hi))
  obtain ⟨T, hT⟩ : ∃ T, T = reachE xs N 4096 (cbMin popI) 4096 [(A, [])] 0 m := ⟨_, rfl⟩
  rw [← hT]
  have HT := Lib.hid hT.symm
  clear hT ho hS1 hS2 hL1 hAok Hfr
  have hN3 : N ≤ 3 := by omega
  clear hL2
  have hs1 := hs.boxNew hlo [.int .i64 (N : Int), .int .i64 (q : Int), .slice a n ac] 26
  obtain ⟨w1, e1⟩ : ∃ x, x = w.alloc (.cells #[.int .i64 (N : Int), .int .i64 (q : Int), .slice a n ac] 26) := ⟨_, rfl⟩
  have A1 := Lib.hid (show Below lo w w1 from by rw [e1]; exact (Below.refl _ _).alloc hlo _)
  have hs1' : Sep lo w1 (Res.box w.heap.size [.int .i64 (N : Int), .int .i64 (q : Int), .slice a n ac] :: [Res.box c [.int .i64 m]]) := by rw [e1]; exact hs1
  have e1s := e1.symm
  have H1 := Lib.hid hs1'
  obtain ⟨-, hcs⟩ := hs1'.headBox
  have c0 := (hcs.2 0 (.int .i64 (N : Int)) rfl).1
  have c1 := (hcs.2 1 (.int .i64 (q : Int)) rfl).1
  have c2 := (hcs.2 2 (.slice a n ac) rfl).1
  have hmm := @run_makeMap Tryd.prog
  have hlo1 : lo ≤ w1.heap.size := by rw [e1]; simp; omega
  clear hs hs1 hs1' hcs e1 hlo
  go_enter Tryd.func29, Tryd.ntmps29
  go_wp2_with fail
  refine (HAl.out _ A1.out).mono ?_
  rintro e w2 ⟨rfl, hb2⟩
  have hz2 := hb2.size
  have H2 := Lib.hid (H1.out.below hb2 (Nat.le_refl _))
  have A2 := Lib.hid (A1.out.trans (hb2.mono hlo1))
  obtain ⟨-, hcs⟩ := H2.out.headBox
  have c0 := (hcs.2 0 (.int .i64 (N : Int)) rfl).1
  have c1 := (hcs.2 1 (.int .i64 (q : Int)) rfl).1
  have c2 := (hcs.2 2 (.slice a n ac) rfl).1
  clear hcs hb2 H1 e1s
  have hlo2 : lo ≤ w2.heap.size := by omega
  have h3 := H2.out.new (OwnG.held (EntR.kept 5)) ((Below.refl _ _).alloc (Nat.le_refl _) _) hlo2 (New.oneG' (e := 72) (sz := 2) (R := EntR 5) w2 [.int .i64 (A : Int), .slice none 0 0] (A, []) rfl (fun w' => ⟨_, rfl, OwnOf.nil _⟩))
  obtain ⟨w3, e3⟩ : ∃ x, x = w2.alloc (.cells #[.int .i64 (A : Int), .slice none 0 0] 72) := ⟨_, rfl⟩
  have h3' : Sep lo w3 (Res.ents (.slice (some ⟨w2.heap.size, 0, none⟩) 1 1) [(A, [])] :: Res.box w.heap.size [.int .i64 (N : Int), .int .i64 (q : Int), .slice a n ac] :: [Res.box c [.int .i64 m]]) := by rw [e3]; exact h3
  have e3s := e3.symm
  have hz3 : w3.heap.size = w2.heap.size + 1 := by rw [e3]; simp
  have A3 := Lib.hid (show Below lo w w3 from by rw [e3]; exact A2.out.alloc hlo2 _)
  have h4 := h3'.mapNew (by omega) Tryd.prog 3 4 domS (fun s : Nat => .int .i64 (s : Int)) (fun y : Bool => .lit (.bool y))
  rw [memS_nil] at h4
  obtain ⟨w4, e4⟩ : ∃ x, x = w3.alloc (.map #[] 0) := ⟨_, rfl⟩
  have hz4 : w4.heap.size = w3.heap.size + 1 := by rw [e4]; simp
  have A4 := Lib.hid (show Below lo w w4 from by rw [e4]; exact A3.out.alloc (by omega) _)
  rw [← e4] at h4
  have e4s := e4.symm
  have H4 := Lib.hid h4
  obtain ⟨-, hcs⟩ := H4.out.getBox (b := w.heap.size) (vs := [.int .i64 (N : Int), .int .i64 (q : Int), .slice a n ac]) (by simp)
  clear c0 c1 c2
  have c0 := (hcs.2 0 (.int .i64 (N : Int)) rfl).1
  have c1 := (hcs.2 1 (.int .i64 (q : Int)) rfl).1
  have c2 := (hcs.2 2 (.slice a n ac) rfl).1
  clear hcs h3 h3' h4 e3 e4 A2 A3 H2
  go_wp2_with fail
  refine (HAl.out _ A4.out).mono ?_
  rintro e w5 ⟨rfl, hb5⟩
  have hz5 := hb5.size
  have H5 := Lib.hid (H4.out.below hb5 (Nat.le_refl _))
  have A5 := Lib.hid (A4.out.trans (hb5.mono (by omega)))
  obtain ⟨bm, hbm⟩ : ∃ x, x = w2.heap.size + 1 := ⟨_, rfl⟩
  rw [hz3, ← hbm] at H5
  rw [← hbm]
  obtain ⟨w6, hr6, hs6, hb6, -⟩ := Sep.setAdd (b := bm) (n := 0) (ss := []) H5.out (by omega) (by omega) A (by unfold domS; omega)
  have hz6 := hb6.size
  have HS0 := Lib.hid (hs6.swap)
  have HB0 := Lib.hid (A5.out.trans hb6)
  have hz06 : lo ≤ w6.heap.size := by omega
  have hbL := (hs6.getBox (b := w.heap.size) (vs := [.int .i64 (N : Int), .int .i64 (q : Int), .slice a n ac]) (by simp)).1
  clear hs6 hb6 hb5 c0 c1 c2 A1 A4 A5 H4 H5 e3s e4s hbm hz3 hz4 hz5 hz2 HAl hA4 hlo1 hlo2
  go_wp2
  clear hr6 hmm
  go_loopg [6, 8] 4096 (fun g vs i wr => ∃ (k : Nat) (es : List Ent) (la : Option Addr) (lc : Nat) (m : Int), vs = .slice la es.length lc ∧ i = .int .i64 k ∧ k + g = 4096 ∧ lo ≤ wr.heap.size ∧ Hid (OkE es) ∧ Hid (Short es) ∧ Hid (reachE xs N 4096 (cbMin popI) g es k m = T) ∧ Hid (Sep lo wr (Res.ents vs es :: Res.sets bm es.length (es.map (·.1)) :: Res.box w.heap.size [.int .i64 (N : Int), .int .i64 (q : Int), .slice a n ac] :: [Res.box c [.int .i64 m]])) ∧ Hid (Below lo w wr))
  case atStart => exact ⟨0, [(A, [])], _, _, m, rfl, rfl, by omega, hz06, HO, HI, HT, HS0, HB0⟩
  case round =>
    clear HO HI HT HS0 HB0 hz06
    obtain ⟨k, es, la, lc, m, rfl, rfl, hk, hzr, HO, HI, HT, HS, HB⟩ := hrel
    obtain ⟨wq, rfl⟩ : ∃ x, x = wr := ⟨_, rfl⟩
    have Hl := Lib.hid HO.out.len
    by_cases hlt : k < es.length
    · obtain ⟨⟨s, wd⟩, he, _⟩ := at_lt hlt
      obtain ⟨g, rfl⟩ : ∃ x, gk = x + 1 := ⟨gk - 1, by have := Hl.out; omega⟩
      have hs4 : s < 4096 := (HO.out.2 s (List.mem_map.2 ⟨(s, wd), List.mem_of_getElem? he, rfl⟩)).2
      obtain ⟨G, G', hG, hG', hGG⟩ := HS.out.headTwo (r' := Res.box c [.int .i64 m]) (by simp)
      obtain ⟨bl, lc', u, K, hv, hbl, ⟨vw, rfl, hW⟩, hKG, hbG, hcl⟩ := OwnG.at (x := (s, wd)) hG he
      simp at hv
      obtain ⟨rfl, rfl⟩ := hv
      have hblc : bl ≠ c := fun e2 => hGG bl hbG (by rw [hG'.1, e2]; simp)
      have f0 := hcl 0 (.int .i64 (s : Int)) rfl
      have f1 := hcl 1 vw rfl
      rw [Nat.add_zero] at f0
      obtain ⟨va, vc, hvw, _⟩ := (OWord.reads hW).shape
      subst hvw
      have hki : (k : Int) < (es.length : Int) := by omega
      have hS0 : wq.cell? ⟨bl, k * 2, none⟩ = some (.int .i64 (s : Int)) ∧ wq.cell? ⟨bl, k * 2 + 1, none⟩ = some (.slice va wd.length vc) := ⟨f0, f1⟩
      have hSd : wq.drew.cell? ⟨bl, k * 2, none⟩ = some (.int .i64 (s : Int)) ∧ wq.drew.cell? ⟨bl, k * 2 + 1, none⟩ = some (.slice va wd.length vc) := hS0
      have HC := Lib.hid (fun vw => leastclo_c (w := wq.drew) (lo := lo) (c := c) ((HS.out.below (Below.refl _ _).drew (Nat.le_refl _)).front [_, _, _]) hzr hs4 vw)
      have HT2 := Lib.hid (show reachE xs N 4096 (cbMin popI) g (rowE xs s wd N 0 es) (k + 1) (minF popI m s) = T from by have h := HT.out; unfold reachE at h; rw [he] at h; have hsh := HI.out k _ he; simp only [cbMin, nextE] at h; rw [if_neg (by simp)] at h; rw [if_neg (by simp only at hsh; have := Hl.out; omega)] at h; exact h)
      have HE := Lib.hid he
      have hwl : wd.length ≤ k := HI.out k _ he
      have hl := Hl.out
      have t7 : ((wd.length : Int) == 4096) = false := by simp; omega
      clear HT hG hG' hGG hW hKG hbG hcl f0 f1 he c0 c1 c2
      go_wp2
      go_region_held3 (fun w' => w'.cell? ⟨bl, k * 2, none⟩ = some (.int .i64 (s : Int)) ∧ w'.cell? ⟨bl, k * 2 + 1, none⟩ = some (.slice va wd.length vc))
        (first | with_reducible exact hS1 | with_reducible exact hSd | with_reducible exact hS0 | go_keep)
        ((first
          | (go_at_call 46; (with_reducible refine (HC.out _).mono ?_); rintro e w7 ⟨rfl, hs7, hb7, hk7⟩; have hS1 : w7.cell? ⟨bl, k * 2, none⟩ = some (.int .i64 (s : Int)) ∧ w7.cell? ⟨bl, k * 2 + 1, none⟩ = some (.slice va wd.length vc) := ⟨(hk7 ⟨bl, k * 2, none⟩ hblc).trans hS0.1, (hk7 ⟨bl, k * 2 + 1, none⟩ hblc).trans hS0.2⟩)
          | fail))
      have f1 := hS1.2
      have HS7 := Lib.hid (show Sep lo w7 _ from Sep.back [_, _, _] hs7)
      have HB7 := Lib.hid (HB.out.drew.trans hb7)
      have hz7 := hb7.size
      have hz7l : lo ≤ w7.heap.size := by simp at hz7; omega
      have hbl7 : bl < w7.heap.size := by simp at hz7; omega
      obtain ⟨-, hcs⟩ := HS7.out.getBox (b := w.heap.size) (vs := [.int .i64 (N : Int), .int .i64 (q : Int), .slice a n ac]) (by simp)
      have c0 := (hcs.2 0 _ rfl).1
      clear hcs HS HB hs7 hb7 hk7 hS0 hSd hS1 HC hz7
      go_wp2
      generalize minF popI m s = m' at HS7 HT2
      go_loopg [6, 47] N (fun g2 vs i wx => ∃ (x : Nat) (es : List Ent) (la : Option Addr) (lc : Nat), vs = .slice la es.length lc ∧ i = .int .i64 x ∧ x + g2 = N ∧ k < es.length ∧ lo ≤ wx.heap.size ∧ Hid (OkE es) ∧ Hid (Short es) ∧ Hid (es[k]? = some (s, wd)) ∧ Hid (reachE xs N 4096 (cbMin popI) g (rowE xs s wd g2 x es) (k + 1) m' = T) ∧ Hid (Sep lo wx (Res.ents vs es :: Res.sets bm es.length (es.map (·.1)) :: Res.box w.heap.size [.int .i64 (N : Int), .int .i64 (q : Int), .slice a n ac] :: [Res.box c [.int .i64 m']])) ∧ Hid (Below lo w wx))
      case atStart => exact ⟨0, es, _, _, rfl, rfl, by omega, hlt, hz7l, HO, HI, HE, HT2, HS7, HB7⟩
      case round =>
        clear HO HI HE HT2 HS7 HB7 c0 f1 hbl hbl7 hz7l Hl hl hlt hki hzr hblc hbL
        obtain ⟨x, es, la, lc, rfl, rfl, hx, hlt, hzx, HO, HI, HE, HT2, HS, HB⟩ := hrel
        obtain ⟨wx, rfl⟩ : ∃ x, x = wr := ⟨_, rfl⟩
        have Hl := Lib.hid HO.out.len
        by_cases hxl : x < N
        · obtain ⟨g2, hg2⟩ : ∃ y, gk = y + 1 := ⟨gk - 1, by omega⟩
          subst hg2
          obtain ⟨G, -, hG, -, -⟩ := HS.out.headTwo (r' := Res.sets bm es.length (es.map (·.1))) (by simp)
          obtain ⟨bl, lc', u, K, hv, hbl, ⟨vw, rfl, -⟩, -, -, hcl⟩ := OwnG.at (x := (s, wd)) hG HE.out
          simp at hv
          obtain ⟨rfl, rfl⟩ := hv
          have f0 := hcl 0 (.int .i64 (s : Int)) rfl
          rw [Nat.add_zero] at f0
          obtain ⟨-, hcs⟩ := HS.out.getBox (b := w.heap.size) (vs := [.int .i64 (N : Int), .int .i64 (q : Int), .slice a n ac]) (by simp)
          have c0 := (hcs.2 0 (.int .i64 (N : Int)) rfl).1
          have c1 := (hcs.2 1 (.int .i64 (q : Int)) rfl).1
          have c2 := (hcs.2 2 (.slice a n ac) rfl).1
          have hS0 : wx.cell? ⟨w.heap.size, 0, none⟩ = some (.int .i64 (N : Int)) ∧ wx.cell? ⟨w.heap.size, 1, none⟩ = some (.int .i64 (q : Int)) ∧ wx.cell? ⟨w.heap.size, 2, none⟩ = some (.slice a n ac) ∧ wx.cell? ⟨bl, k * 2, none⟩ = some (.int .i64 (s : Int)) := ⟨c0, c1, c2, f0⟩
          have hSd : wx.drew.cell? ⟨w.heap.size, 0, none⟩ = some (.int .i64 (N : Int)) ∧ wx.drew.cell? ⟨w.heap.size, 1, none⟩ = some (.int .i64 (q : Int)) ∧ wx.drew.cell? ⟨w.heap.size, 2, none⟩ = some (.slice a n ac) ∧ wx.drew.cell? ⟨bl, k * 2, none⟩ = some (.int .i64 (s : Int)) := hS0
          have m1x := hcs.1
          have HSS := Lib.hid (fun (w' : World) (hb3 : Below wx.heap.size wx w') => (show w'.cell? ⟨w.heap.size, 0, none⟩ = some (.int .i64 (N : Int)) ∧ w'.cell? ⟨w.heap.size, 1, none⟩ = some (.int .i64 (q : Int)) ∧ w'.cell? ⟨w.heap.size, 2, none⟩ = some (.slice a n ac) ∧ w'.cell? ⟨bl, k * 2, none⟩ = some (.int .i64 (s : Int)) from ⟨(hb3.cell (p := ⟨w.heap.size, 0, none⟩) m1x).trans hS0.1, (hb3.cell (p := ⟨w.heap.size, 1, none⟩) m1x).trans hS0.2.1, (hb3.cell (p := ⟨w.heap.size, 2, none⟩) m1x).trans hS0.2.2.1, (hb3.cell (p := ⟨bl, k * 2, none⟩) hbl).trans hS0.2.2.2⟩))
          have hs4' := hs4
          have C1 := Lib.hid (fun w' (hb : Below lo w w') => HSt.out w' hb s hs4' (x : Int))
          have Htl := Lib.hid (Hlt.out s (x : Int))
          have HTx := Lib.hid (show reachE xs N 4096 (cbMin popI) g (rowE xs s wd g2 (x + 1) (addE es (stepN xs s (x : Int)) (wd ++ [x]))) (k + 1) m' = T from HT2.out)
          generalize stepN xs s (x : Int) = t at C1 Htl HTx
          have hkl : (k : Int) < (es.length : Int) := by omega
          have hxN : (x : Int) < (N : Int) := by omega
          have B1 := (Below.refl wx.heap.size wx).drew
          have HA1 := HB.out.trans (B1.mono hzx)
          clear hG hcl hcs f0 c0 c1 c2 HT2 hs4'
          go_wp2
          go_region_held3 (fun w' => w'.cell? ⟨w.heap.size, 0, none⟩ = some (.int .i64 (N : Int)) ∧ w'.cell? ⟨w.heap.size, 1, none⟩ = some (.int .i64 (q : Int)) ∧ w'.cell? ⟨w.heap.size, 2, none⟩ = some (.slice a n ac) ∧ w'.cell? ⟨bl, k * 2, none⟩ = some (.int .i64 (s : Int)))
            (first | with_reducible exact hS1 | with_reducible exact hSd | with_reducible exact hS0 | go_keep)
            ((first
              | (go_at_call 57; (with_reducible refine (C1.out _ HA1).mono ?_); rintro e w8 ⟨rfl, hb2⟩; have hb3 := B1.trans hb2; have hS1 := HSS.out w8 hb3; clear hb2)
              | fail))
          clear hS0 hSd HSS B1 HA1 hS1 m1x C1
          have hz8 := hb3.size
          have HS8 := Lib.hid (HS.out.below hb3 (Nat.le_refl _))
          have HB8 := Lib.hid (HB.out.trans (hb3.mono hzx))
          have hlo8 : lo ≤ w8.heap.size := by omega
          clear HS HB hb3 hbl hzx hz8
          have hl := Hl.out
          have hdt : domS t := by have := Htl.out; unfold domS; omega
          have hlk := HS8.out.swap.setLook t hdt
          by_cases ht0 : t = 0
          · subst ht0
            have HTy := Lib.hid (show reachE xs N 4096 (cbMin popI) g (rowE xs s wd g2 (x + 1) es) (k + 1) m' = T from by have h := HTx.out; rwa [show addE es 0 (wd ++ [x]) = es from by unfold addE; rw [if_pos (Or.inl rfl)]] at h)
            clear HTx hlk hdt
            go_wp2
            go_roundg (N - (x + 1))
            case measure => omega
            case rel => exact ⟨x + 1, es, _, _, rfl, by go_num, by omega, hlt, hlo8, HO, HI, HE, by rw [show N - (x + 1) = g2 by omega]; exact HTy, HS8, HB8⟩
          · have ht1 : 0 < t := by omega
            have ht2 : (0 : Int) < (t : Int) := by omega
            by_cases hm : t ∈ es.map (·.1)
            · rw [decide_eq_true hm] at hlk
              have HTy := Lib.hid (show reachE xs N 4096 (cbMin popI) g (rowE xs s wd g2 (x + 1) es) (k + 1) m' = T from by have h := HTx.out; rwa [show addE es t (wd ++ [x]) = es from by unfold addE; rw [if_pos (Or.inr hm)]] at h)
              clear HTx hm hdt
              go_wp2
              go_roundg (N - (x + 1))
              case measure => omega
              case rel => exact ⟨x + 1, es, _, _, rfl, by go_num, by omega, hlt, hlo8, HO, HI, HE, by rw [show N - (x + 1) = g2 by omega]; exact HTy, HS8, HB8⟩
            · rw [decide_eq_false hm] at hlk
              have eadd : addE es t (wd ++ [x]) = es ++ [(t, wd ++ [x])] := by unfold addE; rw [if_neg (by rw [not_or]; exact ⟨ht0, hm⟩)]
              have HTy := Lib.hid (show reachE xs N 4096 (cbMin popI) g (rowE xs s wd g2 (x + 1) (es ++ [(t, wd ++ [x])])) (k + 1) m' = T from by have h := HTx.out; rwa [eadd] at h)
              have HO2 := Lib.hid (show OkE (es ++ [(t, wd ++ [x])]) from by have h := HO.out.add Htl.out (wd ++ [x]); rwa [eadd] at h)
              have HI2 := Lib.hid (show Short (es ++ [(t, wd ++ [x])]) from by have h := addE_short HI.out (t := t) (w := wd ++ [x]) (by have := HI.out k _ HE.out; simp at this ⊢; omega); rwa [eadd] at h)
              have HE2 := Lib.hid (show (es ++ [(t, wd ++ [x])])[k]? = some (s, wd) from by rw [List.getElem?_append_left hlt]; exact HE.out)
              have hwl : wd.length ≤ 4095 := by have h := HI.out k _ HE.out; simp at h; omega
              obtain ⟨w9, hr9, hs9, hb9, -⟩ := Sep.setAdd HS8.out.swap hlo8 (by omega) t hdt
              have hz9 := hb9.size
              have hs9' := hs9.swap
              obtain ⟨G, -, hG, -, -⟩ := hs9'.headTwo (r' := Res.sets bm (es.length + 1) (es.map (·.1) ++ [t])) (by simp)
              obtain ⟨bl', lc'', u, K, hv, hbl, ⟨vw, rfl, hW⟩, -, -, hcl⟩ := OwnG.at (x := (s, wd)) hG HE.out
              simp at hv
              obtain ⟨rfl, rfl⟩ := hv
              have f1 := hcl 1 vw rfl
              obtain ⟨va, vc, hvw, _⟩ := (OWord.reads hW).shape
              subst hvw
              have hrd : SlOf (ValR letV) w9 (.slice va (s, wd).2.length vc) wd := OWord.reads hW
              simp only at hrd f1
              obtain ⟨w9a, e9a⟩ : ∃ y, y = w9.alloc (.cells #[] 5) := ⟨_, rfl⟩
              have hb9a : Below w9.heap.size w9 w9a := by rw [e9a]; exact (Below.refl _ _).alloc (Nat.le_refl _) _
              have f1a : w9a.cell? ⟨bl, k * 2 + 1, none⟩ = some (.slice va wd.length vc) := (hb9a.cell (p := ⟨bl, k * 2 + 1, none⟩) hbl).trans f1
              have hn9 := New.empty (e := 5) (R := OValR letV) w9 (Nat.le_refl _)
              rw [← e9a] at hn9
              have hz9a := hb9a.size
              have e9s := e9a.symm
              obtain ⟨v1, w10, hr10, hn10, hb10⟩ := vals_run (P := Tryd.prog) (fun _ => rfl) 22 22 5 (.int .u8 0) 1 Tryd.underlying22 infoB8 rfl hn9 hz9a (SlOf.frame (fun _ _ _ _ h _ => h) _ _ _ _ hrd hb9a) (by simp; omega) (by simp; omega)
              rw [List.nil_append] at hn10
              obtain ⟨va1, vn1, vc1, rfl⟩ := hn10.slice
              have hz10 := hb10.size
              obtain ⟨v2, w11, hr11, hs11, hb11⟩ := Sep.push (P := Tryd.prog) OLet.kept 22 22 (.int .u8 0) 1 Tryd.underlying22 infoB8 rfl (Sep.one (OwnOf.kept OLet.kept).held hn10) (by omega) ((Below.refl _ _).alloc (Nat.le_refl _) (.cells #[letV x] 5)) (q := letV x) (x := x) ⟨[], ⟨rfl, rfl⟩, by simp [Fresh]⟩ (bb := w10.heap.size) (c := 1) (World.cell?_alloc_at _ _ _ 0 rfl) (by omega) (by omega)
              have hn11 := hs11.headNew
              obtain ⟨va2, vn2, vc2, rfl⟩ := hn11.slice
              have hz11 := hb11.size
              obtain ⟨K2, hK2, hK2f⟩ := hn11
              obtain ⟨v3, w12, hr12, hs12, hb12⟩ := Sep.pushC (P := Tryd.prog) (EntR.kept 5) (by omega) 73 73 (.agg #[.int .i64 0, .slice none 0 0]) 32 Tryd.underlying73 infoSt rfl hs9' (by omega) (w1 := w11.alloc (.cells #[.int .i64 (t : Int), .slice va2 vn2 vc2] 72)) ((hb9a.trans (hb10.trans hb11)).alloc (by omega) _) (u := [.int .i64 (t : Int), .slice va2 vn2 vc2]) (y := (t, wd ++ [x])) (K := K2) ⟨_, rfl, (OwnOf.kept OLet.kept).keep _ _ _ _ _ hK2 fun b hb => ((Below.refl w11.heap.size w11).alloc (Nat.le_refl _) _).block b ((OwnOf.kept OLet.kept).lt _ _ _ _ hK2 b hb)⟩ hK2f (bb := w11.heap.size) 1 (fun j y hj => (World.cell?_alloc_at _ _ _ j rfl).trans (by simpa using hj)) (by omega) (by omega)
              obtain ⟨la', lc3, rfl⟩ := (show ∃ a c, v3 = .slice a (es ++ [(t, wd ++ [x])]).length c from by obtain ⟨G3, hG3, _⟩ := hs12.head; exact OwnG.slice hG3)
              have e5 : (es ++ [(t, wd ++ [x])]).length = es.length + 1 := by simp
              have e6 : es.map (·.1) ++ [t] = (es ++ [(t, wd ++ [x])]).map (·.1) := by simp
              rw [e5] at hr12 hs12
              have HS12 := Lib.hid (show Sep lo w12 (Res.ents (.slice la' (es.length + 1) lc3) (es ++ [(t, wd ++ [x])]) :: Res.sets bm (es ++ [(t, wd ++ [x])]).length ((es ++ [(t, wd ++ [x])]).map (·.1)) :: Res.box w.heap.size [.int .i64 (N : Int), .int .i64 (q : Int), .slice a n ac] :: [Res.box c [.int .i64 m']]) from by rw [← e6, e5]; exact hs12)
              have HB12 := Lib.hid (HB8.out.trans (hb9.trans hb12))
              have hz12 := hb12.size
              have hlo12 : lo ≤ w12.heap.size := by omega
              have E5 := Lib.hid e5
              have Hr10 := Lib.hid hr10
              have Hr11 := Lib.hid hr11
              have Hr12 := Lib.hid hr12
              have Hlt2 := Lib.hid (show k < (es ++ [(t, wd ++ [x])]).length from by simp; omega)
              have hu8 : IntKind.u8.wrap (97 + (x : Int)) = 97 + (x : Int) := IntWalk.u8_in _ (by omega)
              have hbl9 : bl < w9.heap.size := hbl
              clear HTx hm hdt eadd HS8 HB8 HO HI hs9 hs9' hb9 hG hW hcl hrd hb9a hn9 e9a hr10 hn10 hb10 hr11 hs11 hb11 hK2 hK2f hr12 hs12 hb12 e5 e6 hbl hz12 HE
              go_wp2_with (first
                | (at_builtin; refine wpl_append_run rfl (.tmp 70) (.tmp 75) 22 rfl rfl rfl Hr10.out ?_)
                | (at_builtin; refine wpl_append_run rfl (.tmp 76) (.tmp 80) 22 rfl rfl rfl Hr11.out ?_)
                | (at_builtin; refine wpl_append_run rfl (.tmp 68) (.tmp 83) 73 rfl rfl rfl Hr12.out ?_)
                | fail)
              go_roundg (N - (x + 1))
              case measure => omega
              case rel => exact ⟨x + 1, es ++ [(t, wd ++ [x])], _, _, by rw [E5.out], by go_num, by omega, Hlt2.out, hlo12, HO2, HI2, HE2, by rw [show N - (x + 1) = g2 by omega]; exact HTy, HS12, HB12⟩
        · have hg : gk = 0 := by omega
          have HTy := Lib.hid (show reachE xs N 4096 (cbMin popI) g es (k + 1) m' = T from by have h := HT2.out; rw [hg] at h; exact h)
          have hxi : ¬ ((x : Int) < (N : Int)) := by omega
          have hl := Hl.out
          clear HT2 HE
          go_wp2
          go_roundg g
          case measure => omega
          case rel => exact ⟨k + 1, es, _, _, m', rfl, by go_num, by omega, hzx, HO, HI, HTy, HS, HB⟩
    · have HF := Lib.hid (show T = m from by
        rw [← HT.out]
        cases gk with
        | zero => rfl
        | succ g => unfold reachE; rw [List.getElem?_eq_none (by omega)])
      have hki : ¬ ((k : Int) < (es.length : Int)) := by omega
      clear HO HI HT Hl
      go_wp2
      refine bodyPost_end (v := .tuple #[]) (by simp [results, Tryd.results29, go_sem]) rfl ?_
      exact ⟨rfl, by rw [HF.out]; exact HS.out.tail.tail.tail, HB.out⟩
end Go.Proofs.YtcilgihmaaobeaaDoor
end

section
namespace Go.Proofs.YtcilgihmaaobeaaDoor
open Go.RowKit Go.Deep Go.Sd
set_option linter.unusedSimpArgs false
set_option maxHeartbeats 4000000 in
set_option maxRecDepth 100000 in
theorem impl_LeastRank_c {w : World} {v : Value} {l : Lb} (h : LabR w v l) :
    Calls Tryd.prog 18 #[v] w fun e w' => e = .returned (.int .i64 (leastRM l)) ∧ Below w.heap.size w w' := by
  have H1 := Lib.hid (fun w1 (hb : Below w.heap.size w w1) => impl_IsResolving_c (LabR.frame _ _ _ _ h hb))
  have Hfr := Lib.hid (fun w1 (hb : Below w.heap.size w w1) => LabR.frame _ _ _ _ h hb)
  obtain ⟨T, hT⟩ : ∃ T, T = leastRM l := ⟨_, rfl⟩
  rw [← hT]
  have HT := Lib.hid hT
  clear hT
  have Hok := Lib.hid (fun h => resolv_facts (l := l) h)
  have HF0 := Lib.hid (fun (h : resolvM l = false) => (show leastRM l = 0 from by unfold leastRM; rw [h]; rfl))
  generalize hil : resolvM l = il at H1
  have Hil := Lib.hid hil
  clear hil
  obtain ⟨L, S, xs⟩ := l
  obtain ⟨_, rfl, -, a, c, rfl, -, -, -, -⟩ := h
  simp only at *
  generalize hn : xs.length = n at *
  clear hn
  obtain ⟨w1, ex, hb1, c0, c1, c2, m1⟩ := boxA3_ex w 26 (.int .i64 L) (.int .i64 S) (.slice a n c)
  have A1 := Lib.hid hb1
  clear hb1
  go_enter Tryd.func18, Tryd.ntmps18
  go_wp2_with fail
  refine (H1.out _ A1.out).mono ?_
  rintro e w2 ⟨rfl, hb1⟩
  replace c0 := (hb1.cell (p := ⟨w.heap.size, 0, none⟩) m1).trans c0
  replace c1 := (hb1.cell (p := ⟨w.heap.size, 1, none⟩) m1).trans c1
  replace c2 := (hb1.cell (p := ⟨w.heap.size, 2, none⟩) m1).trans c2
  have m2 : w.heap.size < w2.heap.size := Nat.lt_of_lt_of_le m1 hb1.size
  replace A1 := Lib.hid (A1.out.trans (hb1.mono A1.out.size))
  clear hb1 ex H1 m1
  cases il with
  | false =>
    have HF := Lib.hid (show T = 0 from by rw [HT.out]; exact HF0.out Hil.out)
    clear HT HF0 Hil Hok Hfr
    go_wp2
    go_ret
    exact ⟨by rw [HF.out]; rfl, A1.out⟩
  | true =>
  have Hil2 := Lib.hid (Hok.out Hil.out)
  clear Hok HF0
  obtain ⟨ho, hS1, hS2, hL1, hL2⟩ := Hil2.out
  have HT2 := Lib.hid (show reachE xs L.toNat 4096 (cbMin popI) 4096 [(allN S, [])] 0 S = T from by
    rw [HT.out]
    unfold leastRM
    rw [Hil.out, if_pos rfl]
    have h := reach_min xs L.toNat popI (fun s x => stepN_lt ho hS2 s x) 4096 [(allN S, [])] 0 [] S (all_ok hS1 hS2) (fun i e hi => by cases i with | zero => (simp at hi; subst hi; simp) | succ i => (simp at hi)) (by omega)
    simpa using h)
  have hlo : w.heap.size ≤ w2.heap.size := by omega
  have hs0 := (Sep.nil w2.heap.size w2).boxNew (Nat.le_refl _) [.int .i64 S] 3
  obtain ⟨w3, e3⟩ : ∃ x, x = w2.alloc (.cells #[.int .i64 S] 3) := ⟨_, rfl⟩
  have hs3 : Sep w2.heap.size w3 [Res.box w2.heap.size [.int .i64 S]] := by rw [e3]; exact hs0
  have B3 : Below w2.heap.size w2 w3 := by rw [e3]; exact (Below.refl _ _).alloc (Nat.le_refl _) _
  have A3 := Lib.hid (A1.out.trans (B3.mono hlo))
  have hz3 := B3.size
  have HR := Lib.hid (reachLeast_c (lo := w2.heap.size) (fun w1 hb => Hfr.out w1 (A3.out.trans (hb.mono hlo))) ho hS1 hS2 hL1 hL2 hs3 hz3)
  simp only at HR
  rw [HT2.out] at HR
  replace c0 := (B3.cell (p := ⟨w.heap.size, 0, none⟩) m2).trans c0
  replace c1 := (B3.cell (p := ⟨w.heap.size, 1, none⟩) m2).trans c1
  replace c2 := (B3.cell (p := ⟨w.heap.size, 2, none⟩) m2).trans c2
  have e3s := e3.symm
  have hmf : ∀ (fn : Fn) (first cap : Array Value) (w : World), (Instr.makeFunc fn first cap).run Tryd.prog w = .ok (.func fn first cap) w := fun _ _ _ _ => rfl
  have y1 : w2.cell? ⟨w.heap.size, 1, none⟩ = some (.int .i64 S) := by have h := B3.cell (p := ⟨w.heap.size, 1, none⟩) m2; rw [← h]; exact c1
  clear HT Hil Hil2 ho hS1 hS2 hL1 hL2 Hfr HT2 hs0 hs3 B3 e3 A1
  go_wp2_with fail
  refine HR.out.mono ?_
  rintro e w4 ⟨rfl, hs4, hb4⟩
  have g0 := ((hs4.headBox).2.2 0 _ rfl).1
  have A4 := Lib.hid (A3.out.trans (hb4.mono hlo))
  clear hs4 hb4 HR c0 c1 c2 e3s hmf y1
  go_wp2
  go_ret
  exact ⟨rfl, A4.out⟩
end Go.Proofs.YtcilgihmaaobeaaDoor
end
