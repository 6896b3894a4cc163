/-
  Laws for this claim's walks, contracts of the functions that it reaches.
-/
import Derived.Test.YtcilgihmaaobeaaGreatDoorFnLabelsM47
set_option linter.unusedVariables false
set_option linter.unusedSimpArgs false
section
namespace Go.Proofs.YtcilgihmaaobeaaGreatDoor
open Go.RowKit Go.Deep Go.Sd
set_option linter.unusedSimpArgs false
set_option maxHeartbeats 2000000 in
set_option maxRecDepth 100000 in
theorem DrawTrimLabels_b {w : World} {vc : Value} {xs : List Int} (h : BytR w vc xs) :
    Calls Tryz.prog 8 #[vc] w fun e w' => ∃ (v : Value) (l : Lb), e = .returned v ∧ l.2.2.length ≤ 82 ∧ New OLab w.heap.size w' v l ∧ Below w.heap.size w w' := by
  obtain ⟨wA, eA, hA⟩ : ∃ x, x = w.alloc (.cells #[.int .i64 0, .int .i64 0, .slice none 0 0] 26) ∧ Below w.heap.size w x := ⟨_, rfl, (Below.refl _ _).alloc (Nat.le_refl _) _⟩
  have hA' : BytR wA vc xs := BytR.frame _ _ _ _ h hA
  have HN := Lib.hid (l1New_c hA')
  have HK := Lib.hid (fun w' (hb : Below wA.heap.size wA w') => BytR.frame _ _ _ _ hA' hb)
  obtain ⟨a, c, rfl, -⟩ := h.cellsB
  have R0 := Lib.hid (show wA.cell? ⟨w.heap.size, 0, none⟩ = some (.int .i64 0) from by rw [eA]; simp [go_sem])
  have R1 := Lib.hid (show wA.cell? ⟨w.heap.size, 1, none⟩ = some (.int .i64 0) from by rw [eA]; simp [go_sem])
  have R2 := Lib.hid (show wA.cell? ⟨w.heap.size, 2, none⟩ = some (.slice none 0 0) from by rw [eA]; simp [go_sem])
  have F0 := Lib.hid (show wA.frozen? ⟨w.heap.size, 0, none⟩ = false from by rw [eA]; simp [go_sem])
  have F1 := Lib.hid (show wA.frozen? ⟨w.heap.size, 1, none⟩ = false from by rw [eA]; simp [go_sem])
  have F2 := Lib.hid (show wA.frozen? ⟨w.heap.size, 2, none⟩ = false from by rw [eA]; simp [go_sem])
  have zA : w.heap.size < wA.heap.size := by rw [eA]; simp
  have HA := Lib.hid hA
  have eAs := eA.symm
  clear h hA hA' eA
  go_enter Tryz.func8, Tryz.ntmps8
  go_wp2_with fail
  (with_reducible refine HN.out.mono ?_)
  rintro e w1 ⟨rfl, ⟨hh, hs⟩, hb⟩
  have HC1 := Lib.hid (show Cur wA.heap.size w1 wA.heap.size (.slice a xs.length c) xs.length [] from ⟨0, hh, Nat.zero_le _, hs⟩)
  have HB1 := Lib.hid hb
  have hz1 := hb.size
  clear hs hb HN eAs
  have HL := Lib.hid (l14Bent_c (fun w' hb' => HK.out w' (HB1.out.trans hb')) HC1.out hz1)
  go_wp2_with fail
  (with_reducible refine HL.out.mono ?_)
  rintro e w2 ⟨v, l, rfl, hln, hc, hb⟩
  have Hln := Lib.hid hln
  clear hln
  have hcl := hc.labOf (Nat.le_trans hz1 hb.size)
  obtain ⟨ya, yc, rfl⟩ := hcl.labSlice
  have Hn := Lib.hid hcl.out.headNew
  have HB2 := Lib.hid (HB1.out.trans hb)
  obtain ⟨al, hal⟩ : ∃ n, n = l.2.2.length := ⟨_, rfl⟩
  rw [← hal] at Hn ⊢
  clear hal hc hcl hb HL HC1 HB1 hz1
  replace R0 := (HB2.out.cell (p := ⟨w.heap.size, 0, none⟩) zA).trans R0.out
  replace F0 := (HB2.out.frozen (p := ⟨w.heap.size, 0, none⟩) zA).trans F0.out
  replace R1 := (HB2.out.cell (p := ⟨w.heap.size, 1, none⟩) zA).trans R1.out
  replace F1 := (HB2.out.frozen (p := ⟨w.heap.size, 1, none⟩) zA).trans F1.out
  replace R2 := (HB2.out.cell (p := ⟨w.heap.size, 2, none⟩) zA).trans R2.out
  replace F2 := (HB2.out.frozen (p := ⟨w.heap.size, 2, none⟩) zA).trans F2.out
  go_wp2_with fail
  have s0 := World.cell?_setCell_same w2 _ (.int .i64 l.1) R0
  have u1 := (World.cell?_setCell_other w2 ⟨w.heap.size, 0, none⟩ ⟨w.heap.size, 1, none⟩ (.int .i64 l.1) (by simp)).trans R1
  have s1 := World.cell?_setCell_same _ _ (.int .i64 l.2.1) u1
  have u2 := (World.cell?_setCell_other _ ⟨w.heap.size, 1, none⟩ ⟨w.heap.size, 2, none⟩ (.int .i64 l.2.1) (by simp)).trans ((World.cell?_setCell_other w2 ⟨w.heap.size, 0, none⟩ ⟨w.heap.size, 2, none⟩ (.int .i64 l.1) (by simp)).trans R2)
  have s2 := World.cell?_setCell_same _ _ (.slice ya al yc) u2
  have v1 := (World.cell?_setCell_other _ ⟨w.heap.size, 2, none⟩ ⟨w.heap.size, 1, none⟩ (.slice ya al yc) (by simp)).trans s1
  have v0 := (World.cell?_setCell_other _ ⟨w.heap.size, 2, none⟩ ⟨w.heap.size, 0, none⟩ (.slice ya al yc) (by simp)).trans ((World.cell?_setCell_other _ ⟨w.heap.size, 1, none⟩ ⟨w.heap.size, 0, none⟩ (.int .i64 l.2.1) (by simp)).trans s0)
  refine bodyPost_ret (v := .agg #[.int .i64 l.1, .int .i64 l.2.1, .slice ya al yc]) (by simp [results, Tryz.results8, go_sem, v0, v1, s2]) rfl ?_
  exact ⟨_, l, rfl, Hln.out, (New.storeLow OLab.held (New.storeLow OLab.held (New.storeLow OLab.held Hn.out (p := ⟨w.heap.size, 0, none⟩) zA (.int .i64 l.1)) (p := ⟨w.heap.size, 1, none⟩) zA (.int .i64 l.2.1)) (p := ⟨w.heap.size, 2, none⟩) zA (.slice ya al yc)).mono (Nat.le_of_lt zA), ((((HA.out.trans (HB2.out.mono (Nat.le_of_lt zA))).setCell (p := ⟨w.heap.size, 0, none⟩) (Nat.le_refl _) _).setCell (p := ⟨w.heap.size, 1, none⟩) (Nat.le_refl _) _).setCell (p := ⟨w.heap.size, 2, none⟩) (Nat.le_refl _) _)⟩
set_option maxHeartbeats 8000000 in
set_option maxRecDepth 100000 in
theorem DrawReadsWord_c {w : World} {vc : Value} {xs : List Int} (h : BytR w vc xs) :
    Calls Tryz.prog 14 #[vc] w fun e w' => ∃ (v : Value) (l : Lb) (s : ByteArray), e = .returned (.tuple #[v, .string s]) ∧ New OLab w.heap.size w' v l ∧ s.size ≤ 7 ∧ Below w.heap.size w w' := by
  obtain ⟨wA, eA, hA⟩ : ∃ x, x = w.alloc (.cells #[.int .i64 0, .int .i64 0, .slice none 0 0] 26) ∧ Below w.heap.size w x := ⟨_, rfl, (Below.refl _ _).alloc (Nat.le_refl _) _⟩
  have hA' : BytR wA vc xs := BytR.frame _ _ _ _ h hA
  have HN := Lib.hid (l1New_c hA')
  have HK := Lib.hid (fun w' (hb : Below wA.heap.size wA w') => BytR.frame _ _ _ _ hA' hb)
  obtain ⟨a, c, rfl, -⟩ := h.cellsB
  have z0 : w.heap.size < wA.heap.size := by rw [eA]; simp
  have RC := Lib.hid (show Cells wA w.heap.size [.int .i64 0, .int .i64 0, .slice none 0 0] from by
    refine ⟨z0, fun j u hj => ?_⟩
    rcases j with _ | _ | _ | j <;> first | (simp at hj; done) | (simp at hj; subst hj; rw [eA]; simp [go_sem]))
  have HA := Lib.hid hA
  have eAs := eA.symm
  clear h hA hA' eA
  go_enter Tryz.func14, Tryz.ntmps14
  go_wp2_with fail
  (with_reducible refine HN.out.mono ?_)
  rintro e w1 ⟨rfl, ⟨hh, hs⟩, hb⟩
  obtain ⟨cb, hcb⟩ : ∃ b, b = wA.heap.size := ⟨_, rfl⟩
  have HC1 := Lib.hid (show Cur wA.heap.size w1 cb (.slice a xs.length c) xs.length [] from by rw [hcb]; exact ⟨0, hh, Nat.zero_le _, hs⟩)
  rw [← hcb]
  have HX1 := Lib.hid hb
  have hz1 := hb.size
  clear hs hb HN eAs hcb
  have HL := Lib.hid (l14Bent_c (fun w' hb' => HK.out w' (HX1.out.trans hb')) HC1.out hz1)
  go_wp2_with fail
  (with_reducible refine HL.out.mono ?_)
  rintro e w2 ⟨v, l, rfl, hln, hc, hb⟩
  have hz2 := Nat.le_trans hz1 hb.size
  have hcl := hc.labOf hz2
  have HX2 := Lib.hid (HX1.out.trans hb)
  obtain ⟨ya, yc, rfl⟩ := hcl.labSlice
  obtain ⟨l0, l1, la⟩ := l
  obtain ⟨al, hal⟩ : ∃ n, n = la.length := ⟨_, rfl⟩
  simp only [← hal] at hcl ⊢
  have HC2 := Lib.hid hcl
  clear hal hln hc hb hcl HL HC1 HX1 hz1
  have HL := Lib.hid (show Calls Tryz.prog 41 #[.pointer (some ⟨cb, 0, none⟩), .int .i64 2, .int .i64 7] w2 _ from l2Draw_c (kk := 2) (most := 7) (fun w' hb' => HK.out w' (HX2.out.trans hb')) HC2.out hz2 (by omega) (by omega) (by omega))
  go_wp2_with fail
  (with_reducible refine HL.out.mono ?_)
  rintro e wm ⟨s, rfl, hs, hcm, hb, ho⟩
  have HXn := Lib.hid (HX2.out.trans hb)
  have Hs := Lib.hid hs
  clear hs hb ho HL HC2 HX2 hz2
  have hRC := Cells.below' RC.out HXn.out z0
  have r0 := (hRC.2 0 _ rfl).1
  have r1 := (hRC.2 1 _ rfl).1
  have r2 := (hRC.2 2 _ rfl).1
  have f0 := (hRC.2 0 _ rfl).2
  have f1 := (hRC.2 1 _ rfl).2
  have f2 := (hRC.2 2 _ rfl).2
  obtain ⟨ws, ews⟩ : ∃ x, x = (((wm.setCell ⟨w.heap.size, 0, none⟩ (.int .i64 l0)).setCell ⟨w.heap.size, 1, none⟩ (.int .i64 l1)).setCell ⟨w.heap.size, 2, none⟩ (.slice ya al yc)) := ⟨_, rfl⟩
  have hRs : Cells ws (w.heap.size) [.int .i64 l0, .int .i64 l1, .slice ya al yc] := by rw [ews]; exact Cells.fill3 hRC _ _ _
  have hcs := Cur.fill3 hcm z0 (.int .i64 l0) (.int .i64 l1) (.slice ya al yc)
  change Cur _ (((wm.setCell ⟨w.heap.size, 0, none⟩ (.int .i64 l0)).setCell ⟨w.heap.size, 1, none⟩ (.int .i64 l1)).setCell ⟨w.heap.size, 2, none⟩ (.slice ya al yc)) _ _ _ _ at hcs
  rw [← ews] at hcs
  have hBs : Below w.heap.size w ws := by rw [ews]; exact (Below.fill3 (HA.out.trans (HXn.out.mono (Nat.le_of_lt z0))) (Nat.le_refl _) _ _ _)
  have Hews := Lib.hid ews
  clear ews
  have S0 := (hRs.2 0 _ rfl).1
  have S1 := (hRs.2 1 _ rfl).1
  have S2 := (hRs.2 2 _ rfl).1
  have HG := Lib.hid (show New OLab w.heap.size ws (.agg #[.int .i64 l0, .int .i64 l1, .slice ya al yc]) (l0, l1, la) from New.mono (hcs.out.headNew) (Nat.le_of_lt z0))
  have HBs := Lib.hid hBs
  clear hcs hBs
  go_wp2_with fail
  rw [← Hews.out]
  refine bodyPost_ret (v := .tuple #[.agg #[.int .i64 l0, .int .i64 l1, .slice ya al yc], .string s]) (by simp [results, Tryz.results14, go_sem, S0, S1, S2]) rfl ?_
  exact ⟨_, (l0, l1, la), s, rfl, HG.out, Hs.out, HBs.out⟩
set_option maxHeartbeats 8000000 in
set_option maxRecDepth 100000 in
theorem DrawReadWords_c {w : World} {vc : Value} {xs : List Int} (h : BytR w vc xs) :
    Calls Tryz.prog 5 #[vc] w fun e w' => ∃ (v : Value) (l : Lb) (n : Int), e = .returned (.tuple #[v, .int .i64 n]) ∧ New OLab w.heap.size w' v l ∧ (-5 ≤ n ∧ n ≤ 7) ∧ Below w.heap.size w w' := by
  obtain ⟨wA, eA, hA⟩ : ∃ x, x = w.alloc (.cells #[.int .i64 0, .int .i64 0, .slice none 0 0] 26) ∧ Below w.heap.size w x := ⟨_, rfl, (Below.refl _ _).alloc (Nat.le_refl _) _⟩
  have hA' : BytR wA vc xs := BytR.frame _ _ _ _ h hA
  have HN := Lib.hid (l1New_c hA')
  have HK := Lib.hid (fun w' (hb : Below wA.heap.size wA w') => BytR.frame _ _ _ _ hA' hb)
  obtain ⟨a, c, rfl, -⟩ := h.cellsB
  have z0 : w.heap.size < wA.heap.size := by rw [eA]; simp
  have RC := Lib.hid (show Cells wA w.heap.size [.int .i64 0, .int .i64 0, .slice none 0 0] from by
    refine ⟨z0, fun j u hj => ?_⟩
    rcases j with _ | _ | _ | j <;> first | (simp at hj; done) | (simp at hj; subst hj; rw [eA]; simp [go_sem]))
  have HA := Lib.hid hA
  have eAs := eA.symm
  clear h hA hA' eA
  go_enter Tryz.func5, Tryz.ntmps5
  go_wp2_with fail
  (with_reducible refine HN.out.mono ?_)
  rintro e w1 ⟨rfl, ⟨hh, hs⟩, hb⟩
  obtain ⟨cb, hcb⟩ : ∃ b, b = wA.heap.size := ⟨_, rfl⟩
  have HC1 := Lib.hid (show Cur wA.heap.size w1 cb (.slice a xs.length c) xs.length [] from by rw [hcb]; exact ⟨0, hh, Nat.zero_le _, hs⟩)
  rw [← hcb]
  have HX1 := Lib.hid hb
  have hz1 := hb.size
  clear hs hb HN eAs hcb
  have HL := Lib.hid (l14Bent_c (fun w' hb' => HK.out w' (HX1.out.trans hb')) HC1.out hz1)
  go_wp2_with fail
  (with_reducible refine HL.out.mono ?_)
  rintro e w2 ⟨v, l, rfl, hln, hc, hb⟩
  have hz2 := Nat.le_trans hz1 hb.size
  have hcl := hc.labOf hz2
  have HX2 := Lib.hid (HX1.out.trans hb)
  obtain ⟨ya, yc, rfl⟩ := hcl.labSlice
  obtain ⟨l0, l1, la⟩ := l
  obtain ⟨al, hal⟩ : ∃ n, n = la.length := ⟨_, rfl⟩
  simp only [← hal] at hcl ⊢
  have HC2 := Lib.hid hcl
  clear hal hln hc hb hcl HL HC1 HX1 hz1
  have HP := Lib.hid (l1Below_i (z := 5) (fun w' hb' => HK.out w' (HX2.out.trans hb')) HC2.out hz2 (by omega) (by omega))
  go_wp2_with fail
  (with_reducible refine HP.out.mono ?_)
  rintro e w3 ⟨q, rfl, hq, hc, hb, ho⟩
  have hq5 : q < 5 := hq
  have hz3 := Nat.le_trans hz2 hb.size
  have HX3 := Lib.hid (HX2.out.trans hb)
  have hcx := hc.box hz3 (([0, 0, 0, 0, 3, -5] : List Int).map (Value.int .i64)) 3
  obtain ⟨w4, e4⟩ : ∃ x, x = w3.alloc (.cells #[.int .i64 0, .int .i64 0, .int .i64 0, .int .i64 0, .int .i64 3, .int .i64 (-5)] 3) := ⟨_, rfl⟩
  have HC4 := Lib.hid (show Cur wA.heap.size w4 cb (.slice a xs.length c) xs.length (Res.box w3.heap.size (([0, 0, 0, 0, 3, -5] : List Int).map (Value.int .i64)) :: ResLb (.agg #[.int .i64 l0, .int .i64 l1, .slice ya al yc]) (l0, l1, la) :: []) from by rw [e4]; exact hcx)
  have hb4 : Below w3.heap.size w3 w4 := by rw [e4]; exact (Below.refl _ _).alloc (Nat.le_refl _) _
  have HX4 := Lib.hid (HX3.out.trans (hb4.mono hz3))
  have hz4 := Nat.le_trans hz3 hb4.size
  have HP2 := Lib.hid (show Calls Tryz.prog 36 #[.pointer (some ⟨cb, 0, none⟩), .slice (some ⟨w3.heap.size, 0, none⟩) 6 6] w4 _ from l1PickInt_c (ls := [0, 0, 0, 0, 3, -5]) (c := 6) (fun w' hb => HK.out w' (HX4.out.trans hb)) HC4.out hz4 (by decide) (by decide))
  have e4s := e4.symm
  clear hq hc hb ho hcx e4 hb4 HP HC2 HX2 HX3 hz2 hz3
  go_wp2_with fail
  (with_reducible refine HP2.out.mono ?_)
  rintro e wm ⟨y, rfl, hy, hc, hb, ho⟩
  have hy2 : -5 ≤ y ∧ y ≤ 3 := by
    simp only [List.mem_cons, List.not_mem_nil, or_false] at hy
    omega
  have hcm := hc.rest
  have HXn := Lib.hid (HX4.out.trans hb)
  obtain ⟨n, hn⟩ : ∃ n : Int, n = (q : Int) + y := ⟨_, rfl⟩
  have hn1 : (q : Int) + y = n := hn.symm
  have hn2 : IntKind.i64.wrap n = n := IntWalk.i64_in _ (by omega)
  have Hn := Lib.hid (show -5 ≤ n ∧ n ≤ 7 from by omega)
  clear hn hy hy2 hq5 hc hb ho e4s HP2 HC4 HX4 hz4
  have hRC := Cells.below' RC.out HXn.out z0
  have r0 := (hRC.2 0 _ rfl).1
  have r1 := (hRC.2 1 _ rfl).1
  have r2 := (hRC.2 2 _ rfl).1
  have f0 := (hRC.2 0 _ rfl).2
  have f1 := (hRC.2 1 _ rfl).2
  have f2 := (hRC.2 2 _ rfl).2
  obtain ⟨ws, ews⟩ : ∃ x, x = (((wm.setCell ⟨w.heap.size, 0, none⟩ (.int .i64 l0)).setCell ⟨w.heap.size, 1, none⟩ (.int .i64 l1)).setCell ⟨w.heap.size, 2, none⟩ (.slice ya al yc)) := ⟨_, rfl⟩
  have hRs : Cells ws (w.heap.size) [.int .i64 l0, .int .i64 l1, .slice ya al yc] := by rw [ews]; exact Cells.fill3 hRC _ _ _
  have hcs := Cur.fill3 hcm z0 (.int .i64 l0) (.int .i64 l1) (.slice ya al yc)
  change Cur _ (((wm.setCell ⟨w.heap.size, 0, none⟩ (.int .i64 l0)).setCell ⟨w.heap.size, 1, none⟩ (.int .i64 l1)).setCell ⟨w.heap.size, 2, none⟩ (.slice ya al yc)) _ _ _ _ at hcs
  rw [← ews] at hcs
  have hBs : Below w.heap.size w ws := by rw [ews]; exact (Below.fill3 (HA.out.trans (HXn.out.mono (Nat.le_of_lt z0))) (Nat.le_refl _) _ _ _)
  have Hews := Lib.hid ews
  clear ews
  have S0 := (hRs.2 0 _ rfl).1
  have S1 := (hRs.2 1 _ rfl).1
  have S2 := (hRs.2 2 _ rfl).1
  have HG := Lib.hid (show New OLab w.heap.size ws (.agg #[.int .i64 l0, .int .i64 l1, .slice ya al yc]) (l0, l1, la) from New.mono (hcs.out.headNew) (Nat.le_of_lt z0))
  have HBs := Lib.hid hBs
  clear hcs hBs
  go_wp2_with fail
  rw [← Hews.out]
  refine bodyPost_ret (v := .tuple #[.agg #[.int .i64 l0, .int .i64 l1, .slice ya al yc], .int .i64 n]) (by simp [results, Tryz.results5, go_sem, S0, S1, S2]) rfl ?_
  exact ⟨_, (l0, l1, la), n, rfl, HG.out, Hn.out, HBs.out⟩
set_option maxHeartbeats 8000000 in
set_option maxRecDepth 100000 in
theorem DrawReadFrom_c {w : World} {vc : Value} {xs : List Int} (h : BytR w vc xs) :
    Calls Tryz.prog 7 #[vc] w fun e w' => ∃ (v : Value) (l : Lb) (n : Int) (s : ByteArray), e = .returned (.tuple #[v, .int .i64 n, .string s]) ∧ New OLab w.heap.size w' v l ∧ ((-1 ≤ n ∧ n ≤ 16) ∧ s.size ≤ 6) ∧ Below w.heap.size w w' := by
  obtain ⟨wA, eA, hA⟩ : ∃ x, x = w.alloc (.cells #[.int .i64 0, .int .i64 0, .slice none 0 0] 26) ∧ Below w.heap.size w x := ⟨_, rfl, (Below.refl _ _).alloc (Nat.le_refl _) _⟩
  have hA' : BytR wA vc xs := BytR.frame _ _ _ _ h hA
  have HN := Lib.hid (l1New_c hA')
  have HK := Lib.hid (fun w' (hb : Below wA.heap.size wA w') => BytR.frame _ _ _ _ hA' hb)
  obtain ⟨a, c, rfl, -⟩ := h.cellsB
  have z0 : w.heap.size < wA.heap.size := by rw [eA]; simp
  have RC := Lib.hid (show Cells wA w.heap.size [.int .i64 0, .int .i64 0, .slice none 0 0] from by
    refine ⟨z0, fun j u hj => ?_⟩
    rcases j with _ | _ | _ | j <;> first | (simp at hj; done) | (simp at hj; subst hj; rw [eA]; simp [go_sem]))
  have HA := Lib.hid hA
  have eAs := eA.symm
  clear h hA hA' eA
  go_enter Tryz.func7, Tryz.ntmps7
  go_wp2_with fail
  (with_reducible refine HN.out.mono ?_)
  rintro e w1 ⟨rfl, ⟨hh, hs⟩, hb⟩
  obtain ⟨cb, hcb⟩ : ∃ b, b = wA.heap.size := ⟨_, rfl⟩
  have HC1 := Lib.hid (show Cur wA.heap.size w1 cb (.slice a xs.length c) xs.length [] from by rw [hcb]; exact ⟨0, hh, Nat.zero_le _, hs⟩)
  rw [← hcb]
  have HX1 := Lib.hid hb
  have hz1 := hb.size
  clear hs hb HN eAs hcb
  have HL := Lib.hid (l14Bent_c (fun w' hb' => HK.out w' (HX1.out.trans hb')) HC1.out hz1)
  go_wp2_with fail
  (with_reducible refine HL.out.mono ?_)
  rintro e w2 ⟨v, l, rfl, hln, hc, hb⟩
  have hz2 := Nat.le_trans hz1 hb.size
  have hcl := hc.labOf hz2
  have HX2 := Lib.hid (HX1.out.trans hb)
  obtain ⟨ya, yc, rfl⟩ := hcl.labSlice
  obtain ⟨l0, l1, la⟩ := l
  obtain ⟨al, hal⟩ : ∃ n, n = la.length := ⟨_, rfl⟩
  simp only [← hal] at hcl ⊢
  have HC2 := Lib.hid hcl
  clear hal hln hc hb hcl HL HC1 HX1 hz1
  obtain ⟨w3, e3, hb3, -, -, -, -⟩ := boxA3_ex w2 26 (.int .i64 l0) (.int .i64 l1) (.slice ya al yc)
  have hc3 := HC2.out.box hz2 [.int .i64 l0, .int .i64 l1, .slice ya al yc] 26
  rw [e3] at hc3
  have HC3 := Lib.hid hc3
  have HX3 := Lib.hid (HX2.out.trans (hb3.mono hz2))
  have hz3 := Nat.le_trans hz2 hb3.size
  have HE3 := Lib.hid e3
  clear hc3 hb3 e3
  obtain ⟨sb, hsb⟩ : ∃ b, b = w2.heap.size := ⟨_, rfl⟩
  rw [← hsb] at HC3
  have hwd : Below w3.heap.size w3 w3.drew := (Below.refl _ _).drew
  have HCd := Lib.hid (HC3.out.below hwd)
  have HXd := Lib.hid (HX3.out.trans (hwd.mono hz3))
  have hzd : wA.heap.size ≤ w3.drew.heap.size := Nat.le_trans hz3 hwd.size
  have hSd : w3.drew.cell? ⟨sb, 0, none⟩ = some (.int .i64 l0) ∧ w3.drew.cell? ⟨sb, 1, none⟩ = some (.int .i64 l1) ∧ w3.drew.cell? ⟨sb, 2, none⟩ = some (.slice ya al yc) := ⟨((HCd.out).out.headBox.2.2 0 _ rfl).1, ((HCd.out).out.headBox.2.2 1 _ rfl).1, ((HCd.out).out.headBox.2.2 2 _ rfl).1⟩
  have HP := Lib.hid (l1Below_i (z := 18) (fun w' hb' => HK.out w' (HXd.out.trans hb')) HCd.out hzd (by omega) (by omega))
  clear hwd HC3 HX3 HC2 HX2 hz2
  go_upto_region 3 with fail
  rw [HE3.out, ← hsb]
  clear HE3 hsb
  refine wp_region_L (fun w' => w'.cell? ⟨sb, 0, none⟩ = some (.int .i64 l0) ∧ w'.cell? ⟨sb, 1, none⟩ = some (.int .i64 l1) ∧ w'.cell? ⟨sb, 2, none⟩ = some (.slice ya al yc)) (by kernel_rfl) ?_
  refine wpAnyL_take 0 (v := ?_) rfl (by kernel_rfl) (by kernel_rfl) (by kernel_rfl) (by kernel_rfl) (fun _ _ _ h => h) (Or.inl ⟨by rfl, ?_⟩) hSd ?_
  rotate_left
  · (intro w hSw; (try dsimp only at hSw); go_simp) <;> (try with_reducible rfl)
  try simp only [Act.put, List.getElem_toArray, List.getElem_cons_zero, List.getElem_cons_succ, List.setIfInBounds_toArray, List.set_cons_zero, List.set_cons_succ]
  refine wpAnyL_take 1 (v := ?_) rfl (by kernel_rfl) (by kernel_rfl) (by kernel_rfl) (by kernel_rfl) (fun _ _ _ h => h) (Or.inl ⟨by rfl, ?_⟩) hSd ?_
  rotate_left
  · (intro w hSw; (try dsimp only at hSw); go_simp) <;> (try with_reducible rfl)
  try simp only [Act.put, List.getElem_toArray, List.getElem_cons_zero, List.getElem_cons_succ, List.setIfInBounds_toArray, List.set_cons_zero, List.set_cons_succ]
  refine wpAnyL_take 4 (v := ?_) rfl (by kernel_rfl) (by kernel_rfl) (by kernel_rfl) (by kernel_rfl) (fun _ _ _ h => h) (Or.inl ⟨by rfl, ?_⟩) hSd ?_
  rotate_left
  · (intro w hSw; (try dsimp only at hSw); go_simp) <;> (try with_reducible rfl)
  try simp only [Act.put, List.getElem_toArray, List.getElem_cons_zero, List.getElem_cons_succ, List.setIfInBounds_toArray, List.set_cons_zero, List.set_cons_succ]
  refine wpAnyL_one 2 (by kernel_rfl) rfl (fun K hK => ?_)
  go_simp
  (with_reducible refine HP.out.mono ?_)
  rintro e wu ⟨q, rfl, hq, hcu, hb, ho⟩
  have HXu := Lib.hid (HXd.out.trans hb)
  have hzu := Nat.le_trans hzd hb.size
  have hq18 : q < 18 := hq
  have hSu : wu.cell? ⟨sb, 0, none⟩ = some (.int .i64 l0) ∧ wu.cell? ⟨sb, 1, none⟩ = some (.int .i64 l1) ∧ wu.cell? ⟨sb, 2, none⟩ = some (.slice ya al yc) := ⟨((hcu).out.headBox.2.2 0 _ rfl).1, ((hcu).out.headBox.2.2 1 _ rfl).1, ((hcu).out.headBox.2.2 2 _ rfl).1⟩
  have HL := Lib.hid (show Calls Tryz.prog 41 #[.pointer (some ⟨cb, 0, none⟩), .int .i64 2, .int .i64 6] wu _ from l2Draw_c (kk := 2) (most := 6) (fun w' hb' => HK.out w' (HXu.out.trans hb')) hcu hzu (by omega) (by omega) (by omega))
  obtain ⟨n, hn⟩ : ∃ n : Int, n = (q : Int) - 1 := ⟨_, rfl⟩
  have hn1 : (q : Int) - 1 = n := hn.symm
  have hn2 : IntKind.i64.wrap n = n := IntWalk.i64_in _ (by omega)
  have Hn := Lib.hid (show -1 ≤ n ∧ n ≤ 16 from by omega)
  clear hn hq hb ho HP HCd HXd
  go_wp2_with fail
  refine hK.out _ _ (fun _ => hSu) ?_
  clear hK K
  try simp only [Act.put, List.getElem_toArray, List.getElem_cons_zero, List.getElem_cons_succ, List.setIfInBounds_toArray, List.set_cons_zero, List.set_cons_succ]
  refine wpAnyL_take 3 (v := ?_) rfl (by kernel_rfl) (by kernel_rfl) (by kernel_rfl) (by kernel_rfl) (fun _ _ _ h => h) (Or.inl ⟨by rfl, ?_⟩) hSu ?_
  rotate_left
  · (intro w hSw; (try dsimp only at hSw); go_simp) <;> (try with_reducible rfl)
  try simp only [Act.put, List.getElem_toArray, List.getElem_cons_zero, List.getElem_cons_succ, List.setIfInBounds_toArray, List.set_cons_zero, List.set_cons_succ]
  refine wpAnyL_one 5 (by kernel_rfl) rfl (fun K hK => ?_)
  go_simp
  (with_reducible refine HL.out.mono ?_)
  rintro e wm ⟨s, rfl, hs, hcm, hb, ho⟩
  have HXn := Lib.hid (HXu.out.trans hb)
  have hSm : wm.cell? ⟨sb, 0, none⟩ = some (.int .i64 l0) ∧ wm.cell? ⟨sb, 1, none⟩ = some (.int .i64 l1) ∧ wm.cell? ⟨sb, 2, none⟩ = some (.slice ya al yc) := ⟨((hcm).out.headBox.2.2 0 _ rfl).1, ((hcm).out.headBox.2.2 1 _ rfl).1, ((hcm).out.headBox.2.2 2 _ rfl).1⟩
  have Hs := Lib.hid hs
  clear hs hb ho HL HXu hcu hq18
  have hRC := Cells.below' RC.out HXn.out z0
  have r0 := (hRC.2 0 _ rfl).1
  have r1 := (hRC.2 1 _ rfl).1
  have r2 := (hRC.2 2 _ rfl).1
  have f0 := (hRC.2 0 _ rfl).2
  have f1 := (hRC.2 1 _ rfl).2
  have f2 := (hRC.2 2 _ rfl).2
  obtain ⟨ws, ews⟩ : ∃ x, x = (((wm.setCell ⟨w.heap.size, 0, none⟩ (.int .i64 l0)).setCell ⟨w.heap.size, 1, none⟩ (.int .i64 l1)).setCell ⟨w.heap.size, 2, none⟩ (.slice ya al yc)) := ⟨_, rfl⟩
  have hRs : Cells ws (w.heap.size) [.int .i64 l0, .int .i64 l1, .slice ya al yc] := by rw [ews]; exact Cells.fill3 hRC _ _ _
  have hcs := Cur.fill3 hcm z0 (.int .i64 l0) (.int .i64 l1) (.slice ya al yc)
  change Cur _ (((wm.setCell ⟨w.heap.size, 0, none⟩ (.int .i64 l0)).setCell ⟨w.heap.size, 1, none⟩ (.int .i64 l1)).setCell ⟨w.heap.size, 2, none⟩ (.slice ya al yc)) _ _ _ _ at hcs
  rw [← ews] at hcs
  have hBs : Below w.heap.size w ws := by rw [ews]; exact (Below.fill3 (HA.out.trans (HXn.out.mono (Nat.le_of_lt z0))) (Nat.le_refl _) _ _ _)
  have Hews := Lib.hid ews
  clear ews
  have hSs : ws.cell? ⟨sb, 0, none⟩ = some (.int .i64 l0) ∧ ws.cell? ⟨sb, 1, none⟩ = some (.int .i64 l1) ∧ ws.cell? ⟨sb, 2, none⟩ = some (.slice ya al yc) := ⟨((hcs).out.headBox.2.2 0 _ rfl).1, ((hcs).out.headBox.2.2 1 _ rfl).1, ((hcs).out.headBox.2.2 2 _ rfl).1⟩
  go_wp2_with fail
  refine hK.out _ _ (fun _ => hSm) ?_
  clear hK K
  try simp only [Act.put, List.getElem_toArray, List.getElem_cons_zero, List.getElem_cons_succ, List.setIfInBounds_toArray, List.set_cons_zero, List.set_cons_succ]
  refine wpAnyL_one 6 (by kernel_rfl) rfl (fun K hK => ?_)
  go_simp
  rw [← Hews.out]
  refine hK.out _ _ (fun _ => hSs) ?_
  clear hK K
  try simp only [Act.put, List.getElem_toArray, List.getElem_cons_zero, List.getElem_cons_succ, List.setIfInBounds_toArray, List.set_cons_zero, List.set_cons_succ]
  refine wpAnyL_one 7 (by kernel_rfl) rfl (fun K hK => ?_)
  go_simp
  refine hK.out _ _ (fun _ => hSs) ?_
  clear hK K
  try simp only [Act.put, List.getElem_toArray, List.getElem_cons_zero, List.getElem_cons_succ, List.setIfInBounds_toArray, List.set_cons_zero, List.set_cons_succ]
  refine wpAnyL_one 8 (by kernel_rfl) rfl (fun K hK => ?_)
  go_simp
  refine hK.out _ _ (fun h => absurd h (not_rem (by kernel_rfl))) ?_
  clear hK K
  try simp only [Act.put, List.getElem_toArray, List.getElem_cons_zero, List.getElem_cons_succ, List.setIfInBounds_toArray, List.set_cons_zero, List.set_cons_succ]
  refine wpAnyL_done (by kernel_rfl) ?_ _
  have S0 := (hRs.2 0 _ rfl).1
  have S1 := (hRs.2 1 _ rfl).1
  have S2 := (hRs.2 2 _ rfl).1
  have HG := Lib.hid (show New OLab w.heap.size ws (.agg #[.int .i64 l0, .int .i64 l1, .slice ya al yc]) (l0, l1, la) from New.mono (hcs.rest.out.headNew) (Nat.le_of_lt z0))
  have HBs := Lib.hid hBs
  clear hcs hBs
  go_wp2_with fail
  refine bodyPost_ret (v := .tuple #[.agg #[.int .i64 l0, .int .i64 l1, .slice ya al yc], .int .i64 n, .string s]) (by simp [results, Tryz.results7, go_sem, S0, S1, S2]) rfl ?_
  exact ⟨_, (l0, l1, la), n, s, rfl, HG.out, ⟨Hn.out, Hs.out⟩, HBs.out⟩
end Go.Proofs.YtcilgihmaaobeaaGreatDoor
end
