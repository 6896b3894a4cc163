/-
  Texts of this claim joined: laws for its walks, contracts of the functions that the law reaches.
-/
import Derived.Test.YtcilgihmaaobeaaFnResolvedM19
import Derived.Test.YtcilgihmaaobeaaFnResolvedM20
import Derived.Test.YtcilgihmaaobeaaFnResolvedM8
set_option linter.unusedVariables false
set_option linter.unusedSimpArgs false
section
namespace Go.Proofs.Ytcilgihmaaobeaa
open Go.RowKit Go.Deep Go.Sd
set_option linter.unusedSimpArgs false
theorem Cells.below' {w w' : World} {b B : Nat} {vs : List Value} (h : Cells w b vs) (hb : Below B w w') (hB : b < B) : Cells w' b vs :=
  ⟨Nat.lt_of_lt_of_le h.1 hb.size, fun j u hu => ⟨(hb.cell (p := ⟨b, j, none⟩) hB).trans (h.2 j u hu).1, (hb.frozen (p := ⟨b, j, none⟩) hB).trans (h.2 j u hu).2⟩⟩
theorem Cells.other' {w : World} {b c j : Nat} {vs : List Value} (h : Cells w b vs) (hne : b ≠ c) (u : Value) : Cells (w.setCell ⟨c, j, none⟩ u) b vs :=
  h.same (Below.heap_setCell _ _ _ _ (fun e => hne e))
theorem Sep.storeLow {lo : Nat} {w : World} {rs : List Res} (h : Sep lo w rs) {p : Addr} (hp : p.block < lo) (u : Value) : Sep lo (w.setCell p u) rs := by
  obtain ⟨F, h1, hn, hl⟩ := h
  exact ⟨F, h1.keep (fun b hb => Below.heap_setCell _ _ _ _ (fun e => by have := hl b hb; omega)), hn, hl⟩
theorem Cur.storeLow {lo : Nat} {w : World} {cb : Nat} {K : Value} {n : Nat} {rs : List Res} (h : Cur lo w cb K n rs) {p : Addr} (hp : p.block < lo) (u : Value) : Cur lo (w.setCell p u) cb K n rs := by
  obtain ⟨i, x, hi, hs⟩ := h
  exact ⟨i, x, hi, Sep.storeLow hs hp u⟩
/-- A box of three cells filled anew. -/
abbrev fill3 (w : World) (b : Nat) (u0 u1 u2 : Value) : World := ((w.setCell ⟨b, 0, none⟩ u0).setCell ⟨b, 1, none⟩ u1).setCell ⟨b, 2, none⟩ u2
theorem Cells.fill3 {w : World} {b : Nat} {x0 x1 x2 : Value} (h : Cells w b [x0, x1, x2]) (u0 u1 u2 : Value) : Cells (fill3 w b u0 u1 u2) b [u0, u1, u2] := ((h.store (j := 0) rfl u0).store (j := 1) rfl u1).store (j := 2) rfl u2
theorem Cells.fill3' {w : World} {b c : Nat} {vs : List Value} (h : Cells w b vs) (hne : b ≠ c) (u0 u1 u2 : Value) : Cells (Go.Proofs.Ytcilgihmaaobeaa.fill3 w c u0 u1 u2) b vs := Cells.other' (Cells.other' (Cells.other' h hne u0) hne u1) hne u2
theorem Cur.fill3 {lo : Nat} {w : World} {cb : Nat} {K : Value} {n : Nat} {rs : List Res} (h : Cur lo w cb K n rs) {b : Nat} (hb : b < lo) (u0 u1 u2 : Value) : Cur lo (Go.Proofs.Ytcilgihmaaobeaa.fill3 w b u0 u1 u2) cb K n rs := Cur.storeLow (Cur.storeLow (Cur.storeLow h (p := ⟨b, 0, none⟩) hb u0) (p := ⟨b, 1, none⟩) hb u1) (p := ⟨b, 2, none⟩) hb u2
theorem Below.fill3 {B : Nat} {w0 w : World} (h : Below B w0 w) {b : Nat} (hb : B ≤ b) (u0 u1 u2 : Value) : Below B w0 (Go.Proofs.Ytcilgihmaaobeaa.fill3 w b u0 u1 u2) := ((h.setCell (p := ⟨b, 0, none⟩) hb u0).setCell (p := ⟨b, 1, none⟩) hb u1).setCell (p := ⟨b, 2, none⟩) hb u2
set_option maxHeartbeats 8000000 in
set_option maxRecDepth 100000 in
theorem DrawReadSame_c {w : World} {vc : Value} {xs : List Int} (h : BytR w vc xs) :
    Calls Try.prog 12 #[vc] w fun e w' => ∃ (v1 v2 : Value) (a b : Lb), e = .returned (.tuple #[v1, v2]) ∧ LabR w' v1 a ∧ LabR w' v2 b ∧ Below w.heap.size w w' := by
  obtain ⟨wA, eA, hA⟩ : ∃ x, x = (w.alloc (.cells #[.int .i64 0, .int .i64 0, .slice none 0 0] 26)).alloc (.cells #[.int .i64 0, .int .i64 0, .slice none 0 0] 26) ∧ Below w.heap.size w x := ⟨_, rfl, ((Below.refl _ _).alloc (Nat.le_refl _) _).alloc (by simp) _⟩
  have hA' : BytR wA vc xs := BytR.frame _ _ _ _ h hA
  have HN := Lib.hid (l1New_c hA')
  have HK0 := Lib.hid (fun w' (hb : Below w.heap.size w w') => BytR.frame _ _ _ _ h hb)
  obtain ⟨a, c, rfl, -⟩ := h.cellsB
  have z1 : w.heap.size + 1 < wA.heap.size := by rw [eA]; simp
  have z0 : w.heap.size < wA.heap.size := by omega
  have RC := Lib.hid (show Cells wA w.heap.size [.int .i64 0, .int .i64 0, .slice none 0 0] from by
    refine ⟨z0, fun j u hj => ?_⟩
    rcases j with _ | _ | _ | j <;> first | (simp at hj; done) | (simp at hj; subst hj; rw [eA]; simp [go_sem]))
  have QC := Lib.hid (show Cells wA (w.heap.size + 1) [.int .i64 0, .int .i64 0, .slice none 0 0] from by
    refine ⟨z1, fun j u hj => ?_⟩
    rcases j with _ | _ | _ | j <;> first | (simp at hj; done) | (simp at hj; subst hj; rw [eA]; simp [go_sem]))
  have HA := Lib.hid hA
  have HK := Lib.hid (fun w' (hb : Below wA.heap.size wA w') => HK0.out w' (HA.out.trans (hb.mono (Nat.le_of_lt z0))))
  have eAs := eA.symm
  clear h hA hA' eA
  go_enter Try.func12, Try.ntmps12
  go_wp2_with fail
  (with_reducible refine HN.out.mono ?_)
  rintro e w1 ⟨rfl, ⟨hh, hs⟩, hb⟩
  obtain ⟨cb, hcb⟩ : ∃ b, b = wA.heap.size := ⟨_, rfl⟩
  have HC1 := Lib.hid (show Cur wA.heap.size w1 cb (.slice a xs.length c) xs.length [] from by rw [hcb]; exact ⟨0, hh, Nat.zero_le _, hs⟩)
  rw [← hcb]
  have HX1 := Lib.hid hb
  have hz1 := hb.size
  clear hs hb HN eAs hcb
  have HL := Lib.hid (l14Bent_c (fun w' hb' => HK.out w' (HX1.out.trans hb')) HC1.out hz1)
  go_wp2_with fail
  (with_reducible refine HL.out.mono ?_)
  rintro e w2 ⟨v, l, rfl, hln, hc, hb⟩
  have hz2 := Nat.le_trans hz1 hb.size
  have hcl := hc.labOf hz2
  have HX2 := Lib.hid (HX1.out.trans hb)
  obtain ⟨ya, yc, rfl⟩ := hcl.labSlice
  obtain ⟨l0, l1, la⟩ := l
  obtain ⟨al, hal⟩ : ∃ n, n = la.length := ⟨_, rfl⟩
  simp only [← hal] at hcl ⊢
  obtain ⟨w3, e3, hb3, -, -, -, -⟩ := boxA3_ex w2 26 (.int .i64 l0) (.int .i64 l1) (.slice ya al yc)
  have hc3 := hcl.box hz2 [.int .i64 l0, .int .i64 l1, .slice ya al yc] 26
  rw [e3] at hc3
  have HC3 := Lib.hid hc3
  have HX3 := Lib.hid (HX2.out.trans (hb3.mono hz2))
  have hz3 := Nat.le_trans hz2 hb3.size
  have HE3 := Lib.hid e3
  clear hc3 hb3 e3
  have HR := Lib.hid (spec_ResolveLabels_c HC3.out.rest.labR)
  generalize rslV (l0, l1, la) = x at HR
  generalize rslOk (l0, l1, la) = ok at HR
  clear hal hln hc hb hcl HL HC1 HX1 HX2 hz1 hz2
  go_wp2_with fail
  rw [HE3.out]
  (with_reducible refine HR.out.mono ?_)
  rintro e w4 ⟨vx, rfl, hn, hb⟩
  obtain ⟨sb, hsb⟩ : ∃ b, b = w2.heap.size := ⟨_, rfl⟩
  rw [← hsb] at HC3 ⊢
  have hz4 := Nat.le_trans hz3 hb.size
  have hc4 := HC3.out.new OLab.held hb hz3 hn
  have HX4 := Lib.hid (HX3.out.trans (hb.mono hz3))
  obtain ⟨za, zc, rfl⟩ := hc4.labSlice
  obtain ⟨x0, x1, xa⟩ := x
  obtain ⟨xl, hxl⟩ : ∃ n, n = xa.length := ⟨_, rfl⟩
  simp only [← hxl] at hc4 ⊢
  obtain ⟨w5, e5, hb5, -, -, -, -⟩ := boxA3_ex w4 26 (.int .i64 x0) (.int .i64 x1) (.slice za xl zc)
  have hc5 := hc4.box hz4 [.int .i64 x0, .int .i64 x1, .slice za xl zc] 26
  rw [e5] at hc5
  have HC5 := Lib.hid hc5
  have HX5 := Lib.hid (HX4.out.trans (hb5.mono hz4))
  have hz5 := Nat.le_trans hz4 hb5.size
  have HE5 := Lib.hid e5
  clear hc5 hb5 e5
  clear hn hb hc4 hxl hsb HE3 HR HC3 HX3 HX4 hz3 hz4
  cases ok with
  | false =>
    go_wp2_with fail
    rw [HE5.out]
    obtain ⟨tb, htb⟩ : ∃ b, b = w4.heap.size := ⟨_, rfl⟩
    rw [← htb] at HC5 ⊢
    clear HE5 htb
    have hwd : Below w5.heap.size w5 w5.drew := (Below.refl _ _).drew
    have HCd := Lib.hid (HC5.out.below hwd)
    have HXd := Lib.hid (HX5.out.trans (hwd.mono hz5))
    have hzd : wA.heap.size ≤ w5.drew.heap.size := Nat.le_trans hz5 hwd.size
    have hSd : w5.drew.cell? ⟨sb, 0, none⟩ = some (.int .i64 l0) ∧ w5.drew.cell? ⟨sb, 1, none⟩ = some (.int .i64 l1) ∧ w5.drew.cell? ⟨sb, 2, none⟩ = some (.slice ya al yc) := ⟨((HCd.out.rest.rest).out.headBox.2.2 0 _ rfl).1, ((HCd.out.rest.rest).out.headBox.2.2 1 _ rfl).1, ((HCd.out.rest.rest).out.headBox.2.2 2 _ rfl).1⟩
    have HL := Lib.hid (l14Bent_c (fun w' hb' => HK.out w' (HXd.out.trans hb')) HCd.out hzd)
    clear hwd HC5 HX5
    go_wp2_with fail
    refine wp_region_L (fun w' => w'.cell? ⟨sb, 0, none⟩ = some (.int .i64 l0) ∧ w'.cell? ⟨sb, 1, none⟩ = some (.int .i64 l1) ∧ w'.cell? ⟨sb, 2, none⟩ = some (.slice ya al yc)) (by kernel_rfl) ?_
    refine wpAnyL_take 0 (v := ?_) rfl (by kernel_rfl) (by kernel_rfl) (by kernel_rfl) (by kernel_rfl) (fun _ _ _ h => h) (Or.inl ⟨by rfl, ?_⟩) hSd ?_
    rotate_left
    · (intro w hSw; (try dsimp only at hSw); go_simp) <;> (try with_reducible rfl)
    try simp only [Act.put, List.getElem_toArray, List.getElem_cons_zero, List.getElem_cons_succ, List.setIfInBounds_toArray, List.set_cons_zero, List.set_cons_succ]
    refine wpAnyL_take 1 (v := ?_) rfl (by kernel_rfl) (by kernel_rfl) (by kernel_rfl) (by kernel_rfl) (fun _ _ _ h => h) (Or.inl ⟨by rfl, ?_⟩) hSd ?_
    rotate_left
    · (intro w hSw; (try dsimp only at hSw); go_simp) <;> (try with_reducible rfl)
    try simp only [Act.put, List.getElem_toArray, List.getElem_cons_zero, List.getElem_cons_succ, List.setIfInBounds_toArray, List.set_cons_zero, List.set_cons_succ]
    refine wpAnyL_one 2 (by kernel_rfl) rfl (fun K hK => ?_)
    go_simp
    (with_reducible refine HL.out.mono ?_)
    rintro e wm ⟨vm, m, rfl, hlm, hc, hb⟩
    have hzm := Nat.le_trans hzd hb.size
    have hcm := hc.labOf hzm
    have HXn := Lib.hid (HXd.out.trans hb)
    obtain ⟨va, ml', rfl⟩ := hcm.labSlice
    obtain ⟨m0, m1, ma⟩ := m
    obtain ⟨ml, hml⟩ : ∃ n, n = ma.length := ⟨_, rfl⟩
    simp only [← hml] at hcm ⊢
    have hSm : wm.cell? ⟨sb, 0, none⟩ = some (.int .i64 l0) ∧ wm.cell? ⟨sb, 1, none⟩ = some (.int .i64 l1) ∧ wm.cell? ⟨sb, 2, none⟩ = some (.slice ya al yc) := ⟨((hcm.rest.rest.rest).out.headBox.2.2 0 _ rfl).1, ((hcm.rest.rest.rest).out.headBox.2.2 1 _ rfl).1, ((hcm.rest.rest.rest).out.headBox.2.2 2 _ rfl).1⟩
    have hRC := Cells.below' RC.out HXn.out z0
    have hQC := Cells.below' QC.out HXn.out z1
    clear hml hlm hc hb HL HCd HXd
    have r0 := (hRC.2 0 _ rfl).1
    have r1 := (hRC.2 1 _ rfl).1
    have r2 := (hRC.2 2 _ rfl).1
    have f0 := (hRC.2 0 _ rfl).2
    have f1 := (hRC.2 1 _ rfl).2
    have f2 := (hRC.2 2 _ rfl).2
    obtain ⟨ws, ews⟩ : ∃ x, x = (((wm.setCell ⟨w.heap.size, 0, none⟩ (.int .i64 l0)).setCell ⟨w.heap.size, 1, none⟩ (.int .i64 l1)).setCell ⟨w.heap.size, 2, none⟩ (.slice ya al yc)) := ⟨_, rfl⟩
    have hRs : Cells ws (w.heap.size) [.int .i64 l0, .int .i64 l1, .slice ya al yc] := by rw [ews]; exact Cells.fill3 hRC _ _ _
    have hQs : Cells ws (w.heap.size + 1) [.int .i64 0, .int .i64 0, .slice none 0 0] := by rw [ews]; exact Cells.fill3' hQC (by omega) _ _ _
    have hcs := Cur.fill3 hcm z0 (.int .i64 l0) (.int .i64 l1) (.slice ya al yc)
    change Cur _ (((wm.setCell ⟨w.heap.size, 0, none⟩ (.int .i64 l0)).setCell ⟨w.heap.size, 1, none⟩ (.int .i64 l1)).setCell ⟨w.heap.size, 2, none⟩ (.slice ya al yc)) _ _ _ _ at hcs
    rw [← ews] at hcs
    have q0 := (hQs.2 0 _ rfl).1
    have q1 := (hQs.2 1 _ rfl).1
    have q2 := (hQs.2 2 _ rfl).1
    have g0 := (hQs.2 0 _ rfl).2
    have g1 := (hQs.2 1 _ rfl).2
    have g2 := (hQs.2 2 _ rfl).2
    have hBs : Below w.heap.size w ws := by rw [ews]; exact (Below.fill3 (HA.out.trans (HXn.out.mono (Nat.le_of_lt z0))) (Nat.le_refl _) _ _ _)
    have Hews := Lib.hid ews
    clear ews
    have hSs : ws.cell? ⟨sb, 0, none⟩ = some (.int .i64 l0) ∧ ws.cell? ⟨sb, 1, none⟩ = some (.int .i64 l1) ∧ ws.cell? ⟨sb, 2, none⟩ = some (.slice ya al yc) := ⟨((hcs.rest.rest.rest).out.headBox.2.2 0 _ rfl).1, ((hcs.rest.rest.rest).out.headBox.2.2 1 _ rfl).1, ((hcs.rest.rest.rest).out.headBox.2.2 2 _ rfl).1⟩
    go_wp2_with fail
    refine hK.out _ _ (fun _ => hSm) ?_
    clear hK K
    try simp only [Act.put, List.getElem_toArray, List.getElem_cons_zero, List.getElem_cons_succ, List.setIfInBounds_toArray, List.set_cons_zero, List.set_cons_succ]
    refine wpAnyL_one 3 (by kernel_rfl) rfl (fun K hK => ?_)
    go_simp
    rw [← Hews.out]
    refine hK.out _ _ (fun _ => hSs) ?_
    clear hK K
    try simp only [Act.put, List.getElem_toArray, List.getElem_cons_zero, List.getElem_cons_succ, List.setIfInBounds_toArray, List.set_cons_zero, List.set_cons_succ]
    refine wpAnyL_one 4 (by kernel_rfl) rfl (fun K hK => ?_)
    go_simp
    refine hK.out _ _ (fun h => absurd h (not_rem (by kernel_rfl))) ?_
    clear hK K
    try simp only [Act.put, List.getElem_toArray, List.getElem_cons_zero, List.getElem_cons_succ, List.setIfInBounds_toArray, List.set_cons_zero, List.set_cons_succ]
    refine wpAnyL_done (by kernel_rfl) ?_ _
    have hRt : Cells (((ws.setCell ⟨w.heap.size + 1, 0, none⟩ (.int .i64 m0)).setCell ⟨w.heap.size + 1, 1, none⟩ (.int .i64 m1)).setCell ⟨w.heap.size + 1, 2, none⟩ (.slice va ml ml')) (w.heap.size) [.int .i64 l0, .int .i64 l1, .slice ya al yc] := Cells.fill3' hRs (by omega) _ _ _
    have hQt : Cells (((ws.setCell ⟨w.heap.size + 1, 0, none⟩ (.int .i64 m0)).setCell ⟨w.heap.size + 1, 1, none⟩ (.int .i64 m1)).setCell ⟨w.heap.size + 1, 2, none⟩ (.slice va ml ml')) (w.heap.size + 1) [.int .i64 m0, .int .i64 m1, .slice va ml ml'] := Cells.fill3 hQs _ _ _
    have hct : Cur wA.heap.size (((ws.setCell ⟨w.heap.size + 1, 0, none⟩ (.int .i64 m0)).setCell ⟨w.heap.size + 1, 1, none⟩ (.int .i64 m1)).setCell ⟨w.heap.size + 1, 2, none⟩ (.slice va ml ml')) cb (.slice a xs.length c) xs.length _ := Cur.fill3 hcs z1 _ _ _
    have S0 := (hRt.2 0 _ rfl).1
    have S1 := (hRt.2 1 _ rfl).1
    have S2 := (hRt.2 2 _ rfl).1
    have T0 := (hQt.2 0 _ rfl).1
    have T1 := (hQt.2 1 _ rfl).1
    have T2 := (hQt.2 2 _ rfl).1
    go_wp2_with fail
    refine bodyPost_ret (v := .tuple #[.agg #[.int .i64 l0, .int .i64 l1, .slice ya al yc], .agg #[.int .i64 m0, .int .i64 m1, .slice va ml ml']]) (by simp [results, Try.results12, go_sem, S0, S1, S2, T0, T1, T2]) rfl ?_
    exact ⟨_, _, (l0, l1, la), (m0, m1, ma), rfl, hct.rest.rest.rest.rest.labR, hct.labR, Below.fill3 hBs (by omega) _ _ _⟩
  | true =>
    have HO := Lib.hid (l1Once_i (z := 2) (fun w' hb' => HK.out w' (HX5.out.trans hb')) HC5.out hz5 (by omega) (by omega))
    go_wp2_with fail
    rw [HE5.out]
    (with_reducible refine HO.out.mono ?_)
    rintro e w6 ⟨b, rfl, hc, hb, ho⟩
    obtain ⟨tb, htb⟩ : ∃ b, b = w4.heap.size := ⟨_, rfl⟩
    rw [← htb] at hc ⊢
    have HC6 := Lib.hid hc
    have HX6 := Lib.hid (HX5.out.trans hb)
    have hz6 := Nat.le_trans hz5 hb.size
    clear hc hb ho HO HE5 HC5 HX5 hz5 htb
    cases b with
    | false =>
      have hwd : Below w6.heap.size w6 w6.drew := (Below.refl _ _).drew
      have HCd := Lib.hid (HC6.out.below hwd)
      have HXd := Lib.hid (HX6.out.trans (hwd.mono hz6))
      have hzd : wA.heap.size ≤ w6.drew.heap.size := Nat.le_trans hz6 hwd.size
      have hSd : w6.drew.cell? ⟨sb, 0, none⟩ = some (.int .i64 l0) ∧ w6.drew.cell? ⟨sb, 1, none⟩ = some (.int .i64 l1) ∧ w6.drew.cell? ⟨sb, 2, none⟩ = some (.slice ya al yc) := ⟨((HCd.out.rest.rest).out.headBox.2.2 0 _ rfl).1, ((HCd.out.rest.rest).out.headBox.2.2 1 _ rfl).1, ((HCd.out.rest.rest).out.headBox.2.2 2 _ rfl).1⟩
      have HL := Lib.hid (l14Bent_c (fun w' hb' => HK.out w' (HXd.out.trans hb')) HCd.out hzd)
      clear hwd HC6 HX6
      go_wp2_with fail
      refine wp_region_L (fun w' => w'.cell? ⟨sb, 0, none⟩ = some (.int .i64 l0) ∧ w'.cell? ⟨sb, 1, none⟩ = some (.int .i64 l1) ∧ w'.cell? ⟨sb, 2, none⟩ = some (.slice ya al yc)) (by kernel_rfl) ?_
      refine wpAnyL_take 0 (v := ?_) rfl (by kernel_rfl) (by kernel_rfl) (by kernel_rfl) (by kernel_rfl) (fun _ _ _ h => h) (Or.inl ⟨by rfl, ?_⟩) hSd ?_
      rotate_left
      · (intro w hSw; (try dsimp only at hSw); go_simp) <;> (try with_reducible rfl)
      try simp only [Act.put, List.getElem_toArray, List.getElem_cons_zero, List.getElem_cons_succ, List.setIfInBounds_toArray, List.set_cons_zero, List.set_cons_succ]
      refine wpAnyL_take 1 (v := ?_) rfl (by kernel_rfl) (by kernel_rfl) (by kernel_rfl) (by kernel_rfl) (fun _ _ _ h => h) (Or.inl ⟨by rfl, ?_⟩) hSd ?_
      rotate_left
      · (intro w hSw; (try dsimp only at hSw); go_simp) <;> (try with_reducible rfl)
      try simp only [Act.put, List.getElem_toArray, List.getElem_cons_zero, List.getElem_cons_succ, List.setIfInBounds_toArray, List.set_cons_zero, List.set_cons_succ]
      refine wpAnyL_one 2 (by kernel_rfl) rfl (fun K hK => ?_)
      go_simp
      (with_reducible refine HL.out.mono ?_)
      rintro e wm ⟨vm, m, rfl, hlm, hc, hb⟩
      have hzm := Nat.le_trans hzd hb.size
      have hcm := hc.labOf hzm
      have HXn := Lib.hid (HXd.out.trans hb)
      obtain ⟨va, ml', rfl⟩ := hcm.labSlice
      obtain ⟨m0, m1, ma⟩ := m
      obtain ⟨ml, hml⟩ : ∃ n, n = ma.length := ⟨_, rfl⟩
      simp only [← hml] at hcm ⊢
      have hSm : wm.cell? ⟨sb, 0, none⟩ = some (.int .i64 l0) ∧ wm.cell? ⟨sb, 1, none⟩ = some (.int .i64 l1) ∧ wm.cell? ⟨sb, 2, none⟩ = some (.slice ya al yc) := ⟨((hcm.rest.rest.rest).out.headBox.2.2 0 _ rfl).1, ((hcm.rest.rest.rest).out.headBox.2.2 1 _ rfl).1, ((hcm.rest.rest.rest).out.headBox.2.2 2 _ rfl).1⟩
      have hRC := Cells.below' RC.out HXn.out z0
      have hQC := Cells.below' QC.out HXn.out z1
      clear hml hlm hc hb HL HCd HXd
      have r0 := (hRC.2 0 _ rfl).1
      have r1 := (hRC.2 1 _ rfl).1
      have r2 := (hRC.2 2 _ rfl).1
      have f0 := (hRC.2 0 _ rfl).2
      have f1 := (hRC.2 1 _ rfl).2
      have f2 := (hRC.2 2 _ rfl).2
      obtain ⟨ws, ews⟩ : ∃ x, x = (((wm.setCell ⟨w.heap.size, 0, none⟩ (.int .i64 l0)).setCell ⟨w.heap.size, 1, none⟩ (.int .i64 l1)).setCell ⟨w.heap.size, 2, none⟩ (.slice ya al yc)) := ⟨_, rfl⟩
      have hRs : Cells ws (w.heap.size) [.int .i64 l0, .int .i64 l1, .slice ya al yc] := by rw [ews]; exact Cells.fill3 hRC _ _ _
      have hQs : Cells ws (w.heap.size + 1) [.int .i64 0, .int .i64 0, .slice none 0 0] := by rw [ews]; exact Cells.fill3' hQC (by omega) _ _ _
      have hcs := Cur.fill3 hcm z0 (.int .i64 l0) (.int .i64 l1) (.slice ya al yc)
      change Cur _ (((wm.setCell ⟨w.heap.size, 0, none⟩ (.int .i64 l0)).setCell ⟨w.heap.size, 1, none⟩ (.int .i64 l1)).setCell ⟨w.heap.size, 2, none⟩ (.slice ya al yc)) _ _ _ _ at hcs
      rw [← ews] at hcs
      have q0 := (hQs.2 0 _ rfl).1
      have q1 := (hQs.2 1 _ rfl).1
      have q2 := (hQs.2 2 _ rfl).1
      have g0 := (hQs.2 0 _ rfl).2
      have g1 := (hQs.2 1 _ rfl).2
      have g2 := (hQs.2 2 _ rfl).2
      have hBs : Below w.heap.size w ws := by rw [ews]; exact (Below.fill3 (HA.out.trans (HXn.out.mono (Nat.le_of_lt z0))) (Nat.le_refl _) _ _ _)
      have Hews := Lib.hid ews
      clear ews
      have hSs : ws.cell? ⟨sb, 0, none⟩ = some (.int .i64 l0) ∧ ws.cell? ⟨sb, 1, none⟩ = some (.int .i64 l1) ∧ ws.cell? ⟨sb, 2, none⟩ = some (.slice ya al yc) := ⟨((hcs.rest.rest.rest).out.headBox.2.2 0 _ rfl).1, ((hcs.rest.rest.rest).out.headBox.2.2 1 _ rfl).1, ((hcs.rest.rest.rest).out.headBox.2.2 2 _ rfl).1⟩
      go_wp2_with fail
      refine hK.out _ _ (fun _ => hSm) ?_
      clear hK K
      try simp only [Act.put, List.getElem_toArray, List.getElem_cons_zero, List.getElem_cons_succ, List.setIfInBounds_toArray, List.set_cons_zero, List.set_cons_succ]
      refine wpAnyL_one 3 (by kernel_rfl) rfl (fun K hK => ?_)
      go_simp
      rw [← Hews.out]
      refine hK.out _ _ (fun _ => hSs) ?_
      clear hK K
      try simp only [Act.put, List.getElem_toArray, List.getElem_cons_zero, List.getElem_cons_succ, List.setIfInBounds_toArray, List.set_cons_zero, List.set_cons_succ]
      refine wpAnyL_one 4 (by kernel_rfl) rfl (fun K hK => ?_)
      go_simp
      refine hK.out _ _ (fun h => absurd h (not_rem (by kernel_rfl))) ?_
      clear hK K
      try simp only [Act.put, List.getElem_toArray, List.getElem_cons_zero, List.getElem_cons_succ, List.setIfInBounds_toArray, List.set_cons_zero, List.set_cons_succ]
      refine wpAnyL_done (by kernel_rfl) ?_ _
      have hRt : Cells (((ws.setCell ⟨w.heap.size + 1, 0, none⟩ (.int .i64 m0)).setCell ⟨w.heap.size + 1, 1, none⟩ (.int .i64 m1)).setCell ⟨w.heap.size + 1, 2, none⟩ (.slice va ml ml')) (w.heap.size) [.int .i64 l0, .int .i64 l1, .slice ya al yc] := Cells.fill3' hRs (by omega) _ _ _
      have hQt : Cells (((ws.setCell ⟨w.heap.size + 1, 0, none⟩ (.int .i64 m0)).setCell ⟨w.heap.size + 1, 1, none⟩ (.int .i64 m1)).setCell ⟨w.heap.size + 1, 2, none⟩ (.slice va ml ml')) (w.heap.size + 1) [.int .i64 m0, .int .i64 m1, .slice va ml ml'] := Cells.fill3 hQs _ _ _
      have hct : Cur wA.heap.size (((ws.setCell ⟨w.heap.size + 1, 0, none⟩ (.int .i64 m0)).setCell ⟨w.heap.size + 1, 1, none⟩ (.int .i64 m1)).setCell ⟨w.heap.size + 1, 2, none⟩ (.slice va ml ml')) cb (.slice a xs.length c) xs.length _ := Cur.fill3 hcs z1 _ _ _
      have S0 := (hRt.2 0 _ rfl).1
      have S1 := (hRt.2 1 _ rfl).1
      have S2 := (hRt.2 2 _ rfl).1
      have T0 := (hQt.2 0 _ rfl).1
      have T1 := (hQt.2 1 _ rfl).1
      have T2 := (hQt.2 2 _ rfl).1
      go_wp2_with fail
      refine bodyPost_ret (v := .tuple #[.agg #[.int .i64 l0, .int .i64 l1, .slice ya al yc], .agg #[.int .i64 m0, .int .i64 m1, .slice va ml ml']]) (by simp [results, Try.results12, go_sem, S0, S1, S2, T0, T1, T2]) rfl ?_
      exact ⟨_, _, (l0, l1, la), (m0, m1, ma), rfl, hct.rest.rest.rest.rest.labR, hct.labR, Below.fill3 hBs (by omega) _ _ _⟩
    | true =>
      have HS := Lib.hid (spec_SmallestLabels_c HC6.out.rest.labR)
      generalize smV (x0, x1, xa) = y at HS
      generalize resolvM (x0, x1, xa) = fine at HS
      obtain ⟨-, -, hcB⟩ := HC6.out.out.headBox
      have k0 := (hcB 0 _ rfl).1
      have k1 := (hcB 1 _ rfl).1
      have k2 := (hcB 2 _ rfl).1
      clear hcB
      go_wp2_with fail
      (with_reducible refine HS.out.mono ?_)
      rintro e w7 ⟨vy, rfl, hn, hb⟩
      have hz7 := Nat.le_trans hz6 hb.size
      have hc7 := HC6.out.new OLab.held hb hz6 hn
      have HX7 := Lib.hid (HX6.out.trans (hb.mono hz6))
      obtain ⟨ua, uc, rfl⟩ := hc7.labSlice
      obtain ⟨y0, y1, ya'⟩ := y
      obtain ⟨ul, hul⟩ : ∃ n, n = ya'.length := ⟨_, rfl⟩
      simp only [← hul] at hc7 ⊢
      obtain ⟨w8, e8, hb8, -, -, -, -⟩ := boxA3_ex w7 26 (.int .i64 y0) (.int .i64 y1) (.slice ua ul uc)
      have hc8 := hc7.box hz7 [.int .i64 y0, .int .i64 y1, .slice ua ul uc] 26
      rw [e8] at hc8
      have HC8 := Lib.hid hc8
      have HX8 := Lib.hid (HX7.out.trans (hb8.mono hz7))
      have hz8 := Nat.le_trans hz7 hb8.size
      have HE8 := Lib.hid e8
      clear hc8 hb8 e8
      clear hn hb hc7 hul HS HC6 HX6 HX7 hz6 hz7 k0 k1 k2
      cases fine with
      | false =>
        go_wp2_with fail
        rw [HE8.out]
        obtain ⟨ub, hub⟩ : ∃ b, b = w7.heap.size := ⟨_, rfl⟩
        rw [← hub] at HC8 ⊢
        clear HE8 hub
        have hcm := HC8.out
        have HXn := HX8
        have hSd : w8.drew.cell? ⟨sb, 0, none⟩ = some (.int .i64 l0) ∧ w8.drew.cell? ⟨sb, 1, none⟩ = some (.int .i64 l1) ∧ w8.drew.cell? ⟨sb, 2, none⟩ = some (.slice ya al yc) ∧ w8.drew.cell? ⟨tb, 0, none⟩ = some (.int .i64 x0) ∧ w8.drew.cell? ⟨tb, 1, none⟩ = some (.int .i64 x1) ∧ w8.drew.cell? ⟨tb, 2, none⟩ = some (.slice za xl zc) := ⟨((hcm.rest.rest.rest.rest).out.headBox.2.2 0 _ rfl).1, ((hcm.rest.rest.rest.rest).out.headBox.2.2 1 _ rfl).1, ((hcm.rest.rest.rest.rest).out.headBox.2.2 2 _ rfl).1, ((hcm.rest.rest).out.headBox.2.2 0 _ rfl).1, ((hcm.rest.rest).out.headBox.2.2 1 _ rfl).1, ((hcm.rest.rest).out.headBox.2.2 2 _ rfl).1⟩
        have hRC := Cells.below' RC.out HXn.out z0
        have hQC := Cells.below' QC.out HXn.out z1
        have r0 := (hRC.2 0 _ rfl).1
        have r1 := (hRC.2 1 _ rfl).1
        have r2 := (hRC.2 2 _ rfl).1
        have f0 := (hRC.2 0 _ rfl).2
        have f1 := (hRC.2 1 _ rfl).2
        have f2 := (hRC.2 2 _ rfl).2
        obtain ⟨ws, ews⟩ : ∃ x, x = (((w8.setCell ⟨w.heap.size, 0, none⟩ (.int .i64 l0)).setCell ⟨w.heap.size, 1, none⟩ (.int .i64 l1)).setCell ⟨w.heap.size, 2, none⟩ (.slice ya al yc)).drew := ⟨_, rfl⟩
        have hRs : Cells ws (w.heap.size) [.int .i64 l0, .int .i64 l1, .slice ya al yc] := by rw [ews]; exact Cells.fill3 hRC _ _ _
        have hQs : Cells ws (w.heap.size + 1) [.int .i64 0, .int .i64 0, .slice none 0 0] := by rw [ews]; exact Cells.fill3' hQC (by omega) _ _ _
        have hcs := Cur.fill3 hcm z0 (.int .i64 l0) (.int .i64 l1) (.slice ya al yc)
        change Cur _ (((w8.setCell ⟨w.heap.size, 0, none⟩ (.int .i64 l0)).setCell ⟨w.heap.size, 1, none⟩ (.int .i64 l1)).setCell ⟨w.heap.size, 2, none⟩ (.slice ya al yc)) _ _ _ _ at hcs
        replace hcs := hcs.below (Below.refl _ _).drew
        rw [← ews] at hcs
        have q0 := (hQs.2 0 _ rfl).1
        have q1 := (hQs.2 1 _ rfl).1
        have q2 := (hQs.2 2 _ rfl).1
        have g0 := (hQs.2 0 _ rfl).2
        have g1 := (hQs.2 1 _ rfl).2
        have g2 := (hQs.2 2 _ rfl).2
        have hBs : Below w.heap.size w ws := by rw [ews]; exact (Below.fill3 (HA.out.trans (HXn.out.mono (Nat.le_of_lt z0))) (Nat.le_refl _) _ _ _).drew
        have Hews := Lib.hid ews
        clear ews
        have hSs : ws.cell? ⟨sb, 0, none⟩ = some (.int .i64 l0) ∧ ws.cell? ⟨sb, 1, none⟩ = some (.int .i64 l1) ∧ ws.cell? ⟨sb, 2, none⟩ = some (.slice ya al yc) ∧ ws.cell? ⟨tb, 0, none⟩ = some (.int .i64 x0) ∧ ws.cell? ⟨tb, 1, none⟩ = some (.int .i64 x1) ∧ ws.cell? ⟨tb, 2, none⟩ = some (.slice za xl zc) := ⟨((hcs.rest.rest.rest.rest).out.headBox.2.2 0 _ rfl).1, ((hcs.rest.rest.rest.rest).out.headBox.2.2 1 _ rfl).1, ((hcs.rest.rest.rest.rest).out.headBox.2.2 2 _ rfl).1, ((hcs.rest.rest).out.headBox.2.2 0 _ rfl).1, ((hcs.rest.rest).out.headBox.2.2 1 _ rfl).1, ((hcs.rest.rest).out.headBox.2.2 2 _ rfl).1⟩
        clear HC8 HX8
        go_wp2_with fail
        refine wp_region_L (fun w' => w'.cell? ⟨sb, 0, none⟩ = some (.int .i64 l0) ∧ w'.cell? ⟨sb, 1, none⟩ = some (.int .i64 l1) ∧ w'.cell? ⟨sb, 2, none⟩ = some (.slice ya al yc) ∧ w'.cell? ⟨tb, 0, none⟩ = some (.int .i64 x0) ∧ w'.cell? ⟨tb, 1, none⟩ = some (.int .i64 x1) ∧ w'.cell? ⟨tb, 2, none⟩ = some (.slice za xl zc)) (by kernel_rfl) ?_
        refine wpAnyL_take 0 (v := ?_) rfl (by kernel_rfl) (by kernel_rfl) (by kernel_rfl) (by kernel_rfl) (fun _ _ _ h => h) (Or.inl ⟨by rfl, ?_⟩) hSd ?_
        rotate_left
        · (intro w hSw; (try dsimp only at hSw); go_simp) <;> (try with_reducible rfl)
        try simp only [Act.put, List.getElem_toArray, List.getElem_cons_zero, List.getElem_cons_succ, List.setIfInBounds_toArray, List.set_cons_zero, List.set_cons_succ]
        refine wpAnyL_take 1 (v := ?_) rfl (by kernel_rfl) (by kernel_rfl) (by kernel_rfl) (by kernel_rfl) (fun _ _ _ h => h) (Or.inl ⟨by rfl, ?_⟩) hSd ?_
        rotate_left
        · (intro w hSw; (try dsimp only at hSw); go_simp) <;> (try with_reducible rfl)
        try simp only [Act.put, List.getElem_toArray, List.getElem_cons_zero, List.getElem_cons_succ, List.setIfInBounds_toArray, List.set_cons_zero, List.set_cons_succ]
        refine wpAnyL_one 2 (by kernel_rfl) rfl (fun K hK => ?_)
        go_simp
        rw [← Hews.out]
        refine hK.out _ _ (fun _ => hSs) ?_
        clear hK K
        try simp only [Act.put, List.getElem_toArray, List.getElem_cons_zero, List.getElem_cons_succ, List.setIfInBounds_toArray, List.set_cons_zero, List.set_cons_succ]
        refine wpAnyL_one 3 (by kernel_rfl) rfl (fun K hK => ?_)
        go_simp
        refine hK.out _ _ (fun h => absurd h (not_rem (by kernel_rfl))) ?_
        clear hK K
        try simp only [Act.put, List.getElem_toArray, List.getElem_cons_zero, List.getElem_cons_succ, List.setIfInBounds_toArray, List.set_cons_zero, List.set_cons_succ]
        refine wpAnyL_done (by kernel_rfl) ?_ _
        have hRt : Cells (((ws.setCell ⟨w.heap.size + 1, 0, none⟩ (.int .i64 x0)).setCell ⟨w.heap.size + 1, 1, none⟩ (.int .i64 x1)).setCell ⟨w.heap.size + 1, 2, none⟩ (.slice za xl zc)) (w.heap.size) [.int .i64 l0, .int .i64 l1, .slice ya al yc] := Cells.fill3' hRs (by omega) _ _ _
        have hQt : Cells (((ws.setCell ⟨w.heap.size + 1, 0, none⟩ (.int .i64 x0)).setCell ⟨w.heap.size + 1, 1, none⟩ (.int .i64 x1)).setCell ⟨w.heap.size + 1, 2, none⟩ (.slice za xl zc)) (w.heap.size + 1) [.int .i64 x0, .int .i64 x1, .slice za xl zc] := Cells.fill3 hQs _ _ _
        have hct : Cur wA.heap.size (((ws.setCell ⟨w.heap.size + 1, 0, none⟩ (.int .i64 x0)).setCell ⟨w.heap.size + 1, 1, none⟩ (.int .i64 x1)).setCell ⟨w.heap.size + 1, 2, none⟩ (.slice za xl zc)) cb (.slice a xs.length c) xs.length _ := Cur.fill3 hcs z1 _ _ _
        have S0 := (hRt.2 0 _ rfl).1
        have S1 := (hRt.2 1 _ rfl).1
        have S2 := (hRt.2 2 _ rfl).1
        have T0 := (hQt.2 0 _ rfl).1
        have T1 := (hQt.2 1 _ rfl).1
        have T2 := (hQt.2 2 _ rfl).1
        go_wp2_with fail
        refine bodyPost_ret (v := .tuple #[.agg #[.int .i64 l0, .int .i64 l1, .slice ya al yc], .agg #[.int .i64 x0, .int .i64 x1, .slice za xl zc]]) (by simp [results, Try.results12, go_sem, S0, S1, S2, T0, T1, T2]) rfl ?_
        exact ⟨_, _, (l0, l1, la), (x0, x1, xa), rfl, hct.rest.rest.rest.rest.rest.labR, hct.rest.rest.rest.labR, Below.fill3 hBs (by omega) _ _ _⟩
      | true =>
        have HO := Lib.hid (l1Once_i (z := 2) (fun w' hb' => HK.out w' (HX8.out.trans hb')) HC8.out hz8 (by omega) (by omega))
        go_wp2_with fail
        rw [HE8.out]
        (with_reducible refine HO.out.mono ?_)
        rintro e w9 ⟨b, rfl, hc, hb, ho⟩
        obtain ⟨ub, hub⟩ : ∃ b, b = w7.heap.size := ⟨_, rfl⟩
        rw [← hub] at hc ⊢
        have HC9 := Lib.hid hc
        have HX9 := Lib.hid (HX8.out.trans hb)
        have hz9 := Nat.le_trans hz8 hb.size
        clear hc hb ho HO HE8 HC8 HX8 hz8 hub
        cases b with
        | false =>
          have hcm := HC9.out
          have HXn := HX9
          have hSd : w9.drew.cell? ⟨sb, 0, none⟩ = some (.int .i64 l0) ∧ w9.drew.cell? ⟨sb, 1, none⟩ = some (.int .i64 l1) ∧ w9.drew.cell? ⟨sb, 2, none⟩ = some (.slice ya al yc) ∧ w9.drew.cell? ⟨tb, 0, none⟩ = some (.int .i64 x0) ∧ w9.drew.cell? ⟨tb, 1, none⟩ = some (.int .i64 x1) ∧ w9.drew.cell? ⟨tb, 2, none⟩ = some (.slice za xl zc) := ⟨((hcm.rest.rest.rest.rest).out.headBox.2.2 0 _ rfl).1, ((hcm.rest.rest.rest.rest).out.headBox.2.2 1 _ rfl).1, ((hcm.rest.rest.rest.rest).out.headBox.2.2 2 _ rfl).1, ((hcm.rest.rest).out.headBox.2.2 0 _ rfl).1, ((hcm.rest.rest).out.headBox.2.2 1 _ rfl).1, ((hcm.rest.rest).out.headBox.2.2 2 _ rfl).1⟩
          have hRC := Cells.below' RC.out HXn.out z0
          have hQC := Cells.below' QC.out HXn.out z1
          have r0 := (hRC.2 0 _ rfl).1
          have r1 := (hRC.2 1 _ rfl).1
          have r2 := (hRC.2 2 _ rfl).1
          have f0 := (hRC.2 0 _ rfl).2
          have f1 := (hRC.2 1 _ rfl).2
          have f2 := (hRC.2 2 _ rfl).2
          obtain ⟨ws, ews⟩ : ∃ x, x = (((w9.setCell ⟨w.heap.size, 0, none⟩ (.int .i64 l0)).setCell ⟨w.heap.size, 1, none⟩ (.int .i64 l1)).setCell ⟨w.heap.size, 2, none⟩ (.slice ya al yc)).drew := ⟨_, rfl⟩
          have hRs : Cells ws (w.heap.size) [.int .i64 l0, .int .i64 l1, .slice ya al yc] := by rw [ews]; exact Cells.fill3 hRC _ _ _
          have hQs : Cells ws (w.heap.size + 1) [.int .i64 0, .int .i64 0, .slice none 0 0] := by rw [ews]; exact Cells.fill3' hQC (by omega) _ _ _
          have hcs := Cur.fill3 hcm z0 (.int .i64 l0) (.int .i64 l1) (.slice ya al yc)
          change Cur _ (((w9.setCell ⟨w.heap.size, 0, none⟩ (.int .i64 l0)).setCell ⟨w.heap.size, 1, none⟩ (.int .i64 l1)).setCell ⟨w.heap.size, 2, none⟩ (.slice ya al yc)) _ _ _ _ at hcs
          replace hcs := hcs.below (Below.refl _ _).drew
          rw [← ews] at hcs
          have q0 := (hQs.2 0 _ rfl).1
          have q1 := (hQs.2 1 _ rfl).1
          have q2 := (hQs.2 2 _ rfl).1
          have g0 := (hQs.2 0 _ rfl).2
          have g1 := (hQs.2 1 _ rfl).2
          have g2 := (hQs.2 2 _ rfl).2
          have hBs : Below w.heap.size w ws := by rw [ews]; exact (Below.fill3 (HA.out.trans (HXn.out.mono (Nat.le_of_lt z0))) (Nat.le_refl _) _ _ _).drew
          have Hews := Lib.hid ews
          clear ews
          have hSs : ws.cell? ⟨sb, 0, none⟩ = some (.int .i64 l0) ∧ ws.cell? ⟨sb, 1, none⟩ = some (.int .i64 l1) ∧ ws.cell? ⟨sb, 2, none⟩ = some (.slice ya al yc) ∧ ws.cell? ⟨tb, 0, none⟩ = some (.int .i64 x0) ∧ ws.cell? ⟨tb, 1, none⟩ = some (.int .i64 x1) ∧ ws.cell? ⟨tb, 2, none⟩ = some (.slice za xl zc) := ⟨((hcs.rest.rest.rest.rest).out.headBox.2.2 0 _ rfl).1, ((hcs.rest.rest.rest.rest).out.headBox.2.2 1 _ rfl).1, ((hcs.rest.rest.rest.rest).out.headBox.2.2 2 _ rfl).1, ((hcs.rest.rest).out.headBox.2.2 0 _ rfl).1, ((hcs.rest.rest).out.headBox.2.2 1 _ rfl).1, ((hcs.rest.rest).out.headBox.2.2 2 _ rfl).1⟩
          clear HC9 HX9
          go_wp2_with fail
          refine wp_region_L (fun w' => w'.cell? ⟨sb, 0, none⟩ = some (.int .i64 l0) ∧ w'.cell? ⟨sb, 1, none⟩ = some (.int .i64 l1) ∧ w'.cell? ⟨sb, 2, none⟩ = some (.slice ya al yc) ∧ w'.cell? ⟨tb, 0, none⟩ = some (.int .i64 x0) ∧ w'.cell? ⟨tb, 1, none⟩ = some (.int .i64 x1) ∧ w'.cell? ⟨tb, 2, none⟩ = some (.slice za xl zc)) (by kernel_rfl) ?_
          refine wpAnyL_take 0 (v := ?_) rfl (by kernel_rfl) (by kernel_rfl) (by kernel_rfl) (by kernel_rfl) (fun _ _ _ h => h) (Or.inl ⟨by rfl, ?_⟩) hSd ?_
          rotate_left
          · (intro w hSw; (try dsimp only at hSw); go_simp) <;> (try with_reducible rfl)
          try simp only [Act.put, List.getElem_toArray, List.getElem_cons_zero, List.getElem_cons_succ, List.setIfInBounds_toArray, List.set_cons_zero, List.set_cons_succ]
          refine wpAnyL_take 1 (v := ?_) rfl (by kernel_rfl) (by kernel_rfl) (by kernel_rfl) (by kernel_rfl) (fun _ _ _ h => h) (Or.inl ⟨by rfl, ?_⟩) hSd ?_
          rotate_left
          · (intro w hSw; (try dsimp only at hSw); go_simp) <;> (try with_reducible rfl)
          try simp only [Act.put, List.getElem_toArray, List.getElem_cons_zero, List.getElem_cons_succ, List.setIfInBounds_toArray, List.set_cons_zero, List.set_cons_succ]
          refine wpAnyL_one 2 (by kernel_rfl) rfl (fun K hK => ?_)
          go_simp
          rw [← Hews.out]
          refine hK.out _ _ (fun _ => hSs) ?_
          clear hK K
          try simp only [Act.put, List.getElem_toArray, List.getElem_cons_zero, List.getElem_cons_succ, List.setIfInBounds_toArray, List.set_cons_zero, List.set_cons_succ]
          refine wpAnyL_one 3 (by kernel_rfl) rfl (fun K hK => ?_)
          go_simp
          refine hK.out _ _ (fun h => absurd h (not_rem (by kernel_rfl))) ?_
          clear hK K
          try simp only [Act.put, List.getElem_toArray, List.getElem_cons_zero, List.getElem_cons_succ, List.setIfInBounds_toArray, List.set_cons_zero, List.set_cons_succ]
          refine wpAnyL_done (by kernel_rfl) ?_ _
          have hRt : Cells (((ws.setCell ⟨w.heap.size + 1, 0, none⟩ (.int .i64 x0)).setCell ⟨w.heap.size + 1, 1, none⟩ (.int .i64 x1)).setCell ⟨w.heap.size + 1, 2, none⟩ (.slice za xl zc)) (w.heap.size) [.int .i64 l0, .int .i64 l1, .slice ya al yc] := Cells.fill3' hRs (by omega) _ _ _
          have hQt : Cells (((ws.setCell ⟨w.heap.size + 1, 0, none⟩ (.int .i64 x0)).setCell ⟨w.heap.size + 1, 1, none⟩ (.int .i64 x1)).setCell ⟨w.heap.size + 1, 2, none⟩ (.slice za xl zc)) (w.heap.size + 1) [.int .i64 x0, .int .i64 x1, .slice za xl zc] := Cells.fill3 hQs _ _ _
          have hct : Cur wA.heap.size (((ws.setCell ⟨w.heap.size + 1, 0, none⟩ (.int .i64 x0)).setCell ⟨w.heap.size + 1, 1, none⟩ (.int .i64 x1)).setCell ⟨w.heap.size + 1, 2, none⟩ (.slice za xl zc)) cb (.slice a xs.length c) xs.length _ := Cur.fill3 hcs z1 _ _ _
          have S0 := (hRt.2 0 _ rfl).1
          have S1 := (hRt.2 1 _ rfl).1
          have S2 := (hRt.2 2 _ rfl).1
          have T0 := (hQt.2 0 _ rfl).1
          have T1 := (hQt.2 1 _ rfl).1
          have T2 := (hQt.2 2 _ rfl).1
          go_wp2_with fail
          refine bodyPost_ret (v := .tuple #[.agg #[.int .i64 l0, .int .i64 l1, .slice ya al yc], .agg #[.int .i64 x0, .int .i64 x1, .slice za xl zc]]) (by simp [results, Try.results12, go_sem, S0, S1, S2, T0, T1, T2]) rfl ?_
          exact ⟨_, _, (l0, l1, la), (x0, x1, xa), rfl, hct.rest.rest.rest.rest.rest.labR, hct.rest.rest.rest.labR, Below.fill3 hBs (by omega) _ _ _⟩
        | true =>
          have hcm := HC9.out
          have HXn := HX9
          have hSd : w9.drew.cell? ⟨tb, 0, none⟩ = some (.int .i64 x0) ∧ w9.drew.cell? ⟨tb, 1, none⟩ = some (.int .i64 x1) ∧ w9.drew.cell? ⟨tb, 2, none⟩ = some (.slice za xl zc) ∧ w9.drew.cell? ⟨ub, 0, none⟩ = some (.int .i64 y0) ∧ w9.drew.cell? ⟨ub, 1, none⟩ = some (.int .i64 y1) ∧ w9.drew.cell? ⟨ub, 2, none⟩ = some (.slice ua ul uc) := ⟨((hcm.rest.rest).out.headBox.2.2 0 _ rfl).1, ((hcm.rest.rest).out.headBox.2.2 1 _ rfl).1, ((hcm.rest.rest).out.headBox.2.2 2 _ rfl).1, ((hcm).out.headBox.2.2 0 _ rfl).1, ((hcm).out.headBox.2.2 1 _ rfl).1, ((hcm).out.headBox.2.2 2 _ rfl).1⟩
          have hRC := Cells.below' RC.out HXn.out z0
          have hQC := Cells.below' QC.out HXn.out z1
          have r0 := (hRC.2 0 _ rfl).1
          have r1 := (hRC.2 1 _ rfl).1
          have r2 := (hRC.2 2 _ rfl).1
          have f0 := (hRC.2 0 _ rfl).2
          have f1 := (hRC.2 1 _ rfl).2
          have f2 := (hRC.2 2 _ rfl).2
          obtain ⟨ws, ews⟩ : ∃ x, x = (((w9.setCell ⟨w.heap.size, 0, none⟩ (.int .i64 x0)).setCell ⟨w.heap.size, 1, none⟩ (.int .i64 x1)).setCell ⟨w.heap.size, 2, none⟩ (.slice za xl zc)).drew := ⟨_, rfl⟩
          have hRs : Cells ws (w.heap.size) [.int .i64 x0, .int .i64 x1, .slice za xl zc] := by rw [ews]; exact Cells.fill3 hRC _ _ _
          have hQs : Cells ws (w.heap.size + 1) [.int .i64 0, .int .i64 0, .slice none 0 0] := by rw [ews]; exact Cells.fill3' hQC (by omega) _ _ _
          have hcs := Cur.fill3 hcm z0 (.int .i64 x0) (.int .i64 x1) (.slice za xl zc)
          change Cur _ (((w9.setCell ⟨w.heap.size, 0, none⟩ (.int .i64 x0)).setCell ⟨w.heap.size, 1, none⟩ (.int .i64 x1)).setCell ⟨w.heap.size, 2, none⟩ (.slice za xl zc)) _ _ _ _ at hcs
          replace hcs := hcs.below (Below.refl _ _).drew
          rw [← ews] at hcs
          have q0 := (hQs.2 0 _ rfl).1
          have q1 := (hQs.2 1 _ rfl).1
          have q2 := (hQs.2 2 _ rfl).1
          have g0 := (hQs.2 0 _ rfl).2
          have g1 := (hQs.2 1 _ rfl).2
          have g2 := (hQs.2 2 _ rfl).2
          have hBs : Below w.heap.size w ws := by rw [ews]; exact (Below.fill3 (HA.out.trans (HXn.out.mono (Nat.le_of_lt z0))) (Nat.le_refl _) _ _ _).drew
          have Hews := Lib.hid ews
          clear ews
          have hSs : ws.cell? ⟨tb, 0, none⟩ = some (.int .i64 x0) ∧ ws.cell? ⟨tb, 1, none⟩ = some (.int .i64 x1) ∧ ws.cell? ⟨tb, 2, none⟩ = some (.slice za xl zc) ∧ ws.cell? ⟨ub, 0, none⟩ = some (.int .i64 y0) ∧ ws.cell? ⟨ub, 1, none⟩ = some (.int .i64 y1) ∧ ws.cell? ⟨ub, 2, none⟩ = some (.slice ua ul uc) := ⟨((hcs.rest.rest).out.headBox.2.2 0 _ rfl).1, ((hcs.rest.rest).out.headBox.2.2 1 _ rfl).1, ((hcs.rest.rest).out.headBox.2.2 2 _ rfl).1, ((hcs).out.headBox.2.2 0 _ rfl).1, ((hcs).out.headBox.2.2 1 _ rfl).1, ((hcs).out.headBox.2.2 2 _ rfl).1⟩
          clear HC9 HX9
          go_wp2_with fail
          refine wp_region_L (fun w' => w'.cell? ⟨tb, 0, none⟩ = some (.int .i64 x0) ∧ w'.cell? ⟨tb, 1, none⟩ = some (.int .i64 x1) ∧ w'.cell? ⟨tb, 2, none⟩ = some (.slice za xl zc) ∧ w'.cell? ⟨ub, 0, none⟩ = some (.int .i64 y0) ∧ w'.cell? ⟨ub, 1, none⟩ = some (.int .i64 y1) ∧ w'.cell? ⟨ub, 2, none⟩ = some (.slice ua ul uc)) (by kernel_rfl) ?_
          refine wpAnyL_take 0 (v := ?_) rfl (by kernel_rfl) (by kernel_rfl) (by kernel_rfl) (by kernel_rfl) (fun _ _ _ h => h) (Or.inl ⟨by rfl, ?_⟩) hSd ?_
          rotate_left
          · (intro w hSw; (try dsimp only at hSw); go_simp) <;> (try with_reducible rfl)
          try simp only [Act.put, List.getElem_toArray, List.getElem_cons_zero, List.getElem_cons_succ, List.setIfInBounds_toArray, List.set_cons_zero, List.set_cons_succ]
          refine wpAnyL_take 1 (v := ?_) rfl (by kernel_rfl) (by kernel_rfl) (by kernel_rfl) (by kernel_rfl) (fun _ _ _ h => h) (Or.inl ⟨by rfl, ?_⟩) hSd ?_
          rotate_left
          · (intro w hSw; (try dsimp only at hSw); go_simp) <;> (try with_reducible rfl)
          try simp only [Act.put, List.getElem_toArray, List.getElem_cons_zero, List.getElem_cons_succ, List.setIfInBounds_toArray, List.set_cons_zero, List.set_cons_succ]
          refine wpAnyL_one 2 (by kernel_rfl) rfl (fun K hK => ?_)
          go_simp
          rw [← Hews.out]
          refine hK.out _ _ (fun _ => hSs) ?_
          clear hK K
          try simp only [Act.put, List.getElem_toArray, List.getElem_cons_zero, List.getElem_cons_succ, List.setIfInBounds_toArray, List.set_cons_zero, List.set_cons_succ]
          refine wpAnyL_one 3 (by kernel_rfl) rfl (fun K hK => ?_)
          go_simp
          refine hK.out _ _ (fun h => absurd h (not_rem (by kernel_rfl))) ?_
          clear hK K
          try simp only [Act.put, List.getElem_toArray, List.getElem_cons_zero, List.getElem_cons_succ, List.setIfInBounds_toArray, List.set_cons_zero, List.set_cons_succ]
          refine wpAnyL_done (by kernel_rfl) ?_ _
          have hRt : Cells (((ws.setCell ⟨w.heap.size + 1, 0, none⟩ (.int .i64 y0)).setCell ⟨w.heap.size + 1, 1, none⟩ (.int .i64 y1)).setCell ⟨w.heap.size + 1, 2, none⟩ (.slice ua ul uc)) (w.heap.size) [.int .i64 x0, .int .i64 x1, .slice za xl zc] := Cells.fill3' hRs (by omega) _ _ _
          have hQt : Cells (((ws.setCell ⟨w.heap.size + 1, 0, none⟩ (.int .i64 y0)).setCell ⟨w.heap.size + 1, 1, none⟩ (.int .i64 y1)).setCell ⟨w.heap.size + 1, 2, none⟩ (.slice ua ul uc)) (w.heap.size + 1) [.int .i64 y0, .int .i64 y1, .slice ua ul uc] := Cells.fill3 hQs _ _ _
          have hct : Cur wA.heap.size (((ws.setCell ⟨w.heap.size + 1, 0, none⟩ (.int .i64 y0)).setCell ⟨w.heap.size + 1, 1, none⟩ (.int .i64 y1)).setCell ⟨w.heap.size + 1, 2, none⟩ (.slice ua ul uc)) cb (.slice a xs.length c) xs.length _ := Cur.fill3 hcs z1 _ _ _
          have S0 := (hRt.2 0 _ rfl).1
          have S1 := (hRt.2 1 _ rfl).1
          have S2 := (hRt.2 2 _ rfl).1
          have T0 := (hQt.2 0 _ rfl).1
          have T1 := (hQt.2 1 _ rfl).1
          have T2 := (hQt.2 2 _ rfl).1
          go_wp2_with fail
          refine bodyPost_ret (v := .tuple #[.agg #[.int .i64 x0, .int .i64 x1, .slice za xl zc], .agg #[.int .i64 y0, .int .i64 y1, .slice ua ul uc]]) (by simp [results, Try.results12, go_sem, S0, S1, S2, T0, T1, T2]) rfl ?_
          exact ⟨_, _, (x0, x1, xa), (y0, y1, ya'), rfl, hct.rest.rest.rest.labR, hct.rest.labR, Below.fill3 hBs (by omega) _ _ _⟩
end Go.Proofs.Ytcilgihmaaobeaa
end
