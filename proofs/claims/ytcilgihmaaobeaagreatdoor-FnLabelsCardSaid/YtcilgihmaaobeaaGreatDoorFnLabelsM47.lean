/-
  Laws for this claim's walks, contracts of the functions that it reaches.
-/
import Derived.Test.YtcilgihmaaobeaaGreatDoorFnLabelsM46
set_option linter.unusedVariables false
set_option linter.unusedSimpArgs false
section
namespace Go.Proofs.YtcilgihmaaobeaaGreatDoor
open Go.RowKit Go.Deep Go.Sd
set_option linter.unusedSimpArgs false
theorem OLab.slice {w : World} {v : Value} {x : Lb} {F : List Nat} (h : OLab w v x F) : ∃ a c, v = .agg #[.int .i64 x.1, .int .i64 x.2.1, .slice a x.2.2.length c] := by
  obtain ⟨va, rfl, h⟩ := h
  obtain ⟨-, a, c, rfl, -⟩ := h.reads
  exact ⟨a, c, rfl⟩
theorem Cur.labR {lo : Nat} {w : World} {cb : Nat} {K : Value} {n : Nat} {v : Value} {l : Lb} {rs : List Res} (h : Cur lo w cb K n (ResLb v l :: rs)) : LabR w v l := by
  obtain ⟨G, hG, -⟩ := h.out.head
  exact OLab.reads (show OLab w v l G from hG)
theorem Cur.labOf {lo : Nat} {w : World} {cb : Nat} {K : Value} {n : Nat} {v : Value} {l : Lb} {rs : List Res} (h : Cur lo w cb K n (ResLg v l :: rs)) (hlo : lo ≤ w.heap.size) : Cur lo w cb K n (ResLb v l :: rs) := h.conv hlo fun _ h => OLabG.lab h
theorem Cur.labSlice {lo : Nat} {w : World} {cb : Nat} {K : Value} {n : Nat} {v : Value} {l : Lb} {rs : List Res} (h : Cur lo w cb K n (ResLb v l :: rs)) : ∃ a c, v = .agg #[.int .i64 l.1, .int .i64 l.2.1, .slice a l.2.2.length c] := by
  obtain ⟨G, hG, -⟩ := h.out.head
  exact OLab.slice (show OLab w v l G from hG)
end Go.Proofs.YtcilgihmaaobeaaGreatDoor
end

section
namespace Go.Proofs.YtcilgihmaaobeaaGreatDoor
open Go.RowKit Go.Deep Go.Sd
set_option linter.unusedSimpArgs false
theorem addr_add (b o j : Nat) : (⟨b, o, none⟩ : Addr).add j = ⟨b, o + j, none⟩ := by
  unfold Addr.add
  split <;> simp_all
theorem arcs_rd {w : World} {v : Value} {xs : List Arc3} (h : ArcsR w v xs) : RowRd acell w v xs := by
  obtain ⟨hl, a, c, rfl, h1, h2, h3, hx⟩ := h
  refine ⟨a, c, rfl, fun e => ⟨?_, h3 e⟩, fun ad e j u hu => ?_⟩
  · have := h3 e
    omega
  · subst e
    have hj := (List.getElem?_eq_some_iff.1 hu).1
    rw [flatMap_len acell_lay] at hj
    obtain ⟨b, o, e, hb, hc⟩ := hx (by omega)
    cases e
    obtain ⟨i, r, e, hr⟩ : ∃ i r, j = i * 3 + r ∧ r < 3 := ⟨j / 3, j % 3, by omega, by omega⟩
    subst e
    have hi : i < xs.length := by omega
    have hxi : xs[i]? = some xs[i] := List.getElem?_eq_getElem hi
    obtain ⟨g0, g1, g2⟩ := hc i _ hxi
    rw [addr_add]
    have key : ∀ u', (acell xs[i])[r]? = some u' → u' = u := fun u' h => by
      have := flatMap_at acell_lay hxi h
      rw [hu] at this
      exact (Option.some.inj this).symm
    have hr3 : r = 0 ∨ r = 1 ∨ r = 2 := by omega
    rcases hr3 with rfl | rfl | rfl
    · rw [← key _ rfl, Nat.add_zero]; exact g0
    · rw [← key _ rfl, ← Nat.add_assoc]; exact g1
    · rw [← key _ rfl, ← Nat.add_assoc]; exact g2
theorem Cells.below' {w w' : World} {b B : Nat} {vs : List Value} (h : Cells w b vs) (hb : Below B w w') (hB : b < B) : Cells w' b vs :=
  ⟨Nat.lt_of_lt_of_le h.1 hb.size, fun j u hu => ⟨(hb.cell (p := ⟨b, j, none⟩) hB).trans (h.2 j u hu).1, (hb.frozen (p := ⟨b, j, none⟩) hB).trans (h.2 j u hu).2⟩⟩
theorem Cells.other' {w : World} {b c j : Nat} {vs : List Value} (h : Cells w b vs) (hne : b ≠ c) (u : Value) : Cells (w.setCell ⟨c, j, none⟩ u) b vs :=
  h.same (Below.heap_setCell _ _ _ _ (fun e => hne e))
theorem Sep.storeLow {lo : Nat} {w : World} {rs : List Res} (h : Sep lo w rs) {p : Addr} (hp : p.block < lo) (u : Value) : Sep lo (w.setCell p u) rs := by
  obtain ⟨F, h1, hn, hl⟩ := h
  exact ⟨F, h1.keep (fun b hb => Below.heap_setCell _ _ _ _ (fun e => by have := hl b hb; omega)), hn, hl⟩
theorem Cur.storeLow {lo : Nat} {w : World} {cb : Nat} {K : Value} {n : Nat} {rs : List Res} (h : Cur lo w cb K n rs) {p : Addr} (hp : p.block < lo) (u : Value) : Cur lo (w.setCell p u) cb K n rs := by
  obtain ⟨i, x, hi, hs⟩ := h
  exact ⟨i, x, hi, Sep.storeLow hs hp u⟩
/-- A box of three cells filled anew. -/
abbrev fill3 (w : World) (b : Nat) (u0 u1 u2 : Value) : World := ((w.setCell ⟨b, 0, none⟩ u0).setCell ⟨b, 1, none⟩ u1).setCell ⟨b, 2, none⟩ u2
theorem Cells.fill3 {w : World} {b : Nat} {x0 x1 x2 : Value} (h : Cells w b [x0, x1, x2]) (u0 u1 u2 : Value) : Cells (fill3 w b u0 u1 u2) b [u0, u1, u2] := ((h.store (j := 0) rfl u0).store (j := 1) rfl u1).store (j := 2) rfl u2
theorem Cells.fill3' {w : World} {b c : Nat} {vs : List Value} (h : Cells w b vs) (hne : b ≠ c) (u0 u1 u2 : Value) : Cells (Go.Proofs.YtcilgihmaaobeaaGreatDoor.fill3 w c u0 u1 u2) b vs := Cells.other' (Cells.other' (Cells.other' h hne u0) hne u1) hne u2
theorem Cur.fill3 {lo : Nat} {w : World} {cb : Nat} {K : Value} {n : Nat} {rs : List Res} (h : Cur lo w cb K n rs) {b : Nat} (hb : b < lo) (u0 u1 u2 : Value) : Cur lo (Go.Proofs.YtcilgihmaaobeaaGreatDoor.fill3 w b u0 u1 u2) cb K n rs := Cur.storeLow (Cur.storeLow (Cur.storeLow h (p := ⟨b, 0, none⟩) hb u0) (p := ⟨b, 1, none⟩) hb u1) (p := ⟨b, 2, none⟩) hb u2
theorem Below.fill3 {B : Nat} {w0 w : World} (h : Below B w0 w) {b : Nat} (hb : B ≤ b) (u0 u1 u2 : Value) : Below B w0 (Go.Proofs.YtcilgihmaaobeaaGreatDoor.fill3 w b u0 u1 u2) := ((h.setCell (p := ⟨b, 0, none⟩) hb u0).setCell (p := ⟨b, 1, none⟩) hb u1).setCell (p := ⟨b, 2, none⟩) hb u2
set_option maxHeartbeats 8000000 in
set_option maxRecDepth 100000 in
theorem l14Copy_c {w : World} {v : Value} {l : Lb} (h : LabR w v l) (hn : l.2.2.length ≤ 1000) :
    Calls Tryz.prog 56 #[v] w fun e w' => ∃ v' : Value, e = .returned v' ∧ New OLab w.heap.size w' v' l ∧ Below w.heap.size w w' := by
  obtain ⟨l0, l1, la⟩ := l
  obtain ⟨va, rfl, ha⟩ := h
  have HA := Lib.hid (fun w1 (hb : Below w.heap.size w w1) => arcs_rd (ArcsR.frame _ _ _ _ ha hb))
  obtain ⟨hl, ya, yc, rfl, -⟩ := ha
  simp only at HA hn ⊢
  obtain ⟨al, hal⟩ : ∃ n, n = la.length := ⟨_, rfl⟩
  simp only [← hal] at HA hn ⊢
  have Hal := Lib.hid hal
  have hsA := ((Sep.nil w.heap.size w).boxNew (Nat.le_refl _) [.int .i64 l0, .int .i64 l1, .slice ya al yc] 26).boxNew (by simp) [.int .i64 0, .int .i64 0, .slice none 0 0] 26
  obtain ⟨wA, eA⟩ : ∃ x, x = (w.alloc (.cells #[.int .i64 l0, .int .i64 l1, .slice ya al yc] 26)).alloc (.cells #[.int .i64 0, .int .i64 0, .slice none 0 0] 26) := ⟨_, rfl⟩
  have hbA : Below w.heap.size w wA := by rw [eA]; exact ((Below.refl _ _).alloc (Nat.le_refl _) _).alloc (by simp) _
  have hsA : Sep w.heap.size wA [Res.box (w.heap.size + 1) [.int .i64 0, .int .i64 0, .slice none 0 0], Res.box w.heap.size [.int .i64 l0, .int .i64 l1, .slice ya al yc]] := by
    rw [eA]
    have e1 : (w.alloc (.cells #[.int .i64 l0, .int .i64 l1, .slice ya al yc] 26)).heap.size = w.heap.size + 1 := by simp
    rw [← e1]
    exact hsA
  have hbd : Below wA.heap.size wA wA.drew := (Below.refl _ _).drew
  have hbD : Below w.heap.size w wA.drew := hbA.trans (hbd.mono hbA.size)
  have hsd := hsA.below hbd (Nat.le_refl _)
  have hzd : w.heap.size ≤ wA.drew.heap.size := hbD.size
  obtain ⟨wx, ewx⟩ : ∃ x, x = (wA.alloc (.cells #[] 68)).drew := ⟨_, rfl⟩
  have hbx : Below wA.drew.heap.size wA.drew wx := by rw [ewx]; exact (Below.refl wA.drew.heap.size wA.drew).alloc (Nat.le_refl _) (.cells #[] 68)
  have hbX : Below w.heap.size w wx := hbD.trans (hbx.mono hzd)
  have hsx := hsd.new RowG.held hbx hzd (by rw [ewx]; exact New.emptyRow (sz := 3) (f := acell) 68 wA.drew)
  have hzx : w.heap.size ≤ wx.heap.size := hbX.size
  obtain ⟨v5, w5, hr5, hs5, hb5⟩ := hsx.pushRow (P := Tryz.prog) acell_lay 24 24 (.agg #[.int .i64 0, .int .i64 0, .int .i64 0]) 24 Tryz.underlying24 infoA rfl hzx (HA.out wx hbX) (by rw [← Hal.out]; simp; omega) (by rw [← Hal.out]; simp; omega)
  rw [List.nil_append] at hs5
  obtain ⟨va5, c5, rfl, -⟩ := hs5.rowAt acell_lay
  rw [← Hal.out] at hr5 hs5
  have Hr5 := Lib.hid hr5
  have hSd : wA.drew.cell? ⟨w.heap.size, 0, none⟩ = some (.int .i64 l0) ∧ wA.drew.cell? ⟨w.heap.size, 1, none⟩ = some (.int .i64 l1) ∧ wA.drew.cell? ⟨w.heap.size, 2, none⟩ = some (.slice ya al yc) := ⟨((hsd.swap.headBox).2.2 0 _ rfl).1, ((hsd.swap.headBox).2.2 1 _ rfl).1, ((hsd.swap.headBox).2.2 2 _ rfl).1⟩
  have hSx : wx.cell? ⟨w.heap.size, 0, none⟩ = some (.int .i64 l0) ∧ wx.cell? ⟨w.heap.size, 1, none⟩ = some (.int .i64 l1) ∧ wx.cell? ⟨w.heap.size, 2, none⟩ = some (.slice ya al yc) := ⟨((hsx.third.headBox).2.2 0 _ rfl).1, ((hsx.third.headBox).2.2 1 _ rfl).1, ((hsx.third.headBox).2.2 2 _ rfl).1⟩
  have hS5 : w5.cell? ⟨w.heap.size, 0, none⟩ = some (.int .i64 l0) ∧ w5.cell? ⟨w.heap.size, 1, none⟩ = some (.int .i64 l1) ∧ w5.cell? ⟨w.heap.size, 2, none⟩ = some (.slice ya al yc) := ⟨((hs5.third.headBox).2.2 0 _ rfl).1, ((hs5.third.headBox).2.2 1 _ rfl).1, ((hs5.third.headBox).2.2 2 _ rfl).1⟩
  have hsr := hs5.swap
  obtain ⟨-, -, hcr⟩ := hsr.headBox
  have r0 := (hcr 0 _ rfl).1
  have r1 := (hcr 1 _ rfl).1
  have r2 := (hcr 2 _ rfl).1
  have f0 := (hcr 0 _ rfl).2
  have f1 := (hcr 1 _ rfl).2
  have f2 := (hcr 2 _ rfl).2
  have hz5 : w.heap.size ≤ w5.heap.size := Nat.le_trans hzx hb5.size
  have hs6 := ((hsr.boxStore hz5 (j := 0) rfl (.int .i64 l0)).boxStore (by simpa using hz5) (j := 1) rfl (.int .i64 l1)).boxStore (by simpa using hz5) (j := 2) rfl (.slice va5 al c5)
  obtain ⟨-, -, hcs⟩ := hs6.headBox
  have S0 := Lib.hid (hcs 0 (.int .i64 l0) rfl).1
  have S1 := Lib.hid (hcs 1 (.int .i64 l1) rfl).1
  have S2 := Lib.hid (hcs 2 (.slice va5 al c5) rfl).1
  obtain ⟨F, hF, hFn, -⟩ := hs6.swap.head
  have HF := Lib.hid (show New OLab w.heap.size _ (.agg #[.int .i64 l0, .int .i64 l1, .slice va5 al c5]) (l0, l1, la) from ⟨F, ⟨_, rfl, RowG.arcs hF⟩, hFn⟩)
  have HB6 := Lib.hid ((((hbX.trans hb5).setCell (p := ⟨w.heap.size + 1, 0, none⟩) (by simp) (.int .i64 l0)).setCell (p := ⟨w.heap.size + 1, 1, none⟩) (by simp) (.int .i64 l1)).setCell (p := ⟨w.heap.size + 1, 2, none⟩) (by simp) (.slice va5 al c5))
  have eAs := eA.symm
  have ewxs := Lib.hid ewx.symm
  clear hl hal hsA eA hbA hbd hbD hsd hzd ewx hbx hbX hsx hzx hr5 hs5 hb5 hsr hcr hz5 hs6 hcs hF hFn HA
  go_enter Tryz.func56, Tryz.ntmps56
  go_wp2_with fail
  refine wp_region_L (fun w' => w'.cell? ⟨w.heap.size, 0, none⟩ = some (.int .i64 l0) ∧ w'.cell? ⟨w.heap.size, 1, none⟩ = some (.int .i64 l1) ∧ w'.cell? ⟨w.heap.size, 2, none⟩ = some (.slice ya al yc)) (by kernel_rfl) ?_
  refine wpAnyL_take 0 (v := ?_) rfl (by kernel_rfl) (by kernel_rfl) (by kernel_rfl) (by kernel_rfl) (fun _ _ _ h => h) (Or.inl ⟨by rfl, ?_⟩) hSd ?_
  rotate_left
  · (intro w hSw; (try dsimp only at hSw); go_simp) <;> (try with_reducible rfl)
  try simp only [Act.put, List.getElem_toArray, List.getElem_cons_zero, List.getElem_cons_succ, List.setIfInBounds_toArray, List.set_cons_zero, List.set_cons_succ]
  refine wpAnyL_take 1 (v := ?_) rfl (by kernel_rfl) (by kernel_rfl) (by kernel_rfl) (by kernel_rfl) (fun _ _ _ h => h) (Or.inl ⟨by rfl, ?_⟩) hSd ?_
  rotate_left
  · (intro w hSw; (try dsimp only at hSw); go_simp) <;> (try with_reducible rfl)
  try simp only [Act.put, List.getElem_toArray, List.getElem_cons_zero, List.getElem_cons_succ, List.setIfInBounds_toArray, List.set_cons_zero, List.set_cons_succ]
  refine wpAnyL_take 2 (v := ?_) rfl (by kernel_rfl) (by kernel_rfl) (by kernel_rfl) (by kernel_rfl) (fun _ _ _ h => h) (Or.inl ⟨by rfl, ?_⟩) hSd ?_
  rotate_left
  · (intro w hSw; (try dsimp only at hSw); go_simp) <;> (try with_reducible rfl)
  try simp only [Act.put, List.getElem_toArray, List.getElem_cons_zero, List.getElem_cons_succ, List.setIfInBounds_toArray, List.set_cons_zero, List.set_cons_succ]
  refine wpAnyL_take 3 (v := ?_) rfl (by kernel_rfl) (by kernel_rfl) (by kernel_rfl) (by kernel_rfl) (fun _ _ _ h => h) (Or.inl ⟨by rfl, ?_⟩) hSd ?_
  rotate_left
  · (intro w hSw; (try dsimp only at hSw); go_simp) <;> (try with_reducible rfl)
  try simp only [Act.put, List.getElem_toArray, List.getElem_cons_zero, List.getElem_cons_succ, List.setIfInBounds_toArray, List.set_cons_zero, List.set_cons_succ]
  refine wpAnyL_take 5 (v := ?_) rfl (by kernel_rfl) (by kernel_rfl) (by kernel_rfl) (by kernel_rfl) (fun _ _ _ h => h) (Or.inl ⟨by rfl, ?_⟩) hSd ?_
  rotate_left
  · (intro w hSw; (try dsimp only at hSw); go_simp) <;> (try with_reducible rfl)
  try simp only [Act.put, List.getElem_toArray, List.getElem_cons_zero, List.getElem_cons_succ, List.setIfInBounds_toArray, List.set_cons_zero, List.set_cons_succ]
  refine wpAnyL_take 6 (v := ?_) rfl (by kernel_rfl) (by kernel_rfl) (by kernel_rfl) (by kernel_rfl) (fun _ _ _ h => h) (Or.inl ⟨by rfl, ?_⟩) hSd ?_
  rotate_left
  · (intro w hSw; (try dsimp only at hSw); go_simp) <;> (try with_reducible rfl)
  try simp only [Act.put, List.getElem_toArray, List.getElem_cons_zero, List.getElem_cons_succ, List.setIfInBounds_toArray, List.set_cons_zero, List.set_cons_succ]
  refine wpAnyL_one 4 (by kernel_rfl) rfl (fun K hK => ?_)
  go_simp
  refine hK.out _ _ (fun _ => (by rw [ewxs.out]; exact hSx)) ?_
  clear hK K
  try simp only [Act.put, List.getElem_toArray, List.getElem_cons_zero, List.getElem_cons_succ, List.setIfInBounds_toArray, List.set_cons_zero, List.set_cons_succ]
  rw [ewxs.out]
  refine wpAnyL_one 7 (by kernel_rfl) rfl (fun K hK => ?_)
  refine step_append_run (by rfl) (.tmp 7) (.tmp 9) 24 (by rfl) (by rfl) (by rfl) Hr5.out ?_
  refine hK.out _ _ (fun _ => hS5) ?_
  clear hK K
  try simp only [Act.put, List.getElem_toArray, List.getElem_cons_zero, List.getElem_cons_succ, List.setIfInBounds_toArray, List.set_cons_zero, List.set_cons_succ]
  refine wpAnyL_take 8 (v := ?_) rfl (by kernel_rfl) (by kernel_rfl) (by kernel_rfl) (by kernel_rfl) (fun _ _ _ h => h) (Or.inl ⟨by rfl, ?_⟩) hS5 ?_
  rotate_left
  · (intro w hSw; (try dsimp only at hSw); go_simp) <;> (try with_reducible rfl)
  try simp only [Act.put, List.getElem_toArray, List.getElem_cons_zero, List.getElem_cons_succ, List.setIfInBounds_toArray, List.set_cons_zero, List.set_cons_succ]
  refine wpAnyL_one 9 (by kernel_rfl) rfl (fun K hK => ?_)
  go_simp
  refine hK.out _ _ (fun h => absurd h (not_rem (by kernel_rfl))) ?_
  clear hK K
  try simp only [Act.put, List.getElem_toArray, List.getElem_cons_zero, List.getElem_cons_succ, List.setIfInBounds_toArray, List.set_cons_zero, List.set_cons_succ]
  refine wpAnyL_done (by kernel_rfl) ?_ _
  go_wp2_with fail
  refine bodyPost_ret (v := .agg #[.int .i64 l0, .int .i64 l1, .slice va5 al c5]) (by simp [results, Tryz.results56, go_sem, S0.out, S1.out, S2.out]) rfl ?_
  exact ⟨_, rfl, HF.out, HB6.out⟩
set_option maxHeartbeats 8000000 in
set_option maxRecDepth 100000 in
theorem DrawEqualLabels_c {w : World} {vc : Value} {xs : List Int} (h : BytR w vc xs) :
    Calls Tryz.prog 17 #[vc] w fun e w' => ∃ (v1 v2 : Value) (a b : Lb), e = .returned (.tuple #[v1, v2]) ∧ LabR w' v1 a ∧ LabR w' v2 b ∧ Below w.heap.size w w' := by
  obtain ⟨wA, eA, hA⟩ : ∃ x, x = (w.alloc (.cells #[.int .i64 0, .int .i64 0, .slice none 0 0] 26)).alloc (.cells #[.int .i64 0, .int .i64 0, .slice none 0 0] 26) ∧ Below w.heap.size w x := ⟨_, rfl, ((Below.refl _ _).alloc (Nat.le_refl _) _).alloc (by simp) _⟩
  have hA' : BytR wA vc xs := BytR.frame _ _ _ _ h hA
  have HN := Lib.hid (l1New_c hA')
  have HK0 := Lib.hid (fun w' (hb : Below w.heap.size w w') => BytR.frame _ _ _ _ h hb)
  obtain ⟨a, c, rfl, -⟩ := h.cellsB
  have z1 : w.heap.size + 1 < wA.heap.size := by rw [eA]; simp
  have z0 : w.heap.size < wA.heap.size := by omega
  have RC := Lib.hid (show Cells wA w.heap.size [.int .i64 0, .int .i64 0, .slice none 0 0] from by
    refine ⟨z0, fun j u hj => ?_⟩
    rcases j with _ | _ | _ | j <;> first | (simp at hj; done) | (simp at hj; subst hj; rw [eA]; simp [go_sem]))
  have QC := Lib.hid (show Cells wA (w.heap.size + 1) [.int .i64 0, .int .i64 0, .slice none 0 0] from by
    refine ⟨z1, fun j u hj => ?_⟩
    rcases j with _ | _ | _ | j <;> first | (simp at hj; done) | (simp at hj; subst hj; rw [eA]; simp [go_sem]))
  have HA := Lib.hid hA
  have HK := Lib.hid (fun w' (hb : Below wA.heap.size wA w') => HK0.out w' (HA.out.trans (hb.mono (Nat.le_of_lt z0))))
  have eAs := eA.symm
  clear h hA hA' eA
  go_enter Tryz.func17, Tryz.ntmps17
  go_wp2_with fail
  (with_reducible refine HN.out.mono ?_)
  rintro e w1 ⟨rfl, ⟨hh, hs⟩, hb⟩
  obtain ⟨cb, hcb⟩ : ∃ b, b = wA.heap.size := ⟨_, rfl⟩
  have HC1 := Lib.hid (show Cur wA.heap.size w1 cb (.slice a xs.length c) xs.length [] from by rw [hcb]; exact ⟨0, hh, Nat.zero_le _, hs⟩)
  rw [← hcb]
  have HX1 := Lib.hid hb
  have hz1 := hb.size
  clear hs hb HN eAs hcb
  have HL := Lib.hid (l14Bent_c (fun w' hb' => HK.out w' (HX1.out.trans hb')) HC1.out hz1)
  go_wp2_with fail
  (with_reducible refine HL.out.mono ?_)
  rintro e w2 ⟨v, l, rfl, hln, hc, hb⟩
  have hz2 := Nat.le_trans hz1 hb.size
  have hcl := hc.labOf hz2
  have HX2 := Lib.hid (HX1.out.trans hb)
  obtain ⟨ya, yc, rfl⟩ := hcl.labSlice
  obtain ⟨l0, l1, la⟩ := l
  obtain ⟨al, hal⟩ : ∃ n, n = la.length := ⟨_, rfl⟩
  simp only [← hal] at hcl ⊢
  have Hal := Lib.hid (show la.length ≤ 82 from hln)
  obtain ⟨w3, e3, hb3, -, -, -, -⟩ := boxA3_ex w2 26 (.int .i64 l0) (.int .i64 l1) (.slice ya al yc)
  have hc3 := hcl.box hz2 [.int .i64 l0, .int .i64 l1, .slice ya al yc] 26
  rw [e3] at hc3
  have HC3 := Lib.hid hc3
  have HX3 := Lib.hid (HX2.out.trans (hb3.mono hz2))
  have hz3 := Nat.le_trans hz2 hb3.size
  have HE3 := Lib.hid e3
  clear hc3 hb3 e3
  have HO := Lib.hid (l1Once_i (z := 2) (fun w' hb' => HK.out w' (HX3.out.trans hb')) HC3.out hz3 (by omega) (by omega))
  clear hal hln hc hb hcl HL HC1 HX1 HX2 hz1 hz2
  go_wp2_with fail
  rw [HE3.out]
  (with_reducible refine HO.out.mono ?_)
  rintro e w4 ⟨b, rfl, hc, hb, ho⟩
  obtain ⟨sb, hsb⟩ : ∃ b, b = w2.heap.size := ⟨_, rfl⟩
  rw [← hsb] at hc ⊢
  have HC4 := Lib.hid hc
  have HX4 := Lib.hid (HX3.out.trans hb)
  have hz4 := Nat.le_trans hz3 hb.size
  clear hc hb ho HO HE3 HC3 HX3 hz3 hsb
  cases b with
  | true =>
    have hwd : Below w4.heap.size w4 w4.drew := (Below.refl _ _).drew
    have HCd := Lib.hid (HC4.out.below hwd)
    have HXd := Lib.hid (HX4.out.trans (hwd.mono hz4))
    have hzd : wA.heap.size ≤ w4.drew.heap.size := Nat.le_trans hz4 hwd.size
    have hSd : w4.drew.cell? ⟨sb, 0, none⟩ = some (.int .i64 l0) ∧ w4.drew.cell? ⟨sb, 1, none⟩ = some (.int .i64 l1) ∧ w4.drew.cell? ⟨sb, 2, none⟩ = some (.slice ya al yc) := ⟨((HCd.out).out.headBox.2.2 0 _ rfl).1, ((HCd.out).out.headBox.2.2 1 _ rfl).1, ((HCd.out).out.headBox.2.2 2 _ rfl).1⟩
    obtain ⟨m, hm⟩ : ∃ x : Lb, x = (l0, l1, la) := ⟨_, rfl⟩
    have HL := Lib.hid (l14Copy_c HCd.out.rest.labR (by have := Hal.out; simp only; omega))
    rw [← hm] at HL
    clear hm
    clear hwd HC4 HX4
    go_wp2_with fail
    refine wp_region_L (fun w' => w'.cell? ⟨sb, 0, none⟩ = some (.int .i64 l0) ∧ w'.cell? ⟨sb, 1, none⟩ = some (.int .i64 l1) ∧ w'.cell? ⟨sb, 2, none⟩ = some (.slice ya al yc)) (by kernel_rfl) ?_
    refine wpAnyL_take 0 (v := ?_) rfl (by kernel_rfl) (by kernel_rfl) (by kernel_rfl) (by kernel_rfl) (fun _ _ _ h => h) (Or.inl ⟨by rfl, ?_⟩) hSd ?_
    rotate_left
    · (intro w hSw; (try dsimp only at hSw); go_simp) <;> (try with_reducible rfl)
    try simp only [Act.put, List.getElem_toArray, List.getElem_cons_zero, List.getElem_cons_succ, List.setIfInBounds_toArray, List.set_cons_zero, List.set_cons_succ]
    refine wpAnyL_take 1 (v := ?_) rfl (by kernel_rfl) (by kernel_rfl) (by kernel_rfl) (by kernel_rfl) (fun _ _ _ h => h) (Or.inl ⟨by rfl, ?_⟩) hSd ?_
    rotate_left
    · (intro w hSw; (try dsimp only at hSw); go_simp) <;> (try with_reducible rfl)
    try simp only [Act.put, List.getElem_toArray, List.getElem_cons_zero, List.getElem_cons_succ, List.setIfInBounds_toArray, List.set_cons_zero, List.set_cons_succ]
    refine wpAnyL_one 2 (by kernel_rfl) rfl (fun K hK => ?_)
    go_simp
    (with_reducible refine HL.out.mono ?_)
    rintro e wm ⟨vm, rfl, hn, hb⟩
    have hzm := Nat.le_trans hzd hb.size
    have hcm := HCd.out.new OLab.held hb hzd hn
    have HXn := Lib.hid (HXd.out.trans (hb.mono hzd))
    obtain ⟨va, ml', rfl⟩ := hcm.labSlice
    obtain ⟨m0, m1, ma⟩ := m
    obtain ⟨ml, hml⟩ : ∃ n, n = ma.length := ⟨_, rfl⟩
    simp only [← hml] at hcm ⊢
    have hSm : wm.cell? ⟨sb, 0, none⟩ = some (.int .i64 l0) ∧ wm.cell? ⟨sb, 1, none⟩ = some (.int .i64 l1) ∧ wm.cell? ⟨sb, 2, none⟩ = some (.slice ya al yc) := ⟨((hcm.rest).out.headBox.2.2 0 _ rfl).1, ((hcm.rest).out.headBox.2.2 1 _ rfl).1, ((hcm.rest).out.headBox.2.2 2 _ rfl).1⟩
    have hRC := Cells.below' RC.out HXn.out z0
    have hQC := Cells.below' QC.out HXn.out z1
    clear hml hn hb HL HCd HXd
    have r0 := (hRC.2 0 _ rfl).1
    have r1 := (hRC.2 1 _ rfl).1
    have r2 := (hRC.2 2 _ rfl).1
    have f0 := (hRC.2 0 _ rfl).2
    have f1 := (hRC.2 1 _ rfl).2
    have f2 := (hRC.2 2 _ rfl).2
    obtain ⟨ws, ews⟩ : ∃ x, x = (((wm.setCell ⟨w.heap.size, 0, none⟩ (.int .i64 l0)).setCell ⟨w.heap.size, 1, none⟩ (.int .i64 l1)).setCell ⟨w.heap.size, 2, none⟩ (.slice ya al yc)) := ⟨_, rfl⟩
    have hRs : Cells ws (w.heap.size) [.int .i64 l0, .int .i64 l1, .slice ya al yc] := by rw [ews]; exact Cells.fill3 hRC _ _ _
    have hQs : Cells ws (w.heap.size + 1) [.int .i64 0, .int .i64 0, .slice none 0 0] := by rw [ews]; exact Cells.fill3' hQC (by omega) _ _ _
    have hcs := Cur.fill3 hcm z0 (.int .i64 l0) (.int .i64 l1) (.slice ya al yc)
    change Cur _ (((wm.setCell ⟨w.heap.size, 0, none⟩ (.int .i64 l0)).setCell ⟨w.heap.size, 1, none⟩ (.int .i64 l1)).setCell ⟨w.heap.size, 2, none⟩ (.slice ya al yc)) _ _ _ _ at hcs
    rw [← ews] at hcs
    have q0 := (hQs.2 0 _ rfl).1
    have q1 := (hQs.2 1 _ rfl).1
    have q2 := (hQs.2 2 _ rfl).1
    have g0 := (hQs.2 0 _ rfl).2
    have g1 := (hQs.2 1 _ rfl).2
    have g2 := (hQs.2 2 _ rfl).2
    have hBs : Below w.heap.size w ws := by rw [ews]; exact (Below.fill3 (HA.out.trans (HXn.out.mono (Nat.le_of_lt z0))) (Nat.le_refl _) _ _ _)
    have Hews := Lib.hid ews
    clear ews
    have hSs : ws.cell? ⟨sb, 0, none⟩ = some (.int .i64 l0) ∧ ws.cell? ⟨sb, 1, none⟩ = some (.int .i64 l1) ∧ ws.cell? ⟨sb, 2, none⟩ = some (.slice ya al yc) := ⟨((hcs.rest).out.headBox.2.2 0 _ rfl).1, ((hcs.rest).out.headBox.2.2 1 _ rfl).1, ((hcs.rest).out.headBox.2.2 2 _ rfl).1⟩
    go_wp2_with fail
    refine hK.out _ _ (fun _ => hSm) ?_
    clear hK K
    try simp only [Act.put, List.getElem_toArray, List.getElem_cons_zero, List.getElem_cons_succ, List.setIfInBounds_toArray, List.set_cons_zero, List.set_cons_succ]
    refine wpAnyL_one 3 (by kernel_rfl) rfl (fun K hK => ?_)
    go_simp
    rw [← Hews.out]
    refine hK.out _ _ (fun _ => hSs) ?_
    clear hK K
    try simp only [Act.put, List.getElem_toArray, List.getElem_cons_zero, List.getElem_cons_succ, List.setIfInBounds_toArray, List.set_cons_zero, List.set_cons_succ]
    refine wpAnyL_one 4 (by kernel_rfl) rfl (fun K hK => ?_)
    go_simp
    refine hK.out _ _ (fun h => absurd h (not_rem (by kernel_rfl))) ?_
    clear hK K
    try simp only [Act.put, List.getElem_toArray, List.getElem_cons_zero, List.getElem_cons_succ, List.setIfInBounds_toArray, List.set_cons_zero, List.set_cons_succ]
    refine wpAnyL_done (by kernel_rfl) ?_ _
    have hRt : Cells (((ws.setCell ⟨w.heap.size + 1, 0, none⟩ (.int .i64 m0)).setCell ⟨w.heap.size + 1, 1, none⟩ (.int .i64 m1)).setCell ⟨w.heap.size + 1, 2, none⟩ (.slice va ml ml')) (w.heap.size) [.int .i64 l0, .int .i64 l1, .slice ya al yc] := Cells.fill3' hRs (by omega) _ _ _
    have hQt : Cells (((ws.setCell ⟨w.heap.size + 1, 0, none⟩ (.int .i64 m0)).setCell ⟨w.heap.size + 1, 1, none⟩ (.int .i64 m1)).setCell ⟨w.heap.size + 1, 2, none⟩ (.slice va ml ml')) (w.heap.size + 1) [.int .i64 m0, .int .i64 m1, .slice va ml ml'] := Cells.fill3 hQs _ _ _
    have hct : Cur wA.heap.size (((ws.setCell ⟨w.heap.size + 1, 0, none⟩ (.int .i64 m0)).setCell ⟨w.heap.size + 1, 1, none⟩ (.int .i64 m1)).setCell ⟨w.heap.size + 1, 2, none⟩ (.slice va ml ml')) cb (.slice a xs.length c) xs.length _ := Cur.fill3 hcs z1 _ _ _
    have S0 := (hRt.2 0 _ rfl).1
    have S1 := (hRt.2 1 _ rfl).1
    have S2 := (hRt.2 2 _ rfl).1
    have T0 := (hQt.2 0 _ rfl).1
    have T1 := (hQt.2 1 _ rfl).1
    have T2 := (hQt.2 2 _ rfl).1
    go_wp2_with fail
    refine bodyPost_ret (v := .tuple #[.agg #[.int .i64 l0, .int .i64 l1, .slice ya al yc], .agg #[.int .i64 m0, .int .i64 m1, .slice va ml ml']]) (by simp [results, Tryz.results17, go_sem, S0, S1, S2, T0, T1, T2]) rfl ?_
    exact ⟨_, _, (l0, l1, la), (m0, m1, ma), rfl, hct.rest.rest.labR, hct.labR, Below.fill3 hBs (by omega) _ _ _⟩
  | false =>
    have hwd : Below w4.heap.size w4 w4.drew := (Below.refl _ _).drew
    have HCd := Lib.hid (HC4.out.below hwd)
    have HXd := Lib.hid (HX4.out.trans (hwd.mono hz4))
    have hzd : wA.heap.size ≤ w4.drew.heap.size := Nat.le_trans hz4 hwd.size
    have hSd : w4.drew.cell? ⟨sb, 0, none⟩ = some (.int .i64 l0) ∧ w4.drew.cell? ⟨sb, 1, none⟩ = some (.int .i64 l1) ∧ w4.drew.cell? ⟨sb, 2, none⟩ = some (.slice ya al yc) := ⟨((HCd.out).out.headBox.2.2 0 _ rfl).1, ((HCd.out).out.headBox.2.2 1 _ rfl).1, ((HCd.out).out.headBox.2.2 2 _ rfl).1⟩
    have HL := Lib.hid (l14Bent_c (fun w' hb' => HK.out w' (HXd.out.trans hb')) HCd.out hzd)
    clear hwd HC4 HX4
    go_wp2_with fail
    refine wp_region_L (fun w' => w'.cell? ⟨sb, 0, none⟩ = some (.int .i64 l0) ∧ w'.cell? ⟨sb, 1, none⟩ = some (.int .i64 l1) ∧ w'.cell? ⟨sb, 2, none⟩ = some (.slice ya al yc)) (by kernel_rfl) ?_
    refine wpAnyL_take 0 (v := ?_) rfl (by kernel_rfl) (by kernel_rfl) (by kernel_rfl) (by kernel_rfl) (fun _ _ _ h => h) (Or.inl ⟨by rfl, ?_⟩) hSd ?_
    rotate_left
    · (intro w hSw; (try dsimp only at hSw); go_simp) <;> (try with_reducible rfl)
    try simp only [Act.put, List.getElem_toArray, List.getElem_cons_zero, List.getElem_cons_succ, List.setIfInBounds_toArray, List.set_cons_zero, List.set_cons_succ]
    refine wpAnyL_take 1 (v := ?_) rfl (by kernel_rfl) (by kernel_rfl) (by kernel_rfl) (by kernel_rfl) (fun _ _ _ h => h) (Or.inl ⟨by rfl, ?_⟩) hSd ?_
    rotate_left
    · (intro w hSw; (try dsimp only at hSw); go_simp) <;> (try with_reducible rfl)
    try simp only [Act.put, List.getElem_toArray, List.getElem_cons_zero, List.getElem_cons_succ, List.setIfInBounds_toArray, List.set_cons_zero, List.set_cons_succ]
    refine wpAnyL_one 2 (by kernel_rfl) rfl (fun K hK => ?_)
    go_simp
    (with_reducible refine HL.out.mono ?_)
    rintro e wm ⟨vm, m, rfl, hlm, hc, hb⟩
    have hzm := Nat.le_trans hzd hb.size
    have hcm := hc.labOf hzm
    have HXn := Lib.hid (HXd.out.trans hb)
    obtain ⟨va, ml', rfl⟩ := hcm.labSlice
    obtain ⟨m0, m1, ma⟩ := m
    obtain ⟨ml, hml⟩ : ∃ n, n = ma.length := ⟨_, rfl⟩
    simp only [← hml] at hcm ⊢
    have hSm : wm.cell? ⟨sb, 0, none⟩ = some (.int .i64 l0) ∧ wm.cell? ⟨sb, 1, none⟩ = some (.int .i64 l1) ∧ wm.cell? ⟨sb, 2, none⟩ = some (.slice ya al yc) := ⟨((hcm.rest).out.headBox.2.2 0 _ rfl).1, ((hcm.rest).out.headBox.2.2 1 _ rfl).1, ((hcm.rest).out.headBox.2.2 2 _ rfl).1⟩
    have hRC := Cells.below' RC.out HXn.out z0
    have hQC := Cells.below' QC.out HXn.out z1
    clear hml hlm hc hb HL HCd HXd
    have r0 := (hRC.2 0 _ rfl).1
    have r1 := (hRC.2 1 _ rfl).1
    have r2 := (hRC.2 2 _ rfl).1
    have f0 := (hRC.2 0 _ rfl).2
    have f1 := (hRC.2 1 _ rfl).2
    have f2 := (hRC.2 2 _ rfl).2
    obtain ⟨ws, ews⟩ : ∃ x, x = (((wm.setCell ⟨w.heap.size, 0, none⟩ (.int .i64 l0)).setCell ⟨w.heap.size, 1, none⟩ (.int .i64 l1)).setCell ⟨w.heap.size, 2, none⟩ (.slice ya al yc)) := ⟨_, rfl⟩
    have hRs : Cells ws (w.heap.size) [.int .i64 l0, .int .i64 l1, .slice ya al yc] := by rw [ews]; exact Cells.fill3 hRC _ _ _
    have hQs : Cells ws (w.heap.size + 1) [.int .i64 0, .int .i64 0, .slice none 0 0] := by rw [ews]; exact Cells.fill3' hQC (by omega) _ _ _
    have hcs := Cur.fill3 hcm z0 (.int .i64 l0) (.int .i64 l1) (.slice ya al yc)
    change Cur _ (((wm.setCell ⟨w.heap.size, 0, none⟩ (.int .i64 l0)).setCell ⟨w.heap.size, 1, none⟩ (.int .i64 l1)).setCell ⟨w.heap.size, 2, none⟩ (.slice ya al yc)) _ _ _ _ at hcs
    rw [← ews] at hcs
    have q0 := (hQs.2 0 _ rfl).1
    have q1 := (hQs.2 1 _ rfl).1
    have q2 := (hQs.2 2 _ rfl).1
    have g0 := (hQs.2 0 _ rfl).2
    have g1 := (hQs.2 1 _ rfl).2
    have g2 := (hQs.2 2 _ rfl).2
    have hBs : Below w.heap.size w ws := by rw [ews]; exact (Below.fill3 (HA.out.trans (HXn.out.mono (Nat.le_of_lt z0))) (Nat.le_refl _) _ _ _)
    have Hews := Lib.hid ews
    clear ews
    have hSs : ws.cell? ⟨sb, 0, none⟩ = some (.int .i64 l0) ∧ ws.cell? ⟨sb, 1, none⟩ = some (.int .i64 l1) ∧ ws.cell? ⟨sb, 2, none⟩ = some (.slice ya al yc) := ⟨((hcs.rest).out.headBox.2.2 0 _ rfl).1, ((hcs.rest).out.headBox.2.2 1 _ rfl).1, ((hcs.rest).out.headBox.2.2 2 _ rfl).1⟩
    go_wp2_with fail
    refine hK.out _ _ (fun _ => hSm) ?_
    clear hK K
    try simp only [Act.put, List.getElem_toArray, List.getElem_cons_zero, List.getElem_cons_succ, List.setIfInBounds_toArray, List.set_cons_zero, List.set_cons_succ]
    refine wpAnyL_one 3 (by kernel_rfl) rfl (fun K hK => ?_)
    go_simp
    rw [← Hews.out]
    refine hK.out _ _ (fun _ => hSs) ?_
    clear hK K
    try simp only [Act.put, List.getElem_toArray, List.getElem_cons_zero, List.getElem_cons_succ, List.setIfInBounds_toArray, List.set_cons_zero, List.set_cons_succ]
    refine wpAnyL_one 4 (by kernel_rfl) rfl (fun K hK => ?_)
    go_simp
    refine hK.out _ _ (fun h => absurd h (not_rem (by kernel_rfl))) ?_
    clear hK K
    try simp only [Act.put, List.getElem_toArray, List.getElem_cons_zero, List.getElem_cons_succ, List.setIfInBounds_toArray, List.set_cons_zero, List.set_cons_succ]
    refine wpAnyL_done (by kernel_rfl) ?_ _
    have hRt : Cells (((ws.setCell ⟨w.heap.size + 1, 0, none⟩ (.int .i64 m0)).setCell ⟨w.heap.size + 1, 1, none⟩ (.int .i64 m1)).setCell ⟨w.heap.size + 1, 2, none⟩ (.slice va ml ml')) (w.heap.size) [.int .i64 l0, .int .i64 l1, .slice ya al yc] := Cells.fill3' hRs (by omega) _ _ _
    have hQt : Cells (((ws.setCell ⟨w.heap.size + 1, 0, none⟩ (.int .i64 m0)).setCell ⟨w.heap.size + 1, 1, none⟩ (.int .i64 m1)).setCell ⟨w.heap.size + 1, 2, none⟩ (.slice va ml ml')) (w.heap.size + 1) [.int .i64 m0, .int .i64 m1, .slice va ml ml'] := Cells.fill3 hQs _ _ _
    have hct : Cur wA.heap.size (((ws.setCell ⟨w.heap.size + 1, 0, none⟩ (.int .i64 m0)).setCell ⟨w.heap.size + 1, 1, none⟩ (.int .i64 m1)).setCell ⟨w.heap.size + 1, 2, none⟩ (.slice va ml ml')) cb (.slice a xs.length c) xs.length _ := Cur.fill3 hcs z1 _ _ _
    have S0 := (hRt.2 0 _ rfl).1
    have S1 := (hRt.2 1 _ rfl).1
    have S2 := (hRt.2 2 _ rfl).1
    have T0 := (hQt.2 0 _ rfl).1
    have T1 := (hQt.2 1 _ rfl).1
    have T2 := (hQt.2 2 _ rfl).1
    go_wp2_with fail
    refine bodyPost_ret (v := .tuple #[.agg #[.int .i64 l0, .int .i64 l1, .slice ya al yc], .agg #[.int .i64 m0, .int .i64 m1, .slice va ml ml']]) (by simp [results, Tryz.results17, go_sem, S0, S1, S2, T0, T1, T2]) rfl ?_
    exact ⟨_, _, (l0, l1, la), (m0, m1, ma), rfl, hct.rest.rest.labR, hct.labR, Below.fill3 hBs (by omega) _ _ _⟩
end Go.Proofs.YtcilgihmaaobeaaGreatDoor
end
