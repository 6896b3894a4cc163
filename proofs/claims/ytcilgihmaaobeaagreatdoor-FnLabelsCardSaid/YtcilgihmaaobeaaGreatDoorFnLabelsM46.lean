/-
  Laws for this claim's walks, contracts of the functions that it reaches.
-/
import Derived.Test.YtcilgihmaaobeaaGreatDoorFnLabelsM45
set_option linter.unusedVariables false
set_option linter.unusedSimpArgs false
section
namespace Go.Proofs.YtcilgihmaaobeaaGreatDoor
open Go.RowKit Go.Deep Go.Sd
set_option linter.unusedSimpArgs false
set_option maxHeartbeats 8000000 in
set_option maxRecDepth 100000 in
theorem l14Bent_c {lo : Nat} {w : World} {cb : Nat} {Kv : Value} {xs : List Int} {rs : List Res} (hK : ∀ w', Below lo w w' → BytR w' Kv xs) (hc : Cur lo w cb Kv xs.length rs) (hlo : lo ≤ w.heap.size) :
    Calls Tryz.prog 34 #[.pointer (some ⟨cb, 0, none⟩)] w fun e w' => ∃ (v : Value) (l : Lb), e = .returned v ∧ l.2.2.length ≤ 82 ∧ Cur lo w' cb Kv xs.length (ResLg v l :: rs) ∧ Below lo w w' := by
  have HK := Lib.hid hK
  have hcx := hc.box hlo [.int .i64 0, .int .i64 0, .slice none 0 0] 26
  obtain ⟨wA, eA⟩ : ∃ x, x = w.alloc (.cells #[.int .i64 0, .int .i64 0, .slice none 0 0] 26) := ⟨_, rfl⟩
  have hbA : Below w.heap.size w wA := by rw [eA]; exact (Below.refl _ _).alloc (Nat.le_refl _) _
  have HCA := Lib.hid (show Cur lo wA cb Kv xs.length (Res.box w.heap.size [.int .i64 0, .int .i64 0, .slice none 0 0] :: rs) from by rw [eA]; exact hcx)
  have HBA := Lib.hid (hbA.mono hlo)
  have hzA : lo ≤ wA.heap.size := Nat.le_trans hlo hbA.size
  have HD := Lib.hid (l14Draw_c (fun w' hb => HK.out w' (HBA.out.trans hb)) HCA.out hzA)
  have eAs := eA.symm
  clear hK hc hcx hbA eA
  go_enter Tryz.func34, Tryz.ntmps34
  go_wp2_with fail
  (with_reducible refine HD.out.mono ?_)
  rintro e w1 ⟨v, l, rfl, hln, hc, hb⟩
  have hz1 : lo ≤ w1.heap.size := Nat.le_trans hzA hb.size
  obtain ⟨l0, l1, la⟩ := l
  obtain ⟨G, hG, -⟩ := hc.out.head
  obtain ⟨ya, yc, rfl⟩ := OLabG.slice (show OLabG w1 v (l0, l1, la) G from hG)
  obtain ⟨al, hal⟩ : ∃ n, n = la.length := ⟨_, rfl⟩
  simp only [← hal] at hc hln hG ⊢
  have hc1 : Cur lo w1 cb Kv xs.length (Res.row 68 3 acell (.slice ya al yc) la :: Res.box w.heap.size [.int .i64 0, .int .i64 0, .slice none 0 0] :: rs) := hc.conv hz1 (fun F h => by
    obtain ⟨va, e, h⟩ := h
    simp only [Value.agg.injEq, Array.mk.injEq, List.cons.injEq, true_and, and_true] at e
    subst e
    exact h)
  have HLn := Lib.hid hln
  have Hal := Lib.hid hal
  have HB1 := Lib.hid (HBA.out.trans hb)
  obtain ⟨w2, e2, hb2, c0, c1, c2, m2⟩ := boxA3_ex w1 26 (.int .i64 l0) (.int .i64 l1) (.slice ya al yc)
  have hcx := hc1.box hz1 [.int .i64 l0, .int .i64 l1, .slice ya al yc] 26
  have HC2 := Lib.hid (show Cur lo w2 cb Kv xs.length (Res.box w1.heap.size [.int .i64 l0, .int .i64 l1, .slice ya al yc] :: Res.row 68 3 acell (.slice ya al yc) la :: Res.box w.heap.size [.int .i64 0, .int .i64 0, .slice none 0 0] :: rs) from by rw [← e2]; exact hcx)
  have HB2 := Lib.hid (HB1.out.trans (hb2.mono hz1))
  have hz2 : lo ≤ w2.heap.size := Nat.le_trans hz1 hb2.size
  have HP := Lib.hid (l1Below_i (z := 18) (fun w' hb => HK.out w' (HB2.out.trans hb)) HC2.out hz2 (by omega) (by omega))
  have HE2 := Lib.hid e2
  clear hc hb hG hc1 hcx hb2 hal hln c0 c1 c2 m2 e2 eAs HD HCA HBA HC2 HB1
  go_wp2_with fail
  rw [HE2.out]
  (with_reducible refine HP.out.mono ?_)
  rintro e w3 ⟨x, rfl, hx, hc, hb, ho⟩
  obtain ⟨sb, hsb⟩ : ∃ b, b = w1.heap.size := ⟨_, rfl⟩
  rw [← hsb] at hc ⊢
  have HCz := Lib.hid hc
  have HBz := Lib.hid (HB2.out.trans hb)
  have hz3 : lo ≤ w3.heap.size := Nat.le_trans hz2 hb.size
  clear hx hc hb ho HP HE2 hsb HB2
  by_cases hx0 : x = 0
  · have t0 : ((x : Int) == 0) = true := by simp [hx0]
    have hbd : Below w3.heap.size w3 w3.drew := (Below.refl _ _).drew
    have HCd := Lib.hid (HCz.out.below hbd)
    have HBd := Lib.hid (HBz.out.trans (hbd.mono hz3))
    have hzd : lo ≤ w3.drew.heap.size := Nat.le_trans hz3 hbd.size
    have hSd : w3.drew.cell? ⟨sb, 2, none⟩ = some (.slice ya al yc) := ((HCd.out.out.headBox).2.2 2 _ rfl).1
    have HP1 := Lib.hid (l1Below_i (z := 4) (fun w' hb => HK.out w' (HBd.out.trans hb)) HCd.out hzd (by omega) (by omega))
    clear hbd HCz HBz hx0
    go_wp2_with fail
    refine wp_region_L (fun w' => w'.cell? ⟨sb, 2, none⟩ = some (.slice ya al yc)) (by kernel_rfl) ?_
    refine wpAnyL_take 0 (v := ?_) rfl (by kernel_rfl) (by kernel_rfl) (by kernel_rfl) (by kernel_rfl) (fun _ _ _ h => h) (Or.inl ⟨by rfl, ?_⟩) hSd ?_
    rotate_left
    · (intro w hSw; (try dsimp only at hSw); go_simp) <;> (try with_reducible rfl)
    try simp only [Act.put, List.getElem_toArray, List.getElem_cons_zero, List.getElem_cons_succ, List.setIfInBounds_toArray, List.set_cons_zero, List.set_cons_succ]
    refine wpAnyL_take 1 (v := ?_) rfl (by kernel_rfl) (by kernel_rfl) (by kernel_rfl) (by kernel_rfl) (fun _ _ _ h => h) (Or.inl ⟨by rfl, ?_⟩) hSd ?_
    rotate_left
    · (intro w hSw; (try dsimp only at hSw); go_simp) <;> (try with_reducible rfl)
    try simp only [Act.put, List.getElem_toArray, List.getElem_cons_zero, List.getElem_cons_succ, List.setIfInBounds_toArray, List.set_cons_zero, List.set_cons_succ]
    refine wpAnyL_take 2 (v := ?_) rfl (by kernel_rfl) (by kernel_rfl) (by kernel_rfl) (by kernel_rfl) (fun _ _ _ h => h) (Or.inl ⟨by rfl, ?_⟩) hSd ?_
    rotate_left
    · (intro w hSw; (try dsimp only at hSw); go_simp) <;> (try with_reducible rfl)
    try simp only [Act.put, List.getElem_toArray, List.getElem_cons_zero, List.getElem_cons_succ, List.setIfInBounds_toArray, List.set_cons_zero, List.set_cons_succ]
    refine wpAnyL_take 5 (v := ?_) rfl (by kernel_rfl) (by kernel_rfl) (by kernel_rfl) (by kernel_rfl) (fun _ _ _ h => h) (Or.inl ⟨by rfl, ?_⟩) hSd ?_
    rotate_left
    · (intro w hSw; (try dsimp only at hSw); go_simp) <;> (try with_reducible rfl)
    try simp only [Act.put, List.getElem_toArray, List.getElem_cons_zero, List.getElem_cons_succ, List.setIfInBounds_toArray, List.set_cons_zero, List.set_cons_succ]
    refine wpAnyL_one 3 (by kernel_rfl) rfl (fun K hK => ?_)
    go_simp
    (with_reducible refine HP1.out.mono ?_)
    rintro e wu ⟨q1, rfl, hq, hc, hb, ho⟩
    have HCwu := Lib.hid hc
    have HBwu := Lib.hid (HBd.out.trans hb)
    have hzwu : lo ≤ wu.heap.size := Nat.le_trans hzd hb.size
    have hSwu : wu.cell? ⟨sb, 2, none⟩ = some (.slice ya al yc) := ((hc.out.headBox).2.2 2 _ rfl).1
    have hq4 : q1 < 4 := hq
    have HPwu := Lib.hid (l1Below_i (z := 3) (fun w' hb => HK.out w' (HBwu.out.trans hb)) hc hzwu (by omega) (by omega))
    obtain ⟨Q1, hQ1⟩ : ∃ z : Int, z = (q1 : Int) - 1 := ⟨_, rfl⟩
    have hQ3 : (q1 : Int) - 1 = Q1 := hQ1.symm
    have hQ2 : IntKind.i64.wrap Q1 = Q1 := IntWalk.i64_in _ (by omega)
    clear hQ1 hc
    clear hb ho HP1
    go_wp2_with fail
    refine hK.out _ _ (fun _ => hSwu) ?_
    clear hK K
    try simp only [Act.put, List.getElem_toArray, List.getElem_cons_zero, List.getElem_cons_succ, List.setIfInBounds_toArray, List.set_cons_zero, List.set_cons_succ]
    refine wpAnyL_take 4 (v := ?_) rfl (by kernel_rfl) (by kernel_rfl) (by kernel_rfl) (by kernel_rfl) (fun _ _ _ h => h) (Or.inl ⟨by rfl, ?_⟩) hSwu ?_
    rotate_left
    · (intro w hSw; (try dsimp only at hSw); go_simp) <;> (try with_reducible rfl)
    try simp only [Act.put, List.getElem_toArray, List.getElem_cons_zero, List.getElem_cons_succ, List.setIfInBounds_toArray, List.set_cons_zero, List.set_cons_succ]
    refine wpAnyL_one 6 (by kernel_rfl) rfl (fun K hK => ?_)
    go_simp
    (with_reducible refine HPwu.out.mono ?_)
    rintro e wv ⟨q2, rfl, hq, hc, hb, ho⟩
    have HCwv := Lib.hid hc
    have HBwv := Lib.hid (HBwu.out.trans hb)
    have hzwv : lo ≤ wv.heap.size := Nat.le_trans hzwu hb.size
    have hSwv : wv.cell? ⟨sb, 2, none⟩ = some (.slice ya al yc) := ((hc.out.headBox).2.2 2 _ rfl).1
    obtain ⟨i0, h0, hi0, hs0⟩ := hc
    obtain ⟨wx, ewx⟩ : ∃ x, x = wv.alloc (.cells #[.int .i64 Q1, .int .i64 0, .int .i64 q2] 68) := ⟨_, rfl⟩
    have hbx : Below wv.heap.size wv wx := by rw [ewx]; exact (Below.refl _ _).alloc (Nat.le_refl _) _
    obtain ⟨v5, w5', hr5, hs5, hb5⟩ := (hs0.perm ((List.Perm.cons _ (List.Perm.swap _ _ _)).trans (List.Perm.swap _ _ _))).pushG (P := Tryz.prog) acell_lay 24 24 (.agg #[.int .i64 0, .int .i64 0, .int .i64 0]) 24 Tryz.underlying24 infoA rfl hzwv (w1 := wx) hbx (Q1, (0 : Int), (q2 : Int)) (bb := wv.heap.size) 1 (fun j u hj => by
      rw [ewx, World.cell?_alloc_at _ _ _ j rfl]
      simpa [acell] using hj) (by have := Hal.out; have := HLn.out; omega) (by have := Hal.out; have := HLn.out; omega)
    obtain ⟨va5, c5, rfl, -⟩ := hs5.rowAt acell_lay
    obtain ⟨n5, hn5⟩ : ∃ n, n = (la ++ [(Q1, (0 : Int), (q2 : Int))]).length := ⟨_, rfl⟩
    rw [← hn5] at hr5 hs5
    have HL5 := Lib.hid (show (la ++ [(Q1, (0 : Int), (q2 : Int))]).length ≤ 82 from by have := Hal.out; have := HLn.out; rw [List.length_append, List.length_singleton]; omega)
    have hc5 : Cur lo w5' cb Kv xs.length (Res.box sb [.int .i64 l0, .int .i64 l1, .slice ya al yc] :: Res.row 68 3 acell (.slice va5 n5 c5) (la ++ [(Q1, (0 : Int), (q2 : Int))]) :: Res.box w.heap.size [.int .i64 0, .int .i64 0, .slice none 0 0] :: rs) := ⟨i0, h0, hi0, hs5.perm ((List.Perm.swap _ _ _).trans (List.Perm.cons _ (List.Perm.swap _ _ _)))⟩
    have hz5 : lo ≤ w5'.heap.size := Nat.le_trans hzwv hb5.size
    obtain ⟨-, -, hcl⟩ := hc5.out.headBox
    have d2 := (hcl 2 _ rfl).1
    have u2 := (hcl 2 _ rfl).2
    have HB6 := Lib.hid (hc5.storeBelow (HBwv.out.trans hb5) 2 (.slice va5 n5 c5))
    have HC6 := Lib.hid (hc5.store hz5 (j := 2) rfl (.slice va5 n5 c5))
    have hS5 : w5'.cell? ⟨sb, 2, none⟩ = some (.slice ya al yc) := d2
    have hSx : wx.cell? ⟨sb, 2, none⟩ = some (.slice ya al yc) := (hbx.cell (p := ⟨sb, 2, none⟩) (World.block_lt_of_cell? _ _ hSwv)).trans hSwv
    have Hr5 := Lib.hid hr5
    have ewxs := Lib.hid ewx.symm
    clear hs0 hr5 hs5 hb5 hc5 hbx ewx hcl hn5
    clear hb ho HPwu
    go_wp2_with fail
    refine hK.out _ _ (fun _ => hSwv) ?_
    clear hK K
    try simp only [Act.put, List.getElem_toArray, List.getElem_cons_zero, List.getElem_cons_succ, List.setIfInBounds_toArray, List.set_cons_zero, List.set_cons_succ]
    refine wpAnyL_take 7 (v := ?_) rfl (by kernel_rfl) (by kernel_rfl) (by kernel_rfl) (by kernel_rfl) (fun _ _ _ h => h) (Or.inl ⟨by rfl, ?_⟩) hSwv ?_
    rotate_left
    · (intro w hSw; (try dsimp only at hSw); go_simp) <;> (try with_reducible rfl)
    try simp only [Act.put, List.getElem_toArray, List.getElem_cons_zero, List.getElem_cons_succ, List.setIfInBounds_toArray, List.set_cons_zero, List.set_cons_succ]
    refine wpAnyL_one 8 (by kernel_rfl) rfl (fun K hK => ?_)
    go_simp
    refine hK.out _ _ (fun _ => (by rw [ewxs.out]; exact hSx)) ?_
    clear hK K
    try simp only [Act.put, List.getElem_toArray, List.getElem_cons_zero, List.getElem_cons_succ, List.setIfInBounds_toArray, List.set_cons_zero, List.set_cons_succ]
    rw [ewxs.out]
    refine wpAnyL_one 9 (by kernel_rfl) rfl (fun K hK => ?_)
    refine step_append_run (by rfl) (.tmp 11) (.tmp 18) 24 (by rfl) (by rfl) (by rfl) Hr5.out ?_
    refine hK.out _ _ (fun _ => hS5) ?_
    clear hK K
    try simp only [Act.put, List.getElem_toArray, List.getElem_cons_zero, List.getElem_cons_succ, List.setIfInBounds_toArray, List.set_cons_zero, List.set_cons_succ]
    refine wpAnyL_take 10 (v := ?_) rfl (by kernel_rfl) (by kernel_rfl) (by kernel_rfl) (by kernel_rfl) (fun _ _ _ h => h) (Or.inl ⟨by rfl, ?_⟩) hS5 ?_
    rotate_left
    · (intro w hSw; (try dsimp only at hSw); go_simp) <;> (try with_reducible rfl)
    try simp only [Act.put, List.getElem_toArray, List.getElem_cons_zero, List.getElem_cons_succ, List.setIfInBounds_toArray, List.set_cons_zero, List.set_cons_succ]
    refine wpAnyL_one 11 (by kernel_rfl) rfl (fun K hK => ?_)
    go_simp
    refine hK.out _ _ (fun h => absurd h (not_rem (by kernel_rfl))) ?_
    clear hK K
    try simp only [Act.put, List.getElem_toArray, List.getElem_cons_zero, List.getElem_cons_succ, List.setIfInBounds_toArray, List.set_cons_zero, List.set_cons_succ]
    refine wpAnyL_done (by kernel_rfl) ?_ _
    obtain ⟨w6, e6⟩ : ∃ x, x = w5'.setCell ⟨sb, 2, none⟩ (.slice va5 n5 c5) := ⟨_, rfl⟩
    rw [← e6] at HC6 HB6 ⊢
    have hz6 : lo ≤ w6.heap.size := by rw [e6]; simpa using hz5
    have HC6' := Lib.hid (show Cur lo w6 cb Kv xs.length (Res.box sb [.int .i64 l0, .int .i64 l1, .slice va5 n5 c5] :: Res.row 68 3 acell (.slice va5 n5 c5) (la ++ [(Q1, (0 : Int), (q2 : Int))]) :: Res.box w.heap.size [.int .i64 0, .int .i64 0, .slice none 0 0] :: rs) from HC6.out)
    clear e6 HC6 d2 u2 hS5 hSx hSwu hSwv hSd Hr5 ewxs HCwu HBwu HCwv HBwv HCd HBd
    have hcE := HC6'.out
    obtain ⟨-, -, hcB⟩ := hcE.out.headBox
    have k0 := (hcB 0 _ rfl).1
    have k1 := (hcB 1 _ rfl).1
    have k2 := (hcB 2 _ rfl).1
    have hr := hcE.rest.perm2'.perm (List.Perm.refl _)
    clear hcE hcB
    obtain ⟨-, -, hcr⟩ := hr.out.headBox
    have r0 := (hcr 0 _ rfl).1
    have f0 := (hcr 0 _ rfl).2
    have r1 := (hcr 1 _ rfl).1
    have f1 := (hcr 1 _ rfl).2
    have r2 := (hcr 2 _ rfl).1
    have f2 := (hcr 2 _ rfl).2
    have hs1 := hr.store hz6 (j := 0) rfl (.int .i64 l0)
    have hB1 := hr.storeBelow HB6.out 0 (.int .i64 l0)
    have hs2 := hs1.store (by simpa using hz6) (j := 1) rfl (.int .i64 l1)
    have hB2 := hs1.storeBelow hB1 1 (.int .i64 l1)
    have hs3 := hs2.store (by simpa using hz6) (j := 2) rfl (.slice va5 n5 c5)
    have hB3 := hs2.storeBelow hB2 2 (.slice va5 n5 c5)
    obtain ⟨-, -, hcs⟩ := hs3.out.headBox
    have S0 := Lib.hid (hcs 0 (.int .i64 l0) rfl).1
    have S1 := Lib.hid (hcs 1 (.int .i64 l1) rfl).1
    have S2 := Lib.hid (hcs 2 (.slice va5 n5 c5) rfl).1
    have HC3 := Lib.hid hs3.rest
    have HB3 := Lib.hid hB3
    clear hcr hcs hs1 hs2 hs3 hB1 hB2 hB3
    have HCv := Lib.hid (HC3.out.conv (s := ResLg (.agg #[.int .i64 l0, .int .i64 l1, .slice va5 n5 c5]) (l0, l1, la ++ [(Q1, (0 : Int), (q2 : Int))])) (by simpa using hz6) (fun F h => ⟨_, rfl, h⟩))
    clear hr HC3 HC6' HB6
    go_wp2_with fail
    refine bodyPost_ret (v := .agg #[.int .i64 l0, .int .i64 l1, .slice va5 n5 c5]) (by simp [results, Tryz.results34, go_sem, S0.out, S1.out, S2.out]) rfl ?_
    exact ⟨_, (l0, l1, la ++ [(Q1, (0 : Int), (q2 : Int))]), rfl, HL5.out, HCv.out, HB3.out⟩
  · have t0 : ((x : Int) == 0) = false := by simp [hx0]
    by_cases hx1 : x = 1
    · have t1 : ((x : Int) == 1) = true := by simp [hx1]
      have hcx := HCz.out.box hz3 (([0, 4, 1, 3] : List Int).map (Value.int .i64)) 3
      obtain ⟨w4, e4⟩ : ∃ x, x = w3.alloc (.cells #[.int .i64 0, .int .i64 4, .int .i64 1, .int .i64 3] 3) := ⟨_, rfl⟩
      have HC4 := Lib.hid (show Cur lo w4 cb Kv xs.length (Res.box w3.heap.size (([0, 4, 1, 3] : List Int).map (Value.int .i64)) :: Res.box sb [.int .i64 l0, .int .i64 l1, .slice ya al yc] :: Res.row 68 3 acell (.slice ya al yc) la :: Res.box w.heap.size [.int .i64 0, .int .i64 0, .slice none 0 0] :: rs) from by rw [e4]; exact hcx)
      have hb4 : Below w3.heap.size w3 w4 := by rw [e4]; exact (Below.refl _ _).alloc (Nat.le_refl _) _
      have HB4 := Lib.hid (HBz.out.trans (hb4.mono hz3))
      have hz4 : lo ≤ w4.heap.size := Nat.le_trans hz3 hb4.size
      have HP := Lib.hid (show Calls Tryz.prog 36 #[.pointer (some ⟨cb, 0, none⟩), .slice (some ⟨w3.heap.size, 0, none⟩) 4 4] w4 _ from l1PickInt_c (ls := [0, 4, 1, 3]) (c := 4) (fun w' hb => HK.out w' (HB4.out.trans hb)) HC4.out hz4 (by decide) (by decide))
      have e4s := e4.symm
      clear hcx hb4 e4 HCz HBz hx0 hx1
      go_wp2_with fail
      (with_reducible refine HP.out.mono ?_)
      rintro e w5 ⟨y, rfl, hy, hc, hb, ho⟩
      have hz5 : lo ≤ w5.heap.size := Nat.le_trans hz4 hb.size
      have hc5 := hc.rest
      obtain ⟨-, -, hcl⟩ := hc5.out.headBox
      have d0 := (hcl 0 _ rfl).1
      have u0 := (hcl 0 _ rfl).2
      have HB6 := Lib.hid (hc5.storeBelow (HB4.out.trans hb) 0 (.int .i64 y))
      have hc6 := hc5.store hz5 (j := 0) rfl (.int .i64 y)
      obtain ⟨w6, e6⟩ : ∃ x, x = w5.setCell ⟨sb, 0, none⟩ (.int .i64 y) := ⟨_, rfl⟩
      rw [← e6] at hc6 HB6
      have hz6 : lo ≤ w6.heap.size := by rw [e6]; simpa using hz5
      have HC6 := Lib.hid hc6
      have e6s := e6.symm
      clear hy hc hb ho hc5 hcl hc6 e6 e4s HP HC4 HB4
      have hcE := (show Cur lo w6 cb Kv xs.length (Res.box sb [.int .i64 y, .int .i64 l1, .slice ya al yc] :: Res.row 68 3 acell (.slice ya al yc) la :: Res.box w.heap.size [.int .i64 0, .int .i64 0, .slice none 0 0] :: rs) from HC6.out)
      obtain ⟨-, -, hcB⟩ := hcE.out.headBox
      have k0 := (hcB 0 _ rfl).1
      have k1 := (hcB 1 _ rfl).1
      have k2 := (hcB 2 _ rfl).1
      have hr := hcE.rest.perm2'.perm (List.Perm.refl _)
      clear hcE hcB
      obtain ⟨-, -, hcr⟩ := hr.out.headBox
      have r0 := (hcr 0 _ rfl).1
      have f0 := (hcr 0 _ rfl).2
      have r1 := (hcr 1 _ rfl).1
      have f1 := (hcr 1 _ rfl).2
      have r2 := (hcr 2 _ rfl).1
      have f2 := (hcr 2 _ rfl).2
      have hs1 := hr.store hz6 (j := 0) rfl (.int .i64 y)
      have hB1 := hr.storeBelow HB6.out 0 (.int .i64 y)
      have hs2 := hs1.store (by simpa using hz6) (j := 1) rfl (.int .i64 l1)
      have hB2 := hs1.storeBelow hB1 1 (.int .i64 l1)
      have hs3 := hs2.store (by simpa using hz6) (j := 2) rfl (.slice ya al yc)
      have hB3 := hs2.storeBelow hB2 2 (.slice ya al yc)
      obtain ⟨-, -, hcs⟩ := hs3.out.headBox
      have S0 := Lib.hid (hcs 0 (.int .i64 y) rfl).1
      have S1 := Lib.hid (hcs 1 (.int .i64 l1) rfl).1
      have S2 := Lib.hid (hcs 2 (.slice ya al yc) rfl).1
      have HC3 := Lib.hid hs3.rest
      have HB3 := Lib.hid hB3
      clear hcr hcs hs1 hs2 hs3 hB1 hB2 hB3
      have HCv := Lib.hid (HC3.out.conv (s := ResLg (.agg #[.int .i64 y, .int .i64 l1, .slice ya al yc]) (y, l1, la)) (by simpa using hz6) (fun F h => ⟨_, rfl, h⟩))
      clear hr HC3 HC6 HB6
      go_wp2_with fail
      refine bodyPost_ret (v := .agg #[.int .i64 y, .int .i64 l1, .slice ya al yc]) (by simp [results, Tryz.results34, go_sem, S0.out, S1.out, S2.out]) rfl ?_
      exact ⟨_, (y, l1, la), rfl, by have := HLn.out; have := Hal.out; simp only; omega, HCv.out, HB3.out⟩
    · have t1 : ((x : Int) == 1) = false := by simp; omega
      clear hx0 hx1
      have hcE := HCz.out
      obtain ⟨-, -, hcB⟩ := hcE.out.headBox
      have k0 := (hcB 0 _ rfl).1
      have k1 := (hcB 1 _ rfl).1
      have k2 := (hcB 2 _ rfl).1
      have hr := hcE.rest.perm2'.perm (List.Perm.refl _)
      clear hcE hcB
      obtain ⟨-, -, hcr⟩ := hr.out.headBox
      have r0 := (hcr 0 _ rfl).1
      have f0 := (hcr 0 _ rfl).2
      have r1 := (hcr 1 _ rfl).1
      have f1 := (hcr 1 _ rfl).2
      have r2 := (hcr 2 _ rfl).1
      have f2 := (hcr 2 _ rfl).2
      have hs1 := hr.store hz3 (j := 0) rfl (.int .i64 l0)
      have hB1 := hr.storeBelow HBz.out 0 (.int .i64 l0)
      have hs2 := hs1.store (by simpa using hz3) (j := 1) rfl (.int .i64 l1)
      have hB2 := hs1.storeBelow hB1 1 (.int .i64 l1)
      have hs3 := hs2.store (by simpa using hz3) (j := 2) rfl (.slice ya al yc)
      have hB3 := hs2.storeBelow hB2 2 (.slice ya al yc)
      obtain ⟨-, -, hcs⟩ := hs3.out.headBox
      have S0 := Lib.hid (hcs 0 (.int .i64 l0) rfl).1
      have S1 := Lib.hid (hcs 1 (.int .i64 l1) rfl).1
      have S2 := Lib.hid (hcs 2 (.slice ya al yc) rfl).1
      have HC3 := Lib.hid hs3.rest
      have HB3 := Lib.hid hB3
      clear hcr hcs hs1 hs2 hs3 hB1 hB2 hB3
      have HCv := Lib.hid (HC3.out.conv (s := ResLg (.agg #[.int .i64 l0, .int .i64 l1, .slice ya al yc]) (l0, l1, la)) (by simpa using hz3) (fun F h => ⟨_, rfl, h⟩))
      clear hr HC3 
      go_wp2_with fail
      refine bodyPost_ret (v := .agg #[.int .i64 l0, .int .i64 l1, .slice ya al yc]) (by simp [results, Tryz.results34, go_sem, S0.out, S1.out, S2.out]) rfl ?_
      exact ⟨_, (l0, l1, la), rfl, by have := HLn.out; have := Hal.out; simp only; omega, HCv.out, HB3.out⟩
end Go.Proofs.YtcilgihmaaobeaaGreatDoor
end
