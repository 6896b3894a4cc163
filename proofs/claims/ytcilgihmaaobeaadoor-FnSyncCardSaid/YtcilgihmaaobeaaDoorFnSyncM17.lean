/-
  Texts of this claim joined: laws for its walks, contracts of the functions that the law reaches.
-/
import Derived.Test.YtcilgihmaaobeaaDoorFnSyncM16
import Derived.Test.YtcilgihmaaobeaaDoorFnSyncM1
import Derived.Test.YtcilgihmaaobeaaDoorFnSyncM4
import Derived.Test.YtcilgihmaaobeaaDoorFnSyncM13
import Derived.Test.YtcilgihmaaobeaaDoorFnSyncM5
import Derived.Test.YtcilgihmaaobeaaDoorFnSyncM9
import Derived.Test.YtcilgihmaaobeaaDoorRows
import Derived.Test.YtcilgihmaaobeaaDoorFnSyncM3
import Derived.Test.YtcilgihmaaobeaaDoorFnSyncM2
import Derived.Test.YtcilgihmaaobeaaDoorFnSyncM14
import Derived.Test.YtcilgihmaaobeaaDoorFnSyncM6
set_option linter.unusedVariables false
set_option linter.unusedSimpArgs false
section
namespace Go.Proofs.YtcilgihmaaobeaaDoor
open Go.RowKit Go.Deep Go.Sd
set_option linter.unusedSimpArgs false
set_option maxHeartbeats 8000000 in
set_option maxRecDepth 100000 in
theorem l14Bent_c {lo : Nat} {w : World} {cb : Nat} {Kv : Value} {xs : List Int} {rs : List Res} (hK : ∀ w', Below lo w w' → BytR w' Kv xs) (hc : Cur lo w cb Kv xs.length rs) (hlo : lo ≤ w.heap.size) :
    Calls Tryd.prog 53 #[.pointer (some ⟨cb, 0, none⟩)] w fun e w' => ∃ (v : Value) (l : Lb), e = .returned v ∧ l.2.2.length ≤ 82 ∧ Cur lo w' cb Kv xs.length (ResLg v l :: rs) ∧ Below lo w w' := by
  have HK := Lib.hid hK
  have hcx := hc.box hlo [.int .i64 0, .int .i64 0, .slice none 0 0] 26
  obtain ⟨wA, eA⟩ : ∃ x, x = w.alloc (.cells #[.int .i64 0, .int .i64 0, .slice none 0 0] 26) := ⟨_, rfl⟩
  have hbA : Below w.heap.size w wA := by rw [eA]; exact (Below.refl _ _).alloc (Nat.le_refl _) _
  have HCA := Lib.hid (show Cur lo wA cb Kv xs.length (Res.box w.heap.size [.int .i64 0, .int .i64 0, .slice none 0 0] :: rs) from by rw [eA]; exact hcx)
  have HBA := Lib.hid (hbA.mono hlo)
  have hzA : lo ≤ wA.heap.size := Nat.le_trans hlo hbA.size
  have HD := Lib.hid (l14Draw_c (fun w' hb => HK.out w' (HBA.out.trans hb)) HCA.out hzA)
  have eAs := eA.symm
  clear hK hc hcx hbA eA
  go_enter Tryd.func53, Tryd.ntmps53
  go_wp2_with fail
  (with_reducible refine HD.out.mono ?_)
  rintro e w1 ⟨v, l, rfl, hln, hc, hb⟩
  have hz1 : lo ≤ w1.heap.size := Nat.le_trans hzA hb.size
  obtain ⟨l0, l1, la⟩ := l
  obtain ⟨G, hG, -⟩ := hc.out.head
  obtain ⟨ya, yc, rfl⟩ := OLabG.slice (show OLabG w1 v (l0, l1, la) G from hG)
  obtain ⟨al, hal⟩ : ∃ n, n = la.length := ⟨_, rfl⟩
  simp only [← hal] at hc hln hG ⊢
  have hc1 : Cur lo w1 cb Kv xs.length (Res.row 80 3 acell (.slice ya al yc) la :: Res.box w.heap.size [.int .i64 0, .int .i64 0, .slice none 0 0] :: rs) := hc.conv hz1 (fun F h => by
    obtain ⟨va, e, h⟩ := h
    simp only [Value.agg.injEq, Array.mk.injEq, List.cons.injEq, true_and, and_true] at e
    subst e
    exact h)
  have HLn := Lib.hid hln
  have Hal := Lib.hid hal
  have HB1 := Lib.hid (HBA.out.trans hb)
  obtain ⟨w2, e2, hb2, c0, c1, c2, m2⟩ := boxA3_ex w1 26 (.int .i64 l0) (.int .i64 l1) (.slice ya al yc)
  have hcx := hc1.box hz1 [.int .i64 l0, .int .i64 l1, .slice ya al yc] 26
  have HC2 := Lib.hid (show Cur lo w2 cb Kv xs.length (Res.box w1.heap.size [.int .i64 l0, .int .i64 l1, .slice ya al yc] :: Res.row 80 3 acell (.slice ya al yc) la :: Res.box w.heap.size [.int .i64 0, .int .i64 0, .slice none 0 0] :: rs) from by rw [← e2]; exact hcx)
  have HB2 := Lib.hid (HB1.out.trans (hb2.mono hz1))
  have hz2 : lo ≤ w2.heap.size := Nat.le_trans hz1 hb2.size
  have HP := Lib.hid (l1Below_i (z := 18) (fun w' hb => HK.out w' (HB2.out.trans hb)) HC2.out hz2 (by omega) (by omega))
  have HE2 := Lib.hid e2
  clear hc hb hG hc1 hcx hb2 hal hln c0 c1 c2 m2 e2 eAs HD HCA HBA HC2 HB1
  go_wp2_with fail
  rw [HE2.out]
  (with_reducible refine HP.out.mono ?_)
  rintro e w3 ⟨x, rfl, hx, hc, hb, ho⟩
  obtain ⟨sb, hsb⟩ : ∃ b, b = w1.heap.size := ⟨_, rfl⟩
  rw [← hsb] at hc ⊢
  have HCz := Lib.hid hc
  have HBz := Lib.hid (HB2.out.trans hb)
  have hz3 : lo ≤ w3.heap.size := Nat.le_trans hz2 hb.size
  clear hx hc hb ho HP HE2 hsb HB2
  by_cases hx0 : x = 0
  · have t0 : ((x : Int) == 0) = true := by simp [hx0]
    have hbd : Below w3.heap.size w3 w3.drew := (Below.refl _ _).drew
    have HCd := Lib.hid (HCz.out.below hbd)
    have HBd := Lib.hid (HBz.out.trans (hbd.mono hz3))
    have hzd : lo ≤ w3.drew.heap.size := Nat.le_trans hz3 hbd.size
    have hSd : w3.drew.cell? ⟨sb, 2, none⟩ = some (.slice ya al yc) := ((HCd.out.out.headBox).2.2 2 _ rfl).1
    have HP1 := Lib.hid (l1Below_i (z := 4) (fun w' hb => HK.out w' (HBd.out.trans hb)) HCd.out hzd (by omega) (by omega))
    clear hbd HCz HBz hx0
    go_wp2_with fail
    refine wp_region_L (fun w' => w'.cell? ⟨sb, 2, none⟩ = some (.slice ya al yc)) (by kernel_rfl) ?_
    refine wpAnyL_take 0 (v := ?_) rfl (by kernel_rfl) (by kernel_rfl) (by kernel_rfl) (by kernel_rfl) (fun _ _ _ h => h) (Or.inl ⟨by rfl, ?_⟩) hSd ?_
    rotate_left
    · (intro w hSw; (try dsimp only at hSw); go_simp) <;> (try with_reducible rfl)
    try simp only [Act.put, List.getElem_toArray, List.getElem_cons_zero, List.getElem_cons_succ, List.setIfInBounds_toArray, List.set_cons_zero, List.set_cons_succ]
    refine wpAnyL_take 1 (v := ?_) rfl (by kernel_rfl) (by kernel_rfl) (by kernel_rfl) (by kernel_rfl) (fun _ _ _ h => h) (Or.inl ⟨by rfl, ?_⟩) hSd ?_
    rotate_left
    · (intro w hSw; (try dsimp only at hSw); go_simp) <;> (try with_reducible rfl)
    try simp only [Act.put, List.getElem_toArray, List.getElem_cons_zero, List.getElem_cons_succ, List.setIfInBounds_toArray, List.set_cons_zero, List.set_cons_succ]
    refine wpAnyL_take 2 (v := ?_) rfl (by kernel_rfl) (by kernel_rfl) (by kernel_rfl) (by kernel_rfl) (fun _ _ _ h => h) (Or.inl ⟨by rfl, ?_⟩) hSd ?_
    rotate_left
    · (intro w hSw; (try dsimp only at hSw); go_simp) <;> (try with_reducible rfl)
    try simp only [Act.put, List.getElem_toArray, List.getElem_cons_zero, List.getElem_cons_succ, List.setIfInBounds_toArray, List.set_cons_zero, List.set_cons_succ]
    refine wpAnyL_take 5 (v := ?_) rfl (by kernel_rfl) (by kernel_rfl) (by kernel_rfl) (by kernel_rfl) (fun _ _ _ h => h) (Or.inl ⟨by rfl, ?_⟩) hSd ?_
    rotate_left
    · (intro w hSw; (try dsimp only at hSw); go_simp) <;> (try with_reducible rfl)
    try simp only [Act.put, List.getElem_toArray, List.getElem_cons_zero, List.getElem_cons_succ, List.setIfInBounds_toArray, List.set_cons_zero, List.set_cons_succ]
    refine wpAnyL_one 3 (by kernel_rfl) rfl (fun K hK => ?_)
    go_simp
    (with_reducible refine HP1.out.mono ?_)
    rintro e wu ⟨q1, rfl, hq, hc, hb, ho⟩
    have HCwu := Lib.hid hc
    have HBwu := Lib.hid (HBd.out.trans hb)
    have hzwu : lo ≤ wu.heap.size := Nat.le_trans hzd hb.size
    have hSwu : wu.cell? ⟨sb, 2, none⟩ = some (.slice ya al yc) := ((hc.out.headBox).2.2 2 _ rfl).1
    have hq4 : q1 < 4 := hq
    have HPwu := Lib.hid (l1Below_i (z := 3) (fun w' hb => HK.out w' (HBwu.out.trans hb)) hc hzwu (by omega) (by omega))
    obtain ⟨Q1, hQ1⟩ : ∃ z : Int, z = (q1 : Int) - 1 := ⟨_, rfl⟩
    have hQ3 : (q1 : Int) - 1 = Q1 := hQ1.symm
    have hQ2 : IntKind.i64.wrap Q1 = Q1 := IntWalk.i64_in _ (by omega)
    clear hQ1 hc
    clear hb ho HP1
    go_wp2_with fail
    refine hK.out _ _ (fun _ => hSwu) ?_
    clear hK K
    try simp only [Act.put, List.getElem_toArray, List.getElem_cons_zero, List.getElem_cons_succ, List.setIfInBounds_toArray, List.set_cons_zero, List.set_cons_succ]
    refine wpAnyL_take 4 (v := ?_) rfl (by kernel_rfl) (by kernel_rfl) (by kernel_rfl) (by kernel_rfl) (fun _ _ _ h => h) (Or.inl ⟨by rfl, ?_⟩) hSwu ?_
    rotate_left
    · (intro w hSw; (try dsimp only at hSw); go_simp) <;> (try with_reducible rfl)
    try simp only [Act.put, List.getElem_toArray, List.getElem_cons_zero, List.getElem_cons_succ, List.setIfInBounds_toArray, List.set_cons_zero, List.set_cons_succ]
    refine wpAnyL_one 6 (by kernel_rfl) rfl (fun K hK => ?_)
    go_simp
    (with_reducible refine HPwu.out.mono ?_)
    rintro e wv ⟨q2, rfl, hq, hc, hb, ho⟩
    have HCwv := Lib.hid hc
    have HBwv := Lib.hid (HBwu.out.trans hb)
    have hzwv : lo ≤ wv.heap.size := Nat.le_trans hzwu hb.size
    have hSwv : wv.cell? ⟨sb, 2, none⟩ = some (.slice ya al yc) := ((hc.out.headBox).2.2 2 _ rfl).1
    obtain ⟨i0, h0, hi0, hs0⟩ := hc
    obtain ⟨wx, ewx⟩ : ∃ x, x = wv.alloc (.cells #[.int .i64 Q1, .int .i64 0, .int .i64 q2] 80) := ⟨_, rfl⟩
    have hbx : Below wv.heap.size wv wx := by rw [ewx]; exact (Below.refl _ _).alloc (Nat.le_refl _) _
    obtain ⟨v5, w5', hr5, hs5, hb5⟩ := (hs0.perm ((List.Perm.cons _ (List.Perm.swap _ _ _)).trans (List.Perm.swap _ _ _))).pushG (P := Tryd.prog) acell_lay 24 24 (.agg #[.int .i64 0, .int .i64 0, .int .i64 0]) 24 Tryd.underlying24 infoA rfl hzwv (w1 := wx) hbx (Q1, (0 : Int), (q2 : Int)) (bb := wv.heap.size) 1 (fun j u hj => by
      rw [ewx, World.cell?_alloc_at _ _ _ j rfl]
      simpa [acell] using hj) (by have := Hal.out; have := HLn.out; omega) (by have := Hal.out; have := HLn.out; omega)
    obtain ⟨va5, c5, rfl, -⟩ := hs5.rowAt acell_lay
    obtain ⟨n5, hn5⟩ : ∃ n, n = (la ++ [(Q1, (0 : Int), (q2 : Int))]).length := ⟨_, rfl⟩
    rw [← hn5] at hr5 hs5
    have HL5 := Lib.hid (show (la ++ [(Q1, (0 : Int), (q2 : Int))]).length ≤ 82 from by have := Hal.out; have := HLn.out; rw [List.length_append, List.length_singleton]; omega)
    have hc5 : Cur lo w5' cb Kv xs.length (Res.box sb [.int .i64 l0, .int .i64 l1, .slice ya al yc] :: Res.row 80 3 acell (.slice va5 n5 c5) (la ++ [(Q1, (0 : Int), (q2 : Int))]) :: Res.box w.heap.size [.int .i64 0, .int .i64 0, .slice none 0 0] :: rs) := ⟨i0, h0, hi0, hs5.perm ((List.Perm.swap _ _ _).trans (List.Perm.cons _ (List.Perm.swap _ _ _)))⟩
    have hz5 : lo ≤ w5'.heap.size := Nat.le_trans hzwv hb5.size
    obtain ⟨-, -, hcl⟩ := hc5.out.headBox
    have d2 := (hcl 2 _ rfl).1
    have u2 := (hcl 2 _ rfl).2
    have HB6 := Lib.hid (hc5.storeBelow (HBwv.out.trans hb5) 2 (.slice va5 n5 c5))
    have HC6 := Lib.hid (hc5.store hz5 (j := 2) rfl (.slice va5 n5 c5))
    have hS5 : w5'.cell? ⟨sb, 2, none⟩ = some (.slice ya al yc) := d2
    have hSx : wx.cell? ⟨sb, 2, none⟩ = some (.slice ya al yc) := (hbx.cell (p := ⟨sb, 2, none⟩) (World.block_lt_of_cell? _ _ hSwv)).trans hSwv
    have Hr5 := Lib.hid hr5
    have ewxs := Lib.hid ewx.symm
    clear hs0 hr5 hs5 hb5 hc5 hbx ewx hcl hn5
    clear hb ho HPwu
    go_wp2_with fail
    refine hK.out _ _ (fun _ => hSwv) ?_
    clear hK K
    try simp only [Act.put, List.getElem_toArray, List.getElem_cons_zero, List.getElem_cons_succ, List.setIfInBounds_toArray, List.set_cons_zero, List.set_cons_succ]
    refine wpAnyL_take 7 (v := ?_) rfl (by kernel_rfl) (by kernel_rfl) (by kernel_rfl) (by kernel_rfl) (fun _ _ _ h => h) (Or.inl ⟨by rfl, ?_⟩) hSwv ?_
    rotate_left
    · (intro w hSw; (try dsimp only at hSw); go_simp) <;> (try with_reducible rfl)
    try simp only [Act.put, List.getElem_toArray, List.getElem_cons_zero, List.getElem_cons_succ, List.setIfInBounds_toArray, List.set_cons_zero, List.set_cons_succ]
    refine wpAnyL_one 8 (by kernel_rfl) rfl (fun K hK => ?_)
    go_simp
    refine hK.out _ _ (fun _ => (by rw [ewxs.out]; exact hSx)) ?_
    clear hK K
    try simp only [Act.put, List.getElem_toArray, List.getElem_cons_zero, List.getElem_cons_succ, List.setIfInBounds_toArray, List.set_cons_zero, List.set_cons_succ]
    rw [ewxs.out]
    refine wpAnyL_one 9 (by kernel_rfl) rfl (fun K hK => ?_)
    refine step_append_run (by rfl) (.tmp 11) (.tmp 18) 24 (by rfl) (by rfl) (by rfl) Hr5.out ?_
    refine hK.out _ _ (fun _ => hS5) ?_
    clear hK K
    try simp only [Act.put, List.getElem_toArray, List.getElem_cons_zero, List.getElem_cons_succ, List.setIfInBounds_toArray, List.set_cons_zero, List.set_cons_succ]
    refine wpAnyL_take 10 (v := ?_) rfl (by kernel_rfl) (by kernel_rfl) (by kernel_rfl) (by kernel_rfl) (fun _ _ _ h => h) (Or.inl ⟨by rfl, ?_⟩) hS5 ?_
    rotate_left
    · (intro w hSw; (try dsimp only at hSw); go_simp) <;> (try with_reducible rfl)
    try simp only [Act.put, List.getElem_toArray, List.getElem_cons_zero, List.getElem_cons_succ, List.setIfInBounds_toArray, List.set_cons_zero, List.set_cons_succ]
    refine wpAnyL_one 11 (by kernel_rfl) rfl (fun K hK => ?_)
    go_simp
    refine hK.out _ _ (fun h => absurd h (not_rem (by kernel_rfl))) ?_
    clear hK K
    try simp only [Act.put, List.getElem_toArray, List.getElem_cons_zero, List.getElem_cons_succ, List.setIfInBounds_toArray, List.set_cons_zero, List.set_cons_succ]
    refine wpAnyL_done (by kernel_rfl) ?_ _
    obtain ⟨w6, e6⟩ : ∃ x, x = w5'.setCell ⟨sb, 2, none⟩ (.slice va5 n5 c5) := ⟨_, rfl⟩
    rw [← e6] at HC6 HB6 ⊢
    have hz6 : lo ≤ w6.heap.size := by rw [e6]; simpa using hz5
    have HC6' := Lib.hid (show Cur lo w6 cb Kv xs.length (Res.box sb [.int .i64 l0, .int .i64 l1, .slice va5 n5 c5] :: Res.row 80 3 acell (.slice va5 n5 c5) (la ++ [(Q1, (0 : Int), (q2 : Int))]) :: Res.box w.heap.size [.int .i64 0, .int .i64 0, .slice none 0 0] :: rs) from HC6.out)
    clear e6 HC6 d2 u2 hS5 hSx hSwu hSwv hSd Hr5 ewxs HCwu HBwu HCwv HBwv HCd HBd
    have hcE := HC6'.out
    obtain ⟨-, -, hcB⟩ := hcE.out.headBox
    have k0 := (hcB 0 _ rfl).1
    have k1 := (hcB 1 _ rfl).1
    have k2 := (hcB 2 _ rfl).1
    have hr := hcE.rest.perm2'.perm (List.Perm.refl _)
    clear hcE hcB
    obtain ⟨-, -, hcr⟩ := hr.out.headBox
    have r0 := (hcr 0 _ rfl).1
    have f0 := (hcr 0 _ rfl).2
    have r1 := (hcr 1 _ rfl).1
    have f1 := (hcr 1 _ rfl).2
    have r2 := (hcr 2 _ rfl).1
    have f2 := (hcr 2 _ rfl).2
    have hs1 := hr.store hz6 (j := 0) rfl (.int .i64 l0)
    have hB1 := hr.storeBelow HB6.out 0 (.int .i64 l0)
    have hs2 := hs1.store (by simpa using hz6) (j := 1) rfl (.int .i64 l1)
    have hB2 := hs1.storeBelow hB1 1 (.int .i64 l1)
    have hs3 := hs2.store (by simpa using hz6) (j := 2) rfl (.slice va5 n5 c5)
    have hB3 := hs2.storeBelow hB2 2 (.slice va5 n5 c5)
    obtain ⟨-, -, hcs⟩ := hs3.out.headBox
    have S0 := Lib.hid (hcs 0 (.int .i64 l0) rfl).1
    have S1 := Lib.hid (hcs 1 (.int .i64 l1) rfl).1
    have S2 := Lib.hid (hcs 2 (.slice va5 n5 c5) rfl).1
    have HC3 := Lib.hid hs3.rest
    have HB3 := Lib.hid hB3
    clear hcr hcs hs1 hs2 hs3 hB1 hB2 hB3
    have HCv := Lib.hid (HC3.out.conv (s := ResLg (.agg #[.int .i64 l0, .int .i64 l1, .slice va5 n5 c5]) (l0, l1, la ++ [(Q1, (0 : Int), (q2 : Int))])) (by simpa using hz6) (fun F h => ⟨_, rfl, h⟩))
    clear hr HC3 HC6' HB6
    go_wp2_with fail
    refine bodyPost_ret (v := .agg #[.int .i64 l0, .int .i64 l1, .slice va5 n5 c5]) (by simp [results, Tryd.results53, go_sem, S0.out, S1.out, S2.out]) rfl ?_
    exact ⟨_, (l0, l1, la ++ [(Q1, (0 : Int), (q2 : Int))]), rfl, HL5.out, HCv.out, HB3.out⟩
  · have t0 : ((x : Int) == 0) = false := by simp [hx0]
    by_cases hx1 : x = 1
    · have t1 : ((x : Int) == 1) = true := by simp [hx1]
      have hcx := HCz.out.box hz3 (([0, 4, 1, 3] : List Int).map (Value.int .i64)) 3
      obtain ⟨w4, e4⟩ : ∃ x, x = w3.alloc (.cells #[.int .i64 0, .int .i64 4, .int .i64 1, .int .i64 3] 3) := ⟨_, rfl⟩
      have HC4 := Lib.hid (show Cur lo w4 cb Kv xs.length (Res.box w3.heap.size (([0, 4, 1, 3] : List Int).map (Value.int .i64)) :: Res.box sb [.int .i64 l0, .int .i64 l1, .slice ya al yc] :: Res.row 80 3 acell (.slice ya al yc) la :: Res.box w.heap.size [.int .i64 0, .int .i64 0, .slice none 0 0] :: rs) from by rw [e4]; exact hcx)
      have hb4 : Below w3.heap.size w3 w4 := by rw [e4]; exact (Below.refl _ _).alloc (Nat.le_refl _) _
      have HB4 := Lib.hid (HBz.out.trans (hb4.mono hz3))
      have hz4 : lo ≤ w4.heap.size := Nat.le_trans hz3 hb4.size
      have HP := Lib.hid (show Calls Tryd.prog 69 #[.pointer (some ⟨cb, 0, none⟩), .slice (some ⟨w3.heap.size, 0, none⟩) 4 4] w4 _ from l1PickInt_c (ls := [0, 4, 1, 3]) (c := 4) (fun w' hb => HK.out w' (HB4.out.trans hb)) HC4.out hz4 (by decide) (by decide))
      have e4s := e4.symm
      clear hcx hb4 e4 HCz HBz hx0 hx1
      go_wp2_with fail
      (with_reducible refine HP.out.mono ?_)
      rintro e w5 ⟨y, rfl, hy, hc, hb, ho⟩
      have hz5 : lo ≤ w5.heap.size := Nat.le_trans hz4 hb.size
      have hc5 := hc.rest
      obtain ⟨-, -, hcl⟩ := hc5.out.headBox
      have d0 := (hcl 0 _ rfl).1
      have u0 := (hcl 0 _ rfl).2
      have HB6 := Lib.hid (hc5.storeBelow (HB4.out.trans hb) 0 (.int .i64 y))
      have hc6 := hc5.store hz5 (j := 0) rfl (.int .i64 y)
      obtain ⟨w6, e6⟩ : ∃ x, x = w5.setCell ⟨sb, 0, none⟩ (.int .i64 y) := ⟨_, rfl⟩
      rw [← e6] at hc6 HB6
      have hz6 : lo ≤ w6.heap.size := by rw [e6]; simpa using hz5
      have HC6 := Lib.hid hc6
      have e6s := e6.symm
      clear hy hc hb ho hc5 hcl hc6 e6 e4s HP HC4 HB4
      have hcE := (show Cur lo w6 cb Kv xs.length (Res.box sb [.int .i64 y, .int .i64 l1, .slice ya al yc] :: Res.row 80 3 acell (.slice ya al yc) la :: Res.box w.heap.size [.int .i64 0, .int .i64 0, .slice none 0 0] :: rs) from HC6.out)
      obtain ⟨-, -, hcB⟩ := hcE.out.headBox
      have k0 := (hcB 0 _ rfl).1
      have k1 := (hcB 1 _ rfl).1
      have k2 := (hcB 2 _ rfl).1
      have hr := hcE.rest.perm2'.perm (List.Perm.refl _)
      clear hcE hcB
      obtain ⟨-, -, hcr⟩ := hr.out.headBox
      have r0 := (hcr 0 _ rfl).1
      have f0 := (hcr 0 _ rfl).2
      have r1 := (hcr 1 _ rfl).1
      have f1 := (hcr 1 _ rfl).2
      have r2 := (hcr 2 _ rfl).1
      have f2 := (hcr 2 _ rfl).2
      have hs1 := hr.store hz6 (j := 0) rfl (.int .i64 y)
      have hB1 := hr.storeBelow HB6.out 0 (.int .i64 y)
      have hs2 := hs1.store (by simpa using hz6) (j := 1) rfl (.int .i64 l1)
      have hB2 := hs1.storeBelow hB1 1 (.int .i64 l1)
      have hs3 := hs2.store (by simpa using hz6) (j := 2) rfl (.slice ya al yc)
      have hB3 := hs2.storeBelow hB2 2 (.slice ya al yc)
      obtain ⟨-, -, hcs⟩ := hs3.out.headBox
      have S0 := Lib.hid (hcs 0 (.int .i64 y) rfl).1
      have S1 := Lib.hid (hcs 1 (.int .i64 l1) rfl).1
      have S2 := Lib.hid (hcs 2 (.slice ya al yc) rfl).1
      have HC3 := Lib.hid hs3.rest
      have HB3 := Lib.hid hB3
      clear hcr hcs hs1 hs2 hs3 hB1 hB2 hB3
      have HCv := Lib.hid (HC3.out.conv (s := ResLg (.agg #[.int .i64 y, .int .i64 l1, .slice ya al yc]) (y, l1, la)) (by simpa using hz6) (fun F h => ⟨_, rfl, h⟩))
      clear hr HC3 HC6 HB6
      go_wp2_with fail
      refine bodyPost_ret (v := .agg #[.int .i64 y, .int .i64 l1, .slice ya al yc]) (by simp [results, Tryd.results53, go_sem, S0.out, S1.out, S2.out]) rfl ?_
      exact ⟨_, (y, l1, la), rfl, by have := HLn.out; have := Hal.out; simp only; omega, HCv.out, HB3.out⟩
    · have t1 : ((x : Int) == 1) = false := by simp; omega
      clear hx0 hx1
      have hcE := HCz.out
      obtain ⟨-, -, hcB⟩ := hcE.out.headBox
      have k0 := (hcB 0 _ rfl).1
      have k1 := (hcB 1 _ rfl).1
      have k2 := (hcB 2 _ rfl).1
      have hr := hcE.rest.perm2'.perm (List.Perm.refl _)
      clear hcE hcB
      obtain ⟨-, -, hcr⟩ := hr.out.headBox
      have r0 := (hcr 0 _ rfl).1
      have f0 := (hcr 0 _ rfl).2
      have r1 := (hcr 1 _ rfl).1
      have f1 := (hcr 1 _ rfl).2
      have r2 := (hcr 2 _ rfl).1
      have f2 := (hcr 2 _ rfl).2
      have hs1 := hr.store hz3 (j := 0) rfl (.int .i64 l0)
      have hB1 := hr.storeBelow HBz.out 0 (.int .i64 l0)
      have hs2 := hs1.store (by simpa using hz3) (j := 1) rfl (.int .i64 l1)
      have hB2 := hs1.storeBelow hB1 1 (.int .i64 l1)
      have hs3 := hs2.store (by simpa using hz3) (j := 2) rfl (.slice ya al yc)
      have hB3 := hs2.storeBelow hB2 2 (.slice ya al yc)
      obtain ⟨-, -, hcs⟩ := hs3.out.headBox
      have S0 := Lib.hid (hcs 0 (.int .i64 l0) rfl).1
      have S1 := Lib.hid (hcs 1 (.int .i64 l1) rfl).1
      have S2 := Lib.hid (hcs 2 (.slice ya al yc) rfl).1
      have HC3 := Lib.hid hs3.rest
      have HB3 := Lib.hid hB3
      clear hcr hcs hs1 hs2 hs3 hB1 hB2 hB3
      have HCv := Lib.hid (HC3.out.conv (s := ResLg (.agg #[.int .i64 l0, .int .i64 l1, .slice ya al yc]) (l0, l1, la)) (by simpa using hz3) (fun F h => ⟨_, rfl, h⟩))
      clear hr HC3 
      go_wp2_with fail
      refine bodyPost_ret (v := .agg #[.int .i64 l0, .int .i64 l1, .slice ya al yc]) (by simp [results, Tryd.results53, go_sem, S0.out, S1.out, S2.out]) rfl ?_
      exact ⟨_, (l0, l1, la), rfl, by have := HLn.out; have := Hal.out; simp only; omega, HCv.out, HB3.out⟩
end Go.Proofs.YtcilgihmaaobeaaDoor
end

section
namespace Go.Proofs.YtcilgihmaaobeaaDoor
open Go.RowKit Go.Deep Go.Sd
/-- The arcs of one row, of all rows. -/
def rowA (k : Nat) : Nat → List Int → List Arc3
  | _, [] => []
  | x, t :: r => (if 0 ≤ t then [((k : Int), t, (x : Int))] else []) ++ rowA k (x + 1) r
def arcsN : Nat → List (List Int) → List Arc3
  | _, [] => []
  | k, r :: rs => rowA k 0 r ++ arcsN (k + 1) rs
theorem rowA_snoc (k : Nat) (t : Int) : ∀ (r : List Int) (x : Nat), rowA k x (r ++ [t]) = rowA k x r ++ (if 0 ≤ t then [((k : Int), t, ((x + r.length : Nat) : Int))] else [])
  | [], x => by simp [rowA]
  | u :: r, x => by
    show _ ++ rowA k (x + 1) (r ++ [t]) = (_ ++ rowA k (x + 1) r) ++ _
    rw [rowA_snoc k t r (x + 1), List.append_assoc, List.length_cons, show x + 1 + r.length = x + (r.length + 1) by omega]
theorem arcsN_snoc (r : List Int) : ∀ (rs : List (List Int)) (k : Nat), arcsN k (rs ++ [r]) = arcsN k rs ++ rowA (k + rs.length) 0 r
  | [], k => by simp [arcsN]
  | u :: rs, k => by
    show _ ++ arcsN (k + 1) (rs ++ [r]) = (_ ++ arcsN (k + 1) rs) ++ _
    rw [arcsN_snoc r rs (k + 1), List.append_assoc, List.length_cons, show k + 1 + rs.length = k + (rs.length + 1) by omega]
theorem rowA_len (k : Nat) : ∀ (r : List Int) (x : Nat), (rowA k x r).length ≤ r.length
  | [], _ => by simp [rowA]
  | t :: r, x => by
    have h := rowA_len k r (x + 1)
    unfold rowA
    split <;> simp <;> omega
theorem arcsN_len {m : Nat} : ∀ (rs : List (List Int)) (k : Nat), (∀ r, r ∈ rs → r.length ≤ m) → (arcsN k rs).length ≤ rs.length * m
  | [], _, _ => by simp [arcsN]
  | r :: rs, k, h => by
    have h1 := rowA_len k r 0
    have h2 := arcsN_len rs (k + 1) (fun r' hr => h r' (by simp [hr]))
    have h3 := h r (by simp)
    unfold arcsN
    rw [List.length_append, List.length_cons, Nat.add_mul]
    omega
theorem rowS_len (A : List Arc3) (s : Nat) : ∀ (n x : Nat) (sets : List Nat) (row : List Int), (rowS A s n x sets row).2.length = row.length + n
  | 0, _, _, _ => rfl
  | n + 1, x, sets, row => by
    unfold rowS
    rw [rowS_len A s n (x + 1)]
    simp; omega
theorem bfsS_pre (A : List Arc3) (L : Nat) : ∀ (f : Nat) (sets : List Nat) (k : Nat) (next : List (List Int)), ∃ u, (bfsS A L f sets k next).1 = sets ++ u
  | 0, sets, _, _ => ⟨[], by simp [bfsS]⟩
  | f + 1, sets, k, next => by
    unfold bfsS
    cases sets[k]? with
    | none => exact ⟨[], by simp⟩
    | some s =>
      obtain ⟨u, hu⟩ := rowS_pre (A := A) s L 0 sets []
      obtain ⟨v, hv⟩ := bfsS_pre A L f (rowS A s L 0 sets []).1 (k + 1) (next ++ [(rowS A s L 0 sets []).2])
      exact ⟨u ++ v, by simp only; rw [hv, hu, List.append_assoc]⟩
theorem bfsS_rows (A : List Arc3) (L : Nat) : ∀ (f : Nat) (sets : List Nat) (k : Nat) (next : List (List Int)), (∀ r, r ∈ next → r.length = L) → ∀ r, r ∈ (bfsS A L f sets k next).2 → r.length = L
  | 0, _, _, _, h => h
  | f + 1, sets, k, next, h => by
    unfold bfsS
    cases sets[k]? with
    | none => exact h
    | some s =>
      refine bfsS_rows A L f _ _ _ fun r hr => ?_
      rcases List.mem_append.1 hr with hr | hr
      · exact h r hr
      · simp at hr; subst hr; rw [rowS_len]; simp
theorem bfsS_many (A : List Arc3) (L : Nat) : ∀ (f : Nat) (sets : List Nat) (k : Nat) (next : List (List Int)), next.length = k → k ≤ sets.length → (bfsS A L f sets k next).2.length ≤ (bfsS A L f sets k next).1.length
  | 0, _, _, _, h, hk => by simp only [bfsS]; omega
  | f + 1, sets, k, next, h, hk => by
    unfold bfsS
    cases e : sets[k]? with
    | none => simp only; omega
    | some s =>
      obtain ⟨u, hu⟩ := rowS_pre (A := A) s L 0 sets []
      have hl := (List.getElem?_eq_some_iff.1 e).1
      refine bfsS_many A L f _ _ _ (by simp; omega) ?_
      rw [hu, List.length_append]; omega
/-! The program's way: arcs at once, and an end as soon as there are more than 12 sets. -/
def rowR (A : List Arc3) (s k : Nat) : Nat → Nat → List Nat → List Arc3 → List Nat × List Arc3
  | 0, _, sets, arcs => (sets, arcs)
  | n + 1, x, sets, arcs => rowR A s k n (x + 1) (addS sets (stepN A s (x : Int))) (if stepN A s (x : Int) = 0 then arcs else arcs ++ [((k : Int), posS sets (stepN A s (x : Int)), (x : Int))])
def bfsR (A : List Arc3) (L : Nat) : Nat → List Nat → Nat → List Arc3 → Option (List Nat × List Arc3)
  | 0, sets, _, arcs => some (sets, arcs)
  | f + 1, sets, k, arcs => match sets[k]? with
    | none => some (sets, arcs)
    | some s => if 12 < (rowR A s k L 0 sets arcs).1.length then none else bfsR A L f (rowR A s k L 0 sets arcs).1 (k + 1) (rowR A s k L 0 sets arcs).2
theorem rowR_eq (A : List Arc3) (s k : Nat) (B : List Arc3) : ∀ (n : Nat) (sets : List Nat) (row : List Int), rowR A s k n row.length sets (B ++ rowA k 0 row) = ((rowS A s n row.length sets row).1, B ++ rowA k 0 (rowS A s n row.length sets row).2)
  | 0, _, _ => rfl
  | n + 1, sets, row => by
    unfold rowR rowS
    have h := rowR_eq A s k B n (addS sets (stepN A s (row.length : Int))) (row ++ [posS sets (stepN A s (row.length : Int))])
    rw [List.length_append, List.length_singleton, rowA_snoc, Nat.zero_add] at h
    rw [← h]
    congr 1
    unfold posS
    by_cases e : stepN A s (row.length : Int) = 0
    · rw [if_pos e, if_pos e, if_neg (by omega), List.append_nil]
    · rw [if_neg e, if_neg e, if_pos (by omega), List.append_assoc]
theorem bfsR_eq (A : List Arc3) (L : Nat) : ∀ (f : Nat) (sets : List Nat) (k : Nat) (next : List (List Int)), next.length = k → sets.length ≤ 12 →
    bfsR A L f sets k (arcsN 0 next) = if 12 < (bfsS A L f sets k next).1.length then none else some ((bfsS A L f sets k next).1, arcsN 0 (bfsS A L f sets k next).2)
  | 0, sets, k, next, _, hl => (if_neg (show ¬ 12 < sets.length by omega)).symm
  | f + 1, sets, k, next, hk, hl => by
    unfold bfsR bfsS
    cases e : sets[k]? with
    | none => exact (if_neg (show ¬ 12 < sets.length by omega)).symm
    | some s =>
      simp only
      have h1 := rowR_eq A s k (arcsN 0 next) L sets []
      rw [show (rowA k 0 [] : List Arc3) = [] from rfl, List.append_nil] at h1
      rw [show ([] : List Int).length = 0 from rfl] at h1
      rw [h1]
      have h2 := arcsN_snoc (rowS A s L 0 sets []).2 next 0
      rw [Nat.zero_add, hk] at h2
      simp only
      rw [← h2]
      by_cases hb : 12 < (rowS A s L 0 sets []).1.length
      · rw [if_pos hb]
        obtain ⟨u, hu⟩ := bfsS_pre A L f (rowS A s L 0 sets []).1 (k + 1) (next ++ [(rowS A s L 0 sets []).2])
        rw [if_pos (by rw [hu, List.length_append]; omega)]
      · rw [if_neg hb]
        exact bfsR_eq A L f _ _ _ (by simp; omega) (by omega)
/-! The result. -/
theorem nm_lt {l : List Bool} {i : Nat} (h : l.getD i false = true) : nm l i < cntT l := by
  have h1 : l[i]? = some true := by
    cases e : l[i]? with
    | none => simp [List.getD, e] at h
    | some b => simp [List.getD, e] at h; rw [h]
  have h2 := nm_succ h1
  have h3 := nm_le l (i + 1)
  simp at h2
  omega
theorem trim_ok {l : Lb} (h : trimOk l = true) : okArcs (trimV l).2.1 (trimV l).2.2 ∧ 1 ≤ (trimV l).2.1 ∧ (trimV l).2.1 ≤ 12 ∧ 1 ≤ (trimV l).1 ∧ (trimV l).1 ≤ 3 ∧ (trimV l).1 = l.1 ∧ (trimV l).2.2.length ≤ 768 := by
  have e : trimV l = keepV l (liveO l) := by unfold trimV; rw [if_pos h]
  unfold trimOk at h
  rw [Bool.and_eq_true] at h
  obtain ⟨h1, h2⟩ := h
  have h2 : cntT (liveO l) ≠ 0 := by simpa using h2
  obtain ⟨k1, k2, k3, k4, k5⟩ := isLab_ok h1
  have h5 := isLab_len h1
  have h6 := trimV_len l
  have h3 : cntT (liveO l) ≤ (liveO l).length := cntT_le
  rw [liveO_len] at h3
  refine ⟨?_, ?_, ?_, ?_, ?_, ?_, by omega⟩
  · rw [e]
    intro a ha
    unfold keepV trimA at ha
    obtain ⟨b, hb, rfl⟩ := List.mem_map.1 ha
    have hk := (List.mem_filter.1 hb).2
    unfold kept at hk
    rw [Bool.and_eq_true] at hk
    have q1 := nm_lt hk.1
    have q2 := nm_lt hk.2
    simp only [renA, keepV]
    omega
  · rw [e]; simp only [keepV]; omega
  · rw [e]; simp only [keepV]; omega
  · rw [e]; exact k4
  · rw [e]; exact k5
  · rw [e]; rfl
noncomputable def rslT (l : Lb) : Option (List Nat × List Arc3) := bfsR (trimV l).2.2 (trimV l).1.toNat 4096 [allN (trimV l).2.1] 0 []
noncomputable def rslOk (l : Lb) : Bool := trimOk l && (rslT l).isSome
def rslR (L : Int) : Option (List Nat × List Arc3) → Lb
  | none => (0, 0, [])
  | some z => (L, (z.1.length : Int), z.2)
noncomputable def rslV (l : Lb) : Lb := if trimOk l = true then rslR l.1 (rslT l) else (0, 0, [])
theorem rslT_eq (l : Lb) : rslT l = if 12 < (bfsS (trimV l).2.2 (trimV l).1.toNat 4096 [allN (trimV l).2.1] 0 []).1.length then none else some ((bfsS (trimV l).2.2 (trimV l).1.toNat 4096 [allN (trimV l).2.1] 0 []).1, arcsN 0 (bfsS (trimV l).2.2 (trimV l).1.toNat 4096 [allN (trimV l).2.1] 0 []).2) :=
  bfsR_eq _ _ _ _ _ [] rfl (by simp)
end Go.Proofs.YtcilgihmaaobeaaDoor
end

section
namespace Go.Proofs.YtcilgihmaaobeaaDoor
open Go.RowKit Go.Deep Go.Sd
set_option linter.unusedSimpArgs false
set_option maxHeartbeats 8000000 in
set_option maxRecDepth 100000 in
theorem spec_ResolveLabels_c {w : World} {v : Value} {l : Lb} (h : LabR w v l) :
    Calls Tryd.prog 54 #[v] w (Makes2 OLab w (rslV l) (rslOk l)) := by
  have H1 := Lib.hid (fun w1 (hb : Below w.heap.size w w1) => spec_TrimLabels_c (LabR.frame _ _ _ _ h hb))
  have HV := Lib.hid (show rslV l = if trimOk l = true then rslR l.1 (rslT l) else (0, 0, []) from rfl)
  have HO := Lib.hid (show rslOk l = (trimOk l && (rslT l).isSome) from rfl)
  have Hok := Lib.hid (fun (hr : trimOk l = true) => trim_ok hr)
  have HTe := Lib.hid (rslT_eq l)
  have HRw := Lib.hid (bfsS_rows (trimV l).2.2 (trimV l).1.toNat 4096 [allN (trimV l).2.1] 0 [] (fun r hr => by cases hr))
  have HMn := Lib.hid (bfsS_many (trimV l).2.2 (trimV l).1.toNat 4096 [allN (trimV l).2.1] 0 [] rfl (by simp))
  generalize rslV l = V at HV ⊢
  generalize rslOk l = ok at HO ⊢
  generalize rslT l = T at HV HO HTe
  generalize trimOk l = il at H1 HV HO Hok
  generalize trimV l = t at H1 Hok HTe HRw HMn
  obtain ⟨L, S, xs⟩ := l
  obtain ⟨tL, tS, txs⟩ := t
  obtain ⟨va, rfl, -, a, cc, rfl, -, -, -, -⟩ := h
  simp only at *
  generalize hn : xs.length = n at *
  clear hn
  obtain ⟨wA, eA, hA0⟩ : ∃ wA, wA = (w.alloc (.cells #[.int .i64 L, .int .i64 S, .slice a n cc] 26)).alloc (.cells #[.int .i64 0, .int .i64 0, .slice none 0 0] 26) ∧ Below w.heap.size w wA := ⟨_, rfl, ((Below.refl _ _).alloc (Nat.le_refl _) _).alloc (by simp) _⟩
  have zA : wA.heap.size = w.heap.size + 1 + 1 := by rw [eA]; simp
  have l0 : wA.cell? ⟨w.heap.size, 0, none⟩ = some (.int .i64 L) := by rw [eA]; simp [go_sem]
  have l1 : wA.cell? ⟨w.heap.size, 1, none⟩ = some (.int .i64 S) := by rw [eA]; simp [go_sem]
  have l2 : wA.cell? ⟨w.heap.size, 2, none⟩ = some (.slice a n cc) := by rw [eA]; simp [go_sem]
  have R0 := Lib.hid (show wA.cell? ⟨w.heap.size + 1, 0, none⟩ = some (.int .i64 0) from by rw [eA]; simp [go_sem])
  have R1 := Lib.hid (show wA.cell? ⟨w.heap.size + 1, 1, none⟩ = some (.int .i64 0) from by rw [eA]; simp [go_sem])
  have R2 := Lib.hid (show wA.cell? ⟨w.heap.size + 1, 2, none⟩ = some (.slice none 0 0) from by rw [eA]; simp [go_sem])
  have F0 := Lib.hid (show wA.frozen? ⟨w.heap.size + 1, 0, none⟩ = false from by rw [eA]; simp [go_sem])
  have F1 := Lib.hid (show wA.frozen? ⟨w.heap.size + 1, 1, none⟩ = false from by rw [eA]; simp [go_sem])
  have F2 := Lib.hid (show wA.frozen? ⟨w.heap.size + 1, 2, none⟩ = false from by rw [eA]; simp [go_sem])
  have HA := Lib.hid hA0
  have eW := eA.symm
  have h1w : w.heap.size + 1 < wA.heap.size := by omega
  have h0w : w.heap.size < wA.heap.size := by omega
  clear eA hA0 zA
  go_enter Tryd.func54, Tryd.ntmps54
  go_wp2_with fail
  refine (H1.out _ HA.out).mono ?_
  rintro e w1 ⟨r, rfl, hn, hb1⟩
  obtain ⟨ta, tn, tc, er⟩ := hn.labAgg
  simp only at er
  subst er
  replace l0 := (hb1.cell (p := ⟨w.heap.size, 0, none⟩) h0w).trans l0
  replace l1 := (hb1.cell (p := ⟨w.heap.size, 1, none⟩) h0w).trans l1
  replace l2 := (hb1.cell (p := ⟨w.heap.size, 2, none⟩) h0w).trans l2
  replace R0 := Lib.hid ((hb1.cell (p := ⟨w.heap.size + 1, 0, none⟩) h1w).trans R0.out)
  replace F0 := Lib.hid ((hb1.frozen (p := ⟨w.heap.size + 1, 0, none⟩) h1w).trans F0.out)
  replace R1 := Lib.hid ((hb1.cell (p := ⟨w.heap.size + 1, 1, none⟩) h1w).trans R1.out)
  replace F1 := Lib.hid ((hb1.frozen (p := ⟨w.heap.size + 1, 1, none⟩) h1w).trans F1.out)
  replace R2 := Lib.hid ((hb1.cell (p := ⟨w.heap.size + 1, 2, none⟩) h1w).trans R2.out)
  replace F2 := Lib.hid ((hb1.frozen (p := ⟨w.heap.size + 1, 2, none⟩) h1w).trans F2.out)
  have A1 := Lib.hid (HA.out.trans (hb1.mono HA.out.size))
  replace h1w : w.heap.size + 1 < w1.heap.size := Nat.lt_of_lt_of_le h1w hb1.size
  replace h0w : w.heap.size < w1.heap.size := Nat.lt_of_lt_of_le h0w hb1.size
  have Ht := Lib.hid (fun w' (hb : Below w1.heap.size w1 w') => LabR.frame _ _ _ _ hn.lab (hb.mono (Nat.le_refl _)))
  obtain ⟨w2, e2, hb2, q0, q1, q2, m2⟩ := boxA3_ex w1 26 (.int .i64 tL) (.int .i64 tS) (.slice ta tn tc)
  have z2 : w2.heap.size = w1.heap.size + 1 := by rw [← e2]; simp
  replace l0 := (hb2.cell (p := ⟨w.heap.size, 0, none⟩) h0w).trans l0
  replace l1 := (hb2.cell (p := ⟨w.heap.size, 1, none⟩) h0w).trans l1
  replace l2 := (hb2.cell (p := ⟨w.heap.size, 2, none⟩) h0w).trans l2
  replace R0 := Lib.hid ((hb2.cell (p := ⟨w.heap.size + 1, 0, none⟩) h1w).trans R0.out)
  replace F0 := Lib.hid ((hb2.frozen (p := ⟨w.heap.size + 1, 0, none⟩) h1w).trans F0.out)
  replace R1 := Lib.hid ((hb2.cell (p := ⟨w.heap.size + 1, 1, none⟩) h1w).trans R1.out)
  replace F1 := Lib.hid ((hb2.frozen (p := ⟨w.heap.size + 1, 1, none⟩) h1w).trans F1.out)
  replace R2 := Lib.hid ((hb2.cell (p := ⟨w.heap.size + 1, 2, none⟩) h1w).trans R2.out)
  replace F2 := Lib.hid ((hb2.frozen (p := ⟨w.heap.size + 1, 2, none⟩) h1w).trans F2.out)
  have A2 := Lib.hid (A1.out.trans (hb2.mono A1.out.size))
  replace h1w : w.heap.size + 1 < w2.heap.size := by omega
  replace h0w : w.heap.size < w2.heap.size := by omega
  have H2 := Lib.hid hb2
  clear eW hb1 H1 HA hn hb2
  cases il with
  | false =>
    have HW := Lib.hid (show V = (0, 0, []) from by rw [HV.out]; rfl)
    have HF := Lib.hid (show ok = false from by rw [HO.out]; rfl)
    clear HV HO Hok HTe HRw HMn Ht H2 q0 q1 q2
    have r0 := R0.out
    have r1 := R1.out
    have r2 := R2.out
    have t0 := F0.out
    have t1 := F1.out
    have t2 := F2.out
    go_wp2
    have s0 := World.cell?_setCell_same w2 _ (.int .i64 0) R0.out
    have u1 := (World.cell?_setCell_other _ ⟨w.heap.size + 1, 0, none⟩ _ (.int .i64 0) (by simp)).trans R1.out
    have s1 := World.cell?_setCell_same _ _ (.int .i64 0) u1
    have u2 := (World.cell?_setCell_other _ ⟨w.heap.size + 1, 1, none⟩ _ (.int .i64 0) (by simp)).trans ((World.cell?_setCell_other _ ⟨w.heap.size + 1, 0, none⟩ _ (.int .i64 0) (by simp)).trans R2.out)
    have s2 := World.cell?_setCell_same _ _ (.slice none 0 0) u2
    refine bodyPost_ret (v := .tuple #[.agg #[.int .i64 0, .int .i64 0, .slice none 0 0], .bool false]) (by simp [results, Tryd.results54, go_sem, s0, s1, s2]) rfl ?_
    exact ⟨_, by rw [HF.out], by rw [HW.out]; exact New.lab0, (((A2.out.setCell (p := ⟨w.heap.size + 1, 0, none⟩) (by simp) _).setCell (p := ⟨w.heap.size + 1, 1, none⟩) (by simp) _).setCell (p := ⟨w.heap.size + 1, 2, none⟩) (by simp) _)⟩
  | true =>
  obtain ⟨ho, hS1, hS2, hL1, hL2, hLL, -⟩ := Hok.out (by first | rfl | trivial)
  replace HO := Lib.hid (show ok = T.isSome from HO.out)
  replace HV := Lib.hid (show V = rslR L T from HV.out)
  subst hLL
  obtain ⟨N, rfl⟩ := Int.eq_ofNat_of_zero_le (show 0 ≤ tL by omega)
  rw [show ((N : Nat) : Int).toNat = N from rfl] at HTe HRw HMn
  have HSt := Lib.hid (l15Sets_c (Ht.out w2 H2.out) ho hS1 hS2 hL1 hL2)
  simp only at HSt
  rw [show ((N : Nat) : Int).toNat = N from rfl] at HSt
  generalize bfsS txs N 4096 [allN tS] 0 [] = B at HSt HTe HRw HMn
  obtain ⟨Z, Nx⟩ := B
  simp only at HSt HTe HRw HMn
  clear Hok Ht ho
  go_wp2_with fail
  refine HSt.out.mono ?_
  rintro e w3 ⟨r, s, rfl, ⟨F, G, hF, hG, -, -, -⟩, hb3⟩
  obtain ⟨ra, rc, rfl, -⟩ := hF.reads.shape
  obtain ⟨sa, sc, rfl, -⟩ := hG.reads.shape
  rw [show (natL Z).length = Z.length from List.length_map _]
  have HT3 := Lib.hid hG.reads
  replace l0 := (hb3.cell (p := ⟨w.heap.size, 0, none⟩) h0w).trans l0
  replace l1 := (hb3.cell (p := ⟨w.heap.size, 1, none⟩) h0w).trans l1
  replace l2 := (hb3.cell (p := ⟨w.heap.size, 2, none⟩) h0w).trans l2
  replace R0 := Lib.hid ((hb3.cell (p := ⟨w.heap.size + 1, 0, none⟩) h1w).trans R0.out)
  replace F0 := Lib.hid ((hb3.frozen (p := ⟨w.heap.size + 1, 0, none⟩) h1w).trans F0.out)
  replace R1 := Lib.hid ((hb3.cell (p := ⟨w.heap.size + 1, 1, none⟩) h1w).trans R1.out)
  replace F1 := Lib.hid ((hb3.frozen (p := ⟨w.heap.size + 1, 1, none⟩) h1w).trans F1.out)
  replace R2 := Lib.hid ((hb3.cell (p := ⟨w.heap.size + 1, 2, none⟩) h1w).trans R2.out)
  replace F2 := Lib.hid ((hb3.frozen (p := ⟨w.heap.size + 1, 2, none⟩) h1w).trans F2.out)
  have A3 := Lib.hid (A2.out.trans (hb3.mono A2.out.size))
  replace h1w : w.heap.size + 1 < w3.heap.size := by have := hb3.size; omega
  replace h0w : w.heap.size < w3.heap.size := by omega
  have hZ63 : Z.length ≤ 9223372036854775807 := by have := hF.reads.len; simpa using this
  clear hb3 HSt hF hG H2 q0 q1 q2 l1 l2
  by_cases h12 : 12 < Z.length
  · have HTn := Lib.hid (show T = none from by rw [HTe.out, if_pos h12])
    have HW := Lib.hid (show V = (0, 0, []) from by rw [HV.out, HTn.out]; rfl)
    have HF := Lib.hid (show ok = false from by rw [HO.out, HTn.out]; rfl)
    have h12i : (12 : Int) < (Z.length : Int) := by omega
    clear HV HO HTe HTn HRw HMn HT3
    have r0 := R0.out
    have r1 := R1.out
    have r2 := R2.out
    have t0 := F0.out
    have t1 := F1.out
    have t2 := F2.out
    go_wp2
    have s0 := World.cell?_setCell_same w3 _ (.int .i64 0) R0.out
    have u1 := (World.cell?_setCell_other _ ⟨w.heap.size + 1, 0, none⟩ _ (.int .i64 0) (by simp)).trans R1.out
    have s1 := World.cell?_setCell_same _ _ (.int .i64 0) u1
    have u2 := (World.cell?_setCell_other _ ⟨w.heap.size + 1, 1, none⟩ _ (.int .i64 0) (by simp)).trans ((World.cell?_setCell_other _ ⟨w.heap.size + 1, 0, none⟩ _ (.int .i64 0) (by simp)).trans R2.out)
    have s2 := World.cell?_setCell_same _ _ (.slice none 0 0) u2
    refine bodyPost_ret (v := .tuple #[.agg #[.int .i64 0, .int .i64 0, .slice none 0 0], .bool false]) (by simp [results, Tryd.results54, go_sem, s0, s1, s2]) rfl ?_
    exact ⟨_, by rw [HF.out], by rw [HW.out]; exact New.lab0, (((A3.out.setCell (p := ⟨w.heap.size + 1, 0, none⟩) (by simp) _).setCell (p := ⟨w.heap.size + 1, 1, none⟩) (by simp) _).setCell (p := ⟨w.heap.size + 1, 2, none⟩) (by simp) _)⟩
  have HTn := Lib.hid (show T = some (Z, arcsN 0 Nx) from by rw [HTe.out, if_neg h12])
  have HW := Lib.hid (show V = ((N : Int), (Z.length : Int), arcsN 0 Nx) from by rw [HV.out, HTn.out]; rfl)
  have HF := Lib.hid (show ok = true from by rw [HO.out, HTn.out]; rfl)
  have h12i : ¬ ((12 : Int) < (Z.length : Int)) := by omega
  have hNx : Nx.length ≤ 12 := Nat.le_trans HMn.out (by omega)
  clear HV HO HTe HTn h12
  go_wp2
  obtain ⟨w4, e4, hb4, o0, o1, o2, m4⟩ := boxA3_ex w3 26 (.int .i64 N) (.int .i64 (Z.length : Int)) (.slice none 0 0)
  have hsp := (Sep.one RowG.held (RowG.nil (e := 80) (sz := 3) (f := acell) (w := w3) (lo := w3.heap.size))).boxNew (Nat.le_refl _) [.int .i64 N, .int .i64 (Z.length : Int), .slice none 0 0] 26
  have HSP := Lib.hid (show Sep w3.heap.size w4 [Res.box w3.heap.size [.int .i64 N, .int .i64 (Z.length : Int), .slice none 0 0], Res.row 80 3 acell (.slice none 0 0) (arcsN 0 (Nx.take 0))] from by rw [← e4]; exact hsp)
  have HBB := Lib.hid hb4
  rw [e4]
  clear hsp hb4 o0 o1 o2
  go_loopg [9] Nx.length (fun g i wr => ∃ (k : Nat) (ya : Option Addr) (yn yc : Nat), i = .int .i64 k ∧ k + g = Nx.length ∧ Hid (Sep w3.heap.size wr [Res.box w3.heap.size [.int .i64 N, .int .i64 (Z.length : Int), .slice ya yn yc], Res.row 80 3 acell (.slice ya yn yc) (arcsN 0 (Nx.take k))]) ∧ Hid (Below w3.heap.size w3 wr))
  case atStart => exact ⟨0, _, _, _, rfl, by omega, HSP, HBB⟩
  case round =>
    clear HSP HBB e4 m4
    obtain ⟨k, ya, yn, yc, rfl, hk, HS, HB⟩ := hrel
    obtain ⟨wk, rfl⟩ : ∃ x, x = wr := ⟨_, rfl⟩
    have zk := HB.out.size
    by_cases hkN : k < Nx.length
    · have hki : (k : Int) < (Nx.length : Int) := by omega
      obtain ⟨b, o, c, hv, hbw, hE⟩ := Tab.entAt HT3.out rfl HRw.out (by omega)
      simp at hv
      obtain ⟨rfl, rfl⟩ := hv
      obtain ⟨b', o', c', g1, hbw', -, gx⟩ := hE.at hkN (show 0 < N by omega)
      have G1 := Lib.hid g1
      have GX := Lib.hid gx
      obtain ⟨row, hrow, _⟩ := at_lt hkN
      have hrl : row.length = N := HRw.out row (List.mem_of_getElem? hrow)
      have HE := Lib.hid (show ∀ x, x < N → row[x]? = some (ent Nx k x) from fun x hx => by
        unfold ent
        rw [show Nx.getD k [] = row from by simp [List.getD, hrow]]
        obtain ⟨u, hu, _⟩ := at_lt (xs := row) (k := x) (by omega)
        simp [List.getD, hu])
      have HTk := Lib.hid (show arcsN 0 (Nx.take (k + 1)) = arcsN 0 (Nx.take k) ++ rowA k 0 row from by
        rw [← take_snoc' hrow, arcsN_snoc, List.length_take, Nat.zero_add, Nat.min_eq_left (by omega)])
      have HLn := Lib.hid (show (arcsN 0 (Nx.take k)).length ≤ 36 from by
        have h1 := arcsN_len (m := 3) (Nx.take k) 0 (fun r hr => by have := HRw.out r (List.mem_of_mem_take hr); omega)
        have h2 : (Nx.take k).length ≤ 12 := by rw [List.length_take]; omega
        omega)
      have HS0 := Lib.hid (show Sep w3.heap.size wk [Res.box w3.heap.size [.int .i64 N, .int .i64 (Z.length : Int), .slice ya yn yc], Res.row 80 3 acell (.slice ya yn yc) (arcsN 0 (Nx.take k) ++ rowA k 0 (row.take 0))] from by rw [show rowA k 0 (row.take 0) = [] from by simp [rowA], List.append_nil]; exact HS.out)
      clear hE g1 gx hrow
      go_wp2
      go_loopg [10] N (fun g i wr => ∃ (x : Nat) (ya : Option Addr) (yn yc : Nat), i = .int .i64 x ∧ x + g = N ∧ Hid (Sep w3.heap.size wr [Res.box w3.heap.size [.int .i64 N, .int .i64 (Z.length : Int), .slice ya yn yc], Res.row 80 3 acell (.slice ya yn yc) (arcsN 0 (Nx.take k) ++ rowA k 0 (row.take x))]) ∧ Hid (Below w3.heap.size w3 wr))
      case atStart => exact ⟨0, _, _, _, rfl, by omega, HS0, HB⟩
      case round =>
        clear HS0 HS HB zk
        obtain ⟨x, ya, yn, yc, rfl, hx, HS, HB⟩ := hrel
        obtain ⟨wx, rfl⟩ : ∃ x, x = wr := ⟨_, rfl⟩
        have zx := HB.out.size
        obtain ⟨-, mx, hbx⟩ := HS.out.headBox
        have o2 := (hbx 2 _ rfl).1
        have o2f := (hbx 2 _ rfl).2
        have g1 := (HB.out.cell (p := ⟨b, o + k, none⟩) hbw).trans G1.out
        clear hbx
        by_cases hxN : x < N
        · have hxi : (x : Int) < (N : Int) := by omega
          have g2 := (HB.out.cell (p := ⟨b', o' + x, none⟩) hbw').trans (GX.out x hxN)
          have HTx := Lib.hid (show rowA k 0 (row.take (x + 1)) = rowA k 0 (row.take x) ++ (if 0 ≤ ent Nx k x then [((k : Int), ent Nx k x, (x : Int))] else []) from by
            rw [← take_snoc' (HE.out x hxN), rowA_snoc, List.length_take, Nat.zero_add, Nat.min_eq_left (by omega)])
          have HLx := Lib.hid (show (arcsN 0 (Nx.take k) ++ rowA k 0 (row.take x)).length ≤ 40 from by
            have h1 := rowA_len k (row.take x) 0
            have h2 : (row.take x).length ≤ 3 := by rw [List.length_take]; omega
            rw [List.length_append]
            have := HLn.out
            omega)
          generalize ent Nx k x = t at g2 HTx
          by_cases ht : 0 ≤ t
          · have HR3 := Lib.hid (show rowA k 0 (row.take (x + 1)) = rowA k 0 (row.take x) ++ [((k : Int), t, (x : Int))] from by rw [HTx.out, if_pos ht])
            have hll := Lib.hid HLx.out
            have bwx : b < wx.heap.size := by omega
            have bwx' : b' < wx.heap.size := by omega
            have B1 := ((Below.refl wx.heap.size wx).alloc (Nat.le_refl _) (.cells #[.int .i64 k, .int .i64 t, .int .i64 x] 80)).drew
            obtain ⟨v', w5, hr, hs2, hb2⟩ := HS.out.swap.pushG (P := Tryd.prog) acell_lay 24 24 (.agg #[.int .i64 0, .int .i64 0, .int .i64 0]) 24 Tryd.underlying24 infoA rfl (by omega) (w1 := ((wx.alloc (.cells #[.int .i64 k, .int .i64 t, .int .i64 x] 80)).drew)) B1 ((k : Int), t, (x : Int)) (bb := wx.heap.size) 1
              (by
                intro i u hu
                match i, hu with
                | 0, hu => simp [acell] at hu; subst hu; simp [go_sem]
                | 1, hu => simp [acell] at hu; subst hu; simp [go_sem]
                | 2, hu => simp [acell] at hu; subst hu; simp [go_sem]) (by have := hll.out; omega) (by have := hll.out; omega)
            obtain ⟨za, zn, zc, rfl⟩ : ∃ a n c, v' = .slice a n c := hs2.headNew.imp (fun F hF => hF.1) |> fun h => by obtain ⟨F, hF⟩ := h; obtain ⟨a, c, e⟩ := RowG.slice hF; exact ⟨a, _, c, e⟩
            have hbx := hs2.swap.headBox.2
            have hc2 := (hbx.2 2 _ rfl).1
            have hf2 := (hbx.2 2 _ rfl).2
            have hg1 : w5.cell? ⟨b, o + k, none⟩ = some (.slice (some ⟨b', o', none⟩) N c') := (hb2.cell (p := ⟨b, o + k, none⟩) hbw).trans g1
            have hg2 : w5.cell? ⟨b', o' + x, none⟩ = some (.int .i64 t) := (hb2.cell (p := ⟨b', o' + x, none⟩) hbw').trans g2
            have hst := hs2.swap.boxStore (by have := hb2.size; omega) (j := 2) rfl (.slice za zn zc)
            have HST := Lib.hid (show Sep w3.heap.size (w5.setCell ⟨w3.heap.size, 2, none⟩ (.slice za zn zc)) [Res.box w3.heap.size [.int .i64 N, .int .i64 (Z.length : Int), .slice za zn zc], Res.row 80 3 acell (.slice za zn zc) (arcsN 0 (Nx.take k) ++ rowA k 0 (row.take (x + 1)))] from by rw [HR3.out, ← List.append_assoc]; exact hst)
            have HBs := Lib.hid ((HB.out.trans hb2).setCell (p := ⟨w3.heap.size, 2, none⟩) (Nat.le_refl _) (.slice za zn zc))
            have Hr := Lib.hid hr
            have hSd : wx.drew.cell? ⟨w3.heap.size, 2, none⟩ = some (.slice ya yn yc) ∧ wx.drew.cell? ⟨b, o + k, none⟩ = some (.slice (some ⟨b', o', none⟩) N c') ∧ wx.drew.cell? ⟨b', o' + x, none⟩ = some (.int .i64 t) := ⟨o2, g1, g2⟩
            have hS1 : ((wx.alloc (.cells #[.int .i64 k, .int .i64 t, .int .i64 x] 80)).drew).cell? ⟨w3.heap.size, 2, none⟩ = some (.slice ya yn yc) ∧ ((wx.alloc (.cells #[.int .i64 k, .int .i64 t, .int .i64 x] 80)).drew).cell? ⟨b, o + k, none⟩ = some (.slice (some ⟨b', o', none⟩) N c') ∧ ((wx.alloc (.cells #[.int .i64 k, .int .i64 t, .int .i64 x] 80)).drew).cell? ⟨b', o' + x, none⟩ = some (.int .i64 t) := ⟨(B1.cell (p := ⟨w3.heap.size, 2, none⟩) mx).trans o2, (B1.cell (p := ⟨b, o + k, none⟩) bwx).trans g1, (B1.cell (p := ⟨b', o' + x, none⟩) bwx').trans g2⟩
            have hS2 : w5.cell? ⟨w3.heap.size, 2, none⟩ = some (.slice ya yn yc) ∧ w5.cell? ⟨b, o + k, none⟩ = some (.slice (some ⟨b', o', none⟩) N c') ∧ w5.cell? ⟨b', o' + x, none⟩ = some (.int .i64 t) := ⟨hc2, hg1, hg2⟩
            have htb : decide (0 ≤ t) = true := decide_eq_true ht
            clear HTx B1 hr hs2 hb2 hbx hst HB hg1 hg2 HS HLx
            go_wp2
            refine wp_region_L (fun w' => w'.cell? ⟨w3.heap.size, 2, none⟩ = some (.slice ya yn yc) ∧ w'.cell? ⟨b, o + k, none⟩ = some (.slice (some ⟨b', o', none⟩) N c') ∧ w'.cell? ⟨b', o' + x, none⟩ = some (.int .i64 t)) (by kernel_rfl) ?_
            refine wpAnyL_take 0 (v := ?_) rfl (by kernel_rfl) (by kernel_rfl) (by kernel_rfl) (by kernel_rfl) (fun _ _ _ h => h) (Or.inl ⟨by rfl, ?_⟩) hSd ?_
            rotate_left
            · (intro w hSw; (try dsimp only at hSw); go_simp) <;> (try with_reducible rfl)
            try simp only [Act.put, List.setIfInBounds_toArray, List.set_cons_zero, List.set_cons_succ]
            refine wpAnyL_take 1 (v := ?_) rfl (by kernel_rfl) (by kernel_rfl) (by kernel_rfl) (by kernel_rfl) (fun _ _ _ h => h) (Or.inl ⟨by rfl, ?_⟩) hSd ?_
            rotate_left
            · (intro w hSw; (try dsimp only at hSw); go_simp) <;> (try with_reducible rfl)
            try simp only [Act.put, List.setIfInBounds_toArray, List.set_cons_zero, List.set_cons_succ]
            refine wpAnyL_take 2 (v := ?_) rfl (by kernel_rfl) (by kernel_rfl) (by kernel_rfl) (by kernel_rfl) (fun _ _ _ h => h) (Or.inl ⟨by rfl, ?_⟩) hSd ?_
            rotate_left
            · (intro w hSw; (try dsimp only at hSw); go_simp) <;> (try with_reducible rfl)
            try simp only [Act.put, List.setIfInBounds_toArray, List.set_cons_zero, List.set_cons_succ]
            refine wpAnyL_take 3 (v := ?_) rfl (by kernel_rfl) (by kernel_rfl) (by kernel_rfl) (by kernel_rfl) (fun _ _ _ h => h) (Or.inl ⟨by rfl, ?_⟩) hSd ?_
            rotate_left
            · (intro w hSw; (try dsimp only at hSw); go_simp) <;> (try with_reducible rfl)
            try simp only [Act.put, List.setIfInBounds_toArray, List.set_cons_zero, List.set_cons_succ]
            refine wpAnyL_take 4 (v := ?_) rfl (by kernel_rfl) (by kernel_rfl) (by kernel_rfl) (by kernel_rfl) (fun _ _ _ h => h) (Or.inl ⟨by rfl, ?_⟩) hSd ?_
            rotate_left
            · (intro w hSw; (try dsimp only at hSw); go_simp) <;> (try with_reducible rfl)
            try simp only [Act.put, List.setIfInBounds_toArray, List.set_cons_zero, List.set_cons_succ]
            refine wpAnyL_take 5 (v := ?_) rfl (by kernel_rfl) (by kernel_rfl) (by kernel_rfl) (by kernel_rfl) (fun _ _ _ h => h) (Or.inl ⟨by rfl, ?_⟩) hSd ?_
            rotate_left
            · (intro w hSw; (try dsimp only at hSw); go_simp) <;> (try with_reducible rfl)
            try simp only [Act.put, List.setIfInBounds_toArray, List.set_cons_zero, List.set_cons_succ]
            refine wpAnyL_take 6 (v := ?_) rfl (by kernel_rfl) (by kernel_rfl) (by kernel_rfl) (by kernel_rfl) (fun _ _ _ h => h) (Or.inl ⟨by rfl, ?_⟩) hSd ?_
            rotate_left
            · (intro w hSw; (try dsimp only at hSw); go_simp) <;> (try with_reducible rfl)
            try simp only [Act.put, List.setIfInBounds_toArray, List.set_cons_zero, List.set_cons_succ]
            refine wpAnyL_take 7 (v := ?_) rfl (by kernel_rfl) (by kernel_rfl) (by kernel_rfl) (by kernel_rfl) (fun _ _ _ h => h) (Or.inl ⟨by rfl, ?_⟩) hSd ?_
            rotate_left
            · (intro w hSw; (try dsimp only at hSw); go_simp) <;> (try with_reducible rfl)
            try simp only [Act.put, List.setIfInBounds_toArray, List.set_cons_zero, List.set_cons_succ]
            refine wpAnyL_take 8 (v := ?_) rfl (by kernel_rfl) (by kernel_rfl) (by kernel_rfl) (by kernel_rfl) (fun _ _ _ h => h) (Or.inl ⟨by rfl, ?_⟩) hSd ?_
            rotate_left
            · (intro w hSw; (try dsimp only at hSw); go_simp) <;> (try with_reducible rfl)
            try simp only [Act.put, List.setIfInBounds_toArray, List.set_cons_zero, List.set_cons_succ]
            refine wpAnyL_take 9 (v := ?_) rfl (by kernel_rfl) (by kernel_rfl) (by kernel_rfl) (by kernel_rfl) (fun _ _ _ h => h) (Or.inl ⟨by rfl, ?_⟩) hSd ?_
            rotate_left
            · (intro w hSw; (try dsimp only at hSw); go_simp) <;> (try with_reducible rfl)
            try simp only [Act.put, List.setIfInBounds_toArray, List.set_cons_zero, List.set_cons_succ]
            refine wpAnyL_take 10 (v := ?_) rfl (by kernel_rfl) (by kernel_rfl) (by kernel_rfl) (by kernel_rfl) (fun _ _ _ h => h) (Or.inl ⟨by rfl, ?_⟩) hSd ?_
            rotate_left
            · (intro w hSw; (try dsimp only at hSw); go_simp) <;> (try with_reducible rfl)
            try simp only [Act.put, List.setIfInBounds_toArray, List.set_cons_zero, List.set_cons_succ]
            refine wpAnyL_take 11 (v := ?_) rfl (by kernel_rfl) (by kernel_rfl) (by kernel_rfl) (by kernel_rfl) (fun _ _ _ h => h) (Or.inl ⟨by rfl, ?_⟩) hSd ?_
            rotate_left
            · (intro w hSw; (try dsimp only at hSw); go_simp) <;> (try with_reducible rfl)
            try simp only [Act.put, List.setIfInBounds_toArray, List.set_cons_zero, List.set_cons_succ]
            refine wpAnyL_one 12 (by kernel_rfl) rfl (fun K hK => ?_)
            go_simp
            refine hK.out _ _ (fun _ => hS1) ?_
            clear hK K
            try simp only [Act.put, List.setIfInBounds_toArray, List.set_cons_zero, List.set_cons_succ]
            refine wpAnyL_one 13 (by kernel_rfl) rfl (fun K hK => ?_)
            refine step_append_run (by rfl) (.tmp 57) (.tmp 68) 24 (by rfl) (by rfl) (by rfl) Hr.out ?_
            refine hK.out _ _ (fun _ => hS2) ?_
            clear hK K
            try simp only [Act.put, List.setIfInBounds_toArray, List.set_cons_zero, List.set_cons_succ]
            refine wpAnyL_take 14 (v := ?_) rfl (by kernel_rfl) (by kernel_rfl) (by kernel_rfl) (by kernel_rfl) (fun _ _ _ h => h) (Or.inl ⟨by rfl, ?_⟩) hS2 ?_
            rotate_left
            · (intro w hSw; (try dsimp only at hSw); go_simp) <;> (try with_reducible rfl)
            try simp only [Act.put, List.setIfInBounds_toArray, List.set_cons_zero, List.set_cons_succ]
            refine wpAnyL_one 15 (by kernel_rfl) rfl (fun K hK => ?_)
            go_simp
            refine hK.out _ _ (fun h => absurd h (not_rem (by kernel_rfl))) ?_
            clear hK K
            try simp only [Act.put, List.setIfInBounds_toArray, List.set_cons_zero, List.set_cons_succ]
            refine wpAnyL_done (by kernel_rfl) ?_ _
            all_goals (
              go_wp2
              go_roundg (N - (x + 1))
              case measure => omega
              case rel => exact ⟨x + 1, za, zn, zc, by go_num, by omega, HST, HBs⟩)
          · have HR3 := Lib.hid (show rowA k 0 (row.take (x + 1)) = rowA k 0 (row.take x) from by rw [HTx.out, if_neg ht, List.append_nil])
            clear HTx HLx
            go_wp2
            go_roundg (N - (x + 1))
            case measure => omega
            case rel => exact ⟨x + 1, ya, yn, yc, by go_num, by omega, by rw [HR3.out]; exact HS, HB⟩
        · obtain rfl : x = N := by omega
          have hxi : ¬ ((x : Int) < (x : Int)) := by omega
          have HSE := Lib.hid (show Sep w3.heap.size wx [Res.box w3.heap.size [.int .i64 x, .int .i64 (Z.length : Int), .slice ya yn yc], Res.row 80 3 acell (.slice ya yn yc) (arcsN 0 (Nx.take (k + 1)))] from by rw [HTk.out]; have h := HS.out; rw [show row.take x = row from List.take_of_length_le (by omega)] at h; exact h)
          clear HTk HS HE GX
          go_wp2
          go_roundg (Nx.length - (k + 1))
          case measure => omega
          case rel => exact ⟨k + 1, ya, yn, yc, by go_num, by omega, HSE, HB⟩
    · obtain hkl : k = Nx.length := by omega
      have hki : ¬ ((k : Int) < (Nx.length : Int)) := by omega
      have HRw2 := Lib.hid (show New (RowA 80) w3.heap.size wk (.slice ya yn yc) (arcsN 0 Nx) from by have h := HS.out.swap.headNew; rw [List.take_of_length_le (by omega)] at h; exact h)
      obtain ⟨-, mk, hbx⟩ := HS.out.headBox
      have o0 := (hbx 0 _ rfl).1
      have o1 := (hbx 1 _ rfl).1
      have o2 := (hbx 2 _ rfl).1
      replace R0 := Lib.hid ((HB.out.cell (p := ⟨w.heap.size + 1, 0, none⟩) h1w).trans R0.out)
      replace F0 := Lib.hid ((HB.out.frozen (p := ⟨w.heap.size + 1, 0, none⟩) h1w).trans F0.out)
      replace R1 := Lib.hid ((HB.out.cell (p := ⟨w.heap.size + 1, 1, none⟩) h1w).trans R1.out)
      replace F1 := Lib.hid ((HB.out.frozen (p := ⟨w.heap.size + 1, 1, none⟩) h1w).trans F1.out)
      replace R2 := Lib.hid ((HB.out.cell (p := ⟨w.heap.size + 1, 2, none⟩) h1w).trans R2.out)
      replace F2 := Lib.hid ((HB.out.frozen (p := ⟨w.heap.size + 1, 2, none⟩) h1w).trans F2.out)
      have HB2 := Lib.hid (A3.out.trans (HB.out.mono A3.out.size))
      clear HS HB hbx HT3 HRw HMn hkl
      have r0 := R0.out
      have r1 := R1.out
      have r2 := R2.out
      have t0 := F0.out
      have t1 := F1.out
      have t2 := F2.out
      go_wp2
      have s0 := World.cell?_setCell_same wk _ (.int .i64 N) R0.out
      have u1 := (World.cell?_setCell_other _ ⟨w.heap.size + 1, 0, none⟩ _ (.int .i64 N) (by simp)).trans R1.out
      have s1 := World.cell?_setCell_same _ _ (.int .i64 (Z.length : Int)) u1
      have u2 := (World.cell?_setCell_other _ ⟨w.heap.size + 1, 1, none⟩ _ (.int .i64 (Z.length : Int)) (by simp)).trans ((World.cell?_setCell_other _ ⟨w.heap.size + 1, 0, none⟩ _ (.int .i64 N) (by simp)).trans R2.out)
      have s2 := World.cell?_setCell_same _ _ (.slice ya yn yc) u2
      refine bodyPost_ret (v := .tuple #[.agg #[.int .i64 N, .int .i64 (Z.length : Int), .slice ya yn yc], .bool true]) (by simp [results, Tryd.results54, go_sem, s0, s1, s2]) rfl ?_
      refine ⟨_, by rw [HF.out], ?_, (((HB2.out.setCell (p := ⟨w.heap.size + 1, 0, none⟩) (by simp) _).setCell (p := ⟨w.heap.size + 1, 1, none⟩) (by simp) _).setCell (p := ⟨w.heap.size + 1, 2, none⟩) (by simp) _)⟩
      have hk2 := New.storeLow RowG.held (New.storeLow RowG.held (New.storeLow RowG.held HRw2.out h1w (.int .i64 N) (p := ⟨w.heap.size + 1, 0, none⟩)) h1w (.int .i64 (Z.length : Int)) (p := ⟨w.heap.size + 1, 1, none⟩)) h1w (.slice ya yn yc) (p := ⟨w.heap.size + 1, 2, none⟩)
      obtain ⟨F, hF, hFn, hFg⟩ := hk2
      rw [HW.out]
      exact ⟨F, ⟨_, rfl, RowG.arcs hF⟩, hFn, fun b hb => by have := hFg b hb; omega⟩
end Go.Proofs.YtcilgihmaaobeaaDoor
end

section
namespace Go.Proofs.YtcilgihmaaobeaaDoor
open Go.RowKit Go.Deep Go.Sd
set_option linter.unusedSimpArgs false
theorem OLab.slice {w : World} {v : Value} {x : Lb} {F : List Nat} (h : OLab w v x F) : ∃ a c, v = .agg #[.int .i64 x.1, .int .i64 x.2.1, .slice a x.2.2.length c] := by
  obtain ⟨va, rfl, h⟩ := h
  obtain ⟨-, a, c, rfl, -⟩ := h.reads
  exact ⟨a, c, rfl⟩
theorem Cur.labR {lo : Nat} {w : World} {cb : Nat} {K : Value} {n : Nat} {v : Value} {l : Lb} {rs : List Res} (h : Cur lo w cb K n (ResLb v l :: rs)) : LabR w v l := by
  obtain ⟨G, hG, -⟩ := h.out.head
  exact OLab.reads (show OLab w v l G from hG)
theorem Cur.labOf {lo : Nat} {w : World} {cb : Nat} {K : Value} {n : Nat} {v : Value} {l : Lb} {rs : List Res} (h : Cur lo w cb K n (ResLg v l :: rs)) (hlo : lo ≤ w.heap.size) : Cur lo w cb K n (ResLb v l :: rs) := h.conv hlo fun _ h => OLabG.lab h
theorem Cur.labSlice {lo : Nat} {w : World} {cb : Nat} {K : Value} {n : Nat} {v : Value} {l : Lb} {rs : List Res} (h : Cur lo w cb K n (ResLb v l :: rs)) : ∃ a c, v = .agg #[.int .i64 l.1, .int .i64 l.2.1, .slice a l.2.2.length c] := by
  obtain ⟨G, hG, -⟩ := h.out.head
  exact OLab.slice (show OLab w v l G from hG)
set_option maxHeartbeats 8000000 in
set_option maxRecDepth 100000 in
theorem l15Draw_c {lo : Nat} {w : World} {cb : Nat} {Kv : Value} {xs : List Int} {rs : List Res} (hK : ∀ w', Below lo w w' → BytR w' Kv xs) (hc : Cur lo w cb Kv xs.length rs) (hlo : lo ≤ w.heap.size) :
    Calls Tryd.prog 26 #[.pointer (some ⟨cb, 0, none⟩)] w fun e w' => ∃ (v : Value) (l : Lb), e = .returned v ∧ Cur lo w' cb Kv xs.length (ResLb v l :: rs) ∧ Below lo w w' := by
  have HK := Lib.hid hK
  have hcx := hc.box hlo [.int .i64 0, .int .i64 0, .slice none 0 0] 26
  obtain ⟨wA, eA⟩ : ∃ x, x = w.alloc (.cells #[.int .i64 0, .int .i64 0, .slice none 0 0] 26) := ⟨_, rfl⟩
  have hbA : Below w.heap.size w wA := by rw [eA]; exact (Below.refl _ _).alloc (Nat.le_refl _) _
  have HCA := Lib.hid (show Cur lo wA cb Kv xs.length (Res.box w.heap.size [.int .i64 0, .int .i64 0, .slice none 0 0] :: rs) from by rw [eA]; exact hcx)
  have HBA := Lib.hid (hbA.mono hlo)
  have hzA : lo ≤ wA.heap.size := Nat.le_trans hlo hbA.size
  have HD := Lib.hid (l14Bent_c (fun w' hb => HK.out w' (HBA.out.trans hb)) HCA.out hzA)
  have eAs := eA.symm
  clear hK hc hcx hbA eA
  go_enter Tryd.func26, Tryd.ntmps26
  go_wp2_with fail
  (with_reducible refine HD.out.mono ?_)
  rintro e w1 ⟨v, l, rfl, hln, hc, hb⟩
  have hz1 : lo ≤ w1.heap.size := Nat.le_trans hzA hb.size
  have hc1 := hc.labOf hz1
  obtain ⟨ya, yc, rfl⟩ := hc1.labSlice
  have HB1 := Lib.hid (HBA.out.trans hb)
  obtain ⟨w2, e2, hb2, c0, c1, c2, m2⟩ := boxA3_ex w1 26 (.int .i64 l.1) (.int .i64 l.2.1) (.slice ya l.2.2.length yc)
  have hcx := hc1.box hz1 [.int .i64 l.1, .int .i64 l.2.1, .slice ya l.2.2.length yc] 26
  rw [e2] at hcx
  have HB2 := Lib.hid (HB1.out.trans (hb2.mono hz1))
  have hz2 : lo ≤ w2.heap.size := Nat.le_trans hz1 hb2.size
  have HR := Lib.hid (spec_ResolveLabels_c hcx.rest.labR)
  generalize rslV l = x at HR
  generalize rslOk l = ok at HR
  have HC2 := Lib.hid hcx
  have HE2 := Lib.hid e2
  obtain ⟨l0, l1, la⟩ := l
  simp only at HC2 HR HE2 c0 c1 c2 ⊢
  obtain ⟨al, hal⟩ : ∃ n, n = la.length := ⟨_, rfl⟩
  simp only [← hal] at HC2 HR HE2 c2 ⊢
  clear hal hc hb hc1 hcx hb2 c0 c1 c2 m2 hln eAs HD HCA HBA HB1 e2
  go_wp2_with fail
  rw [HE2.out]
  (with_reducible refine HR.out.mono ?_)
  rintro e w3 ⟨vx, rfl, hn, hb⟩
  obtain ⟨sb, hsb⟩ : ∃ b, b = w1.heap.size := ⟨_, rfl⟩
  rw [← hsb] at HC2 ⊢
  have hz3 : lo ≤ w3.heap.size := Nat.le_trans hz2 hb.size
  have hc3 := HC2.out.new OLab.held hb hz2 hn
  have HB3 := Lib.hid (HB2.out.trans (hb.mono hz2))
  obtain ⟨za, zc, rfl⟩ := hc3.labSlice
  obtain ⟨x0, x1, xa⟩ := x
  obtain ⟨xl, hxl⟩ : ∃ n, n = xa.length := ⟨_, rfl⟩
  simp only [← hxl] at hc3 ⊢
  obtain ⟨w4, e4, hb4, c0, c1, c2, m4⟩ := boxA3_ex w3 26 (.int .i64 x0) (.int .i64 x1) (.slice za xl zc)
  have hcx := hc3.box hz3 [.int .i64 x0, .int .i64 x1, .slice za xl zc] 26
  rw [e4] at hcx
  have HC4 := Lib.hid hcx
  have HB4 := Lib.hid (HB3.out.trans (hb4.mono hz3))
  have hz4 : lo ≤ w4.heap.size := Nat.le_trans hz3 hb4.size
  have HE4 := Lib.hid e4
  clear hn hb hc3 hb4 hcx c0 c1 c2 m4 e4 hxl hsb HE2 HR HC2 HB2 HB3
  cases ok with
  | false =>
    have e4 := HE4.out
    obtain ⟨-, -, hcB⟩ := HC4.out.rest.rest.out.headBox
    have k0 := (hcB 0 _ rfl).1
    have k1 := (hcB 1 _ rfl).1
    have k2 := (hcB 2 _ rfl).1
    have hr := HC4.out.rest.rest.rest.perm2'
    clear hcB
    obtain ⟨-, -, hcr⟩ := hr.out.headBox
    have r0 := (hcr 0 _ rfl).1
    have f0 := (hcr 0 _ rfl).2
    have r1 := (hcr 1 _ rfl).1
    have f1 := (hcr 1 _ rfl).2
    have r2 := (hcr 2 _ rfl).1
    have f2 := (hcr 2 _ rfl).2
    have hs1 := hr.store hz4 (j := 0) rfl (.int .i64 l0)
    have hB1 := hr.storeBelow HB4.out 0 (.int .i64 l0)
    have hs2 := hs1.store (by simpa using hz4) (j := 1) rfl (.int .i64 l1)
    have hB2 := hs1.storeBelow hB1 1 (.int .i64 l1)
    have hs3 := hs2.store (by simpa using hz4) (j := 2) rfl (.slice ya al yc)
    have hB3 := hs2.storeBelow hB2 2 (.slice ya al yc)
    obtain ⟨-, -, hcs⟩ := hs3.out.headBox
    have S0 := Lib.hid (hcs 0 (.int .i64 l0) rfl).1
    have S1 := Lib.hid (hcs 1 (.int .i64 l1) rfl).1
    have S2 := Lib.hid (hcs 2 (.slice ya al yc) rfl).1
    have HC3 := Lib.hid hs3.rest
    have HB3 := Lib.hid hB3
    clear hcr hcs hs1 hs2 hs3 hB1 hB2 hB3
    clear hr HC4 HB4 HE4
    go_wp2_with fail
    refine bodyPost_ret (v := .agg #[.int .i64 l0, .int .i64 l1, .slice ya al yc]) (by simp [results, Tryd.results26, go_sem, S0.out, S1.out, S2.out]) rfl ?_
    exact ⟨_, (l0, l1, la), rfl, HC3.out, HB3.out⟩
  | true =>
    have HP := Lib.hid (l1Once_i (z := 3) (fun w' hb => HK.out w' (HB4.out.trans hb)) HC4.out hz4 (by omega) (by omega))
    have HE := HE4
    clear HE4
    go_wp2_with fail
    rw [HE.out]
    (with_reducible refine HP.out.mono ?_)
    rintro e w5 ⟨b, rfl, hc, hb, ho⟩
    obtain ⟨tb, htb⟩ : ∃ b, b = w3.heap.size := ⟨_, rfl⟩
    rw [← htb] at hc ⊢
    have HC5 := Lib.hid hc
    have HB5 := Lib.hid (HB4.out.trans hb)
    have hz5 : lo ≤ w5.heap.size := Nat.le_trans hz4 hb.size
    clear hc hb ho HP HE htb HC4 HB4
    cases b with
    | false =>
      obtain ⟨-, -, hcB⟩ := HC5.out.out.headBox
      have k0 := (hcB 0 _ rfl).1
      have k1 := (hcB 1 _ rfl).1
      have k2 := (hcB 2 _ rfl).1
      have hr := HC5.out.rest.perm2'.rest.perm2'.rest.perm2'
      clear hcB
      obtain ⟨-, -, hcr⟩ := hr.out.headBox
      have r0 := (hcr 0 _ rfl).1
      have f0 := (hcr 0 _ rfl).2
      have r1 := (hcr 1 _ rfl).1
      have f1 := (hcr 1 _ rfl).2
      have r2 := (hcr 2 _ rfl).1
      have f2 := (hcr 2 _ rfl).2
      have hs1 := hr.store hz5 (j := 0) rfl (.int .i64 x0)
      have hB1 := hr.storeBelow HB5.out 0 (.int .i64 x0)
      have hs2 := hs1.store (by simpa using hz5) (j := 1) rfl (.int .i64 x1)
      have hB2 := hs1.storeBelow hB1 1 (.int .i64 x1)
      have hs3 := hs2.store (by simpa using hz5) (j := 2) rfl (.slice za xl zc)
      have hB3 := hs2.storeBelow hB2 2 (.slice za xl zc)
      obtain ⟨-, -, hcs⟩ := hs3.out.headBox
      have S0 := Lib.hid (hcs 0 (.int .i64 x0) rfl).1
      have S1 := Lib.hid (hcs 1 (.int .i64 x1) rfl).1
      have S2 := Lib.hid (hcs 2 (.slice za xl zc) rfl).1
      have HC3 := Lib.hid hs3.rest
      have HB3 := Lib.hid hB3
      clear hcr hcs hs1 hs2 hs3 hB1 hB2 hB3
      clear hr HC5 HB5
      go_wp2_with fail
      refine bodyPost_ret (v := .agg #[.int .i64 x0, .int .i64 x1, .slice za xl zc]) (by simp [results, Tryd.results26, go_sem, S0.out, S1.out, S2.out]) rfl ?_
      exact ⟨_, (x0, x1, xa), rfl, HC3.out, HB3.out⟩
    | true =>
      obtain ⟨-, -, hcB⟩ := HC5.out.rest.rest.out.headBox
      have k0 := (hcB 0 _ rfl).1
      have k1 := (hcB 1 _ rfl).1
      have k2 := (hcB 2 _ rfl).1
      have hr := HC5.out.rest.rest.rest.perm2'
      clear hcB
      obtain ⟨-, -, hcr⟩ := hr.out.headBox
      have r0 := (hcr 0 _ rfl).1
      have f0 := (hcr 0 _ rfl).2
      have r1 := (hcr 1 _ rfl).1
      have f1 := (hcr 1 _ rfl).2
      have r2 := (hcr 2 _ rfl).1
      have f2 := (hcr 2 _ rfl).2
      have hs1 := hr.store hz5 (j := 0) rfl (.int .i64 l0)
      have hB1 := hr.storeBelow HB5.out 0 (.int .i64 l0)
      have hs2 := hs1.store (by simpa using hz5) (j := 1) rfl (.int .i64 l1)
      have hB2 := hs1.storeBelow hB1 1 (.int .i64 l1)
      have hs3 := hs2.store (by simpa using hz5) (j := 2) rfl (.slice ya al yc)
      have hB3 := hs2.storeBelow hB2 2 (.slice ya al yc)
      obtain ⟨-, -, hcs⟩ := hs3.out.headBox
      have S0 := Lib.hid (hcs 0 (.int .i64 l0) rfl).1
      have S1 := Lib.hid (hcs 1 (.int .i64 l1) rfl).1
      have S2 := Lib.hid (hcs 2 (.slice ya al yc) rfl).1
      have HC3 := Lib.hid hs3.rest
      have HB3 := Lib.hid hB3
      clear hcr hcs hs1 hs2 hs3 hB1 hB2 hB3
      clear hr HC5 HB5
      go_wp2_with fail
      refine bodyPost_ret (v := .agg #[.int .i64 l0, .int .i64 l1, .slice ya al yc]) (by simp [results, Tryd.results26, go_sem, S0.out, S1.out, S2.out]) rfl ?_
      exact ⟨_, (l0, l1, la), rfl, HC3.out, HB3.out⟩
end Go.Proofs.YtcilgihmaaobeaaDoor
end
