/-
  Laws for this claim's walks, contracts of the functions that it reaches.
-/
import Derived.Test.YtcilgihmaaobeaaGreatDoorFnLabelsM32
set_option linter.unusedVariables false
set_option linter.unusedSimpArgs false
section
namespace Go.Proofs.YtcilgihmaaobeaaGreatDoor
open Go.RowKit Go.Deep Go.Sd
set_option linter.unusedSimpArgs false
def l3Odd : List ByteArray := [⟨#[97]⟩, ⟨#[]⟩, ⟨#[100]⟩, ⟨#[97, 97, 97, 97]⟩]
theorem l3Odd_size {x : ByteArray} (h : x ∈ l3Odd) : x.size ≤ 8 := by
  simp only [l3Odd, List.mem_cons, List.not_mem_nil, or_false] at h
  rcases h with rfl | rfl | rfl | rfl <;> decide
theorem shCells_below {w w' : World} {b B : Nat} {vs : List Value} (h : Cells w b vs) (hb : Below B w w') (hB : b < B) : Cells w' b vs :=
  ⟨Nat.lt_of_lt_of_le h.1 hb.size, fun j u hu => ⟨(hb.cell (p := ⟨b, j, none⟩) hB).trans (h.2 j u hu).1, (hb.frozen (p := ⟨b, j, none⟩) hB).trans (h.2 j u hu).2⟩⟩
set_option maxHeartbeats 8000000 in
set_option maxRecDepth 100000 in
theorem l3Bent_c {lo : Nat} {w : World} {cb : Nat} {Kv : Value} {xs : List Int} {rs : List Res} (hK : ∀ w', Below lo w w' → BytR w' Kv xs) (hc : Cur lo w cb Kv xs.length rs) (hlo : lo ≤ w.heap.size) :
    Calls Tryz.prog 45 #[.pointer (some ⟨cb, 0, none⟩)] w fun e w' => ∃ (v : Value) (z : Sh), e = .returned v ∧ (∀ f, f ∈ z.2 → f.size ≤ 8) ∧ Cur lo w' cb Kv xs.length (ResSh v z :: rs) ∧ Below lo w w' := by
  have HK := Lib.hid hK
  have hcx := hc.box hlo [.int .i64 0, .slice none 0 0] 37
  obtain ⟨wA, eA⟩ : ∃ x, x = w.alloc (.cells #[.int .i64 0, .slice none 0 0] 37) := ⟨_, rfl⟩
  have hbA : Below w.heap.size w wA := by rw [eA]; exact (Below.refl _ _).alloc (Nat.le_refl _) _
  have HCA := Lib.hid (show Cur lo wA cb Kv xs.length (Res.box w.heap.size [.int .i64 0, .slice none 0 0] :: rs) from by rw [eA]; exact hcx)
  have HBA := Lib.hid (hbA.mono hlo)
  have hzA : lo ≤ wA.heap.size := Nat.le_trans hlo hbA.size
  have HD := Lib.hid (l3Draw_c (fun w' hb => HK.out w' (HBA.out.trans hb)) HCA.out hzA)
  have eAs := eA.symm
  clear hK hc hcx hbA eA
  go_enter Tryz.func45, Tryz.ntmps45
  go_wp2_with fail
  (with_reducible refine HD.out.mono ?_)
  rintro e w1 ⟨v, z, rfl, hsm, hc, hb⟩
  have hz1 : lo ≤ w1.heap.size := Nat.le_trans hzA hb.size
  obtain ⟨d, F⟩ := z
  obtain ⟨G, hG, -⟩ := hc.out.head
  obtain ⟨ya, yc, rfl⟩ := OSh.slice (show OSh w1 v (d, F) G from hG)
  obtain ⟨fl, hfl⟩ : ∃ n, n = F.length := ⟨_, rfl⟩
  simp only [← hfl] at hc hG ⊢
  have hc1 : Cur lo w1 cb Kv xs.length (Res.of OStrs OStrs.held (.slice ya fl yc) F :: Res.box w.heap.size [.int .i64 0, .slice none 0 0] :: rs) := hc.conv hz1 (fun F h => by
    obtain ⟨va, e, h⟩ := h
    simp only [Value.agg.injEq, Array.mk.injEq, List.cons.injEq, true_and, and_true] at e
    subst e
    exact h)
  have HF := Lib.hid (show F.length ≤ 9 ∧ ∀ f, f ∈ F → f.size ≤ 8 from ⟨hsm.2.2.1, hsm.2.2.2⟩)
  have Hfl := Lib.hid hfl
  have HB1 := Lib.hid (HBA.out.trans hb)
  obtain ⟨w2, e2, hb2, c0, c1, m2⟩ := boxA_ex w1 37 (.int .i64 d) (.slice ya fl yc)
  have hcx := hc1.box hz1 [.int .i64 d, .slice ya fl yc] 37
  have HC2 := Lib.hid (show Cur lo w2 cb Kv xs.length (Res.box w1.heap.size [.int .i64 d, .slice ya fl yc] :: Res.of OStrs OStrs.held (.slice ya fl yc) F :: Res.box w.heap.size [.int .i64 0, .slice none 0 0] :: rs) from by rw [← e2]; exact hcx)
  have HB2 := Lib.hid (HB1.out.trans (hb2.mono hz1))
  have hz2 : lo ≤ w2.heap.size := Nat.le_trans hz1 hb2.size
  have HP := Lib.hid (l1Below_i (z := 16) (fun w' hb => HK.out w' (HB2.out.trans hb)) HC2.out hz2 (by omega) (by omega))
  have HE2 := Lib.hid e2
  clear hc hb hG hc1 hcx hb2 hfl hsm c0 c1 m2 e2 eAs HD HCA HBA HC2 HB1
  go_wp2_with fail
  rw [HE2.out]
  (with_reducible refine HP.out.mono ?_)
  rintro e w3 ⟨x, rfl, hx, hc, hb, ho⟩
  obtain ⟨sb, hsb⟩ : ∃ b, b = w1.heap.size := ⟨_, rfl⟩
  rw [← hsb] at hc ⊢
  have HC3 := Lib.hid hc
  have HB3 := Lib.hid (HB2.out.trans hb)
  have hz3 : lo ≤ w3.heap.size := Nat.le_trans hz2 hb.size
  clear hx hc hb ho HP HE2 hsb HB2
  by_cases hx0 : x = 0
  · have t0 : ((x : Int) == 0) = true := by simp [hx0]
    have hcx := HC3.out.box hz3 (([0, 4, 1] : List Int).map (Value.int .i64)) 3
    obtain ⟨w4, e4⟩ : ∃ x, x = w3.alloc (.cells #[.int .i64 0, .int .i64 4, .int .i64 1] 3) := ⟨_, rfl⟩
    have HC4 := Lib.hid (show Cur lo w4 cb Kv xs.length (Res.box w3.heap.size (([0, 4, 1] : List Int).map (Value.int .i64)) :: Res.box sb [.int .i64 d, .slice ya fl yc] :: Res.of OStrs OStrs.held (.slice ya fl yc) F :: Res.box w.heap.size [.int .i64 0, .slice none 0 0] :: rs) from by rw [e4]; exact hcx)
    have hb4 : Below w3.heap.size w3 w4 := by rw [e4]; exact (Below.refl _ _).alloc (Nat.le_refl _) _
    have HB4 := Lib.hid (HB3.out.trans (hb4.mono hz3))
    have hz4 : lo ≤ w4.heap.size := Nat.le_trans hz3 hb4.size
    have HP := Lib.hid (show Calls Tryz.prog 36 #[.pointer (some ⟨cb, 0, none⟩), .slice (some ⟨w3.heap.size, 0, none⟩) 3 3] w4 _ from l1PickInt_c (ls := [0, 4, 1]) (c := 3) (fun w' hb => HK.out w' (HB4.out.trans hb)) HC4.out hz4 (by decide) (by decide))
    have e4s := e4.symm
    clear hcx hb4 e4 HC3 HB3 hx0
    go_wp2_with fail
    (with_reducible refine HP.out.mono ?_)
    rintro e w5 ⟨y, rfl, hy, hc, hb, ho⟩
    have hz5 : lo ≤ w5.heap.size := Nat.le_trans hz4 hb.size
    have hc5 := hc.rest
    obtain ⟨-, -, hcl⟩ := hc5.out.headBox
    have d0 := (hcl 0 _ rfl).1
    have u0 := (hcl 0 _ rfl).2
    have HB6 := Lib.hid (hc5.storeBelow (HB4.out.trans hb) 0 (.int .i64 y))
    have hc6 := hc5.store hz5 (j := 0) rfl (.int .i64 y)
    obtain ⟨w6, e6⟩ : ∃ x, x = w5.setCell ⟨sb, 0, none⟩ (.int .i64 y) := ⟨_, rfl⟩
    rw [← e6] at hc6 HB6
    have hz6 : lo ≤ w6.heap.size := by rw [e6]; simpa using hz5
    have HC6 := Lib.hid hc6
    have e6s := e6.symm
    clear hy hc hb ho hc5 hcl hc6 e6 e4s HP HC4 HB4
    have hcE := (show Cur lo w6 cb Kv xs.length (Res.box sb [.int .i64 y, .slice ya fl yc] :: Res.of OStrs OStrs.held (.slice ya fl yc) F :: Res.box w.heap.size [.int .i64 0, .slice none 0 0] :: rs) from HC6.out)
    obtain ⟨-, -, hcB⟩ := hcE.out.headBox
    have k0 := (hcB 0 _ rfl).1
    have k1 := (hcB 1 _ rfl).1
    have hr := hcE.rest.perm2'
    clear hcE hcB
    obtain ⟨-, -, hcr⟩ := hr.out.headBox
    have r0 := (hcr 0 _ rfl).1
    have r1 := (hcr 1 _ rfl).1
    have f0 := (hcr 0 _ rfl).2
    have f1 := (hcr 1 _ rfl).2
    have hs1 := hr.store hz6 (j := 0) rfl (.int .i64 y)
    have hB1 := hr.storeBelow HB6.out 0 (.int .i64 y)
    have hs2 := hs1.store (by simpa using hz6) (j := 1) rfl (.slice ya fl yc)
    have hB2 := hs1.storeBelow hB1 1 (.slice ya fl yc)
    obtain ⟨-, -, hcs⟩ := hs2.out.headBox
    have S0 := Lib.hid (hcs 0 (.int .i64 y) rfl).1
    have S1 := Lib.hid (hcs 1 (.slice ya fl yc) rfl).1
    have HCv := Lib.hid (hs2.rest.conv (s := ResSh (.agg #[.int .i64 y, .slice ya fl yc]) (y, F)) (by simpa using hz6) (fun F h => ⟨_, rfl, h⟩))
    have HBv := Lib.hid hB2
    clear hcr hcs hs1 hs2 hB1 hB2 hr HC6 HB6
    go_wp2_with fail
    refine bodyPost_ret (v := .agg #[.int .i64 y, .slice ya fl yc]) (by simp [results, Tryz.results45, go_sem, S0.out, S1.out]) rfl ?_
    exact ⟨_, (y, F), rfl, HF.out.2, HCv.out, HBv.out⟩
  · have t0 : ((x : Int) == 0) = false := by simp [hx0]
    by_cases hx1 : x = 1
    · have t1 : ((x : Int) == 1) = true := by simp [hx1]
      have hbd : Below w3.heap.size w3 w3.drew := (Below.refl _ _).drew
      have HCd := Lib.hid (HC3.out.below hbd)
      have HBd := Lib.hid (HB3.out.trans (hbd.mono hz3))
      have hzd : lo ≤ w3.drew.heap.size := Nat.le_trans hz3 hbd.size
      have hSd : w3.drew.cell? ⟨sb, 1, none⟩ = some (.slice ya fl yc) := ((HCd.out.out.headBox).2.2 1 _ rfl).1
      have hcx := HCd.out.box hzd (l3Odd.map Value.string) 9
      obtain ⟨w4, e4⟩ : ∃ x, x = (w3.alloc (.cells #[.string ⟨#[97]⟩, .string ⟨#[]⟩, .string ⟨#[100]⟩, .string ⟨#[97, 97, 97, 97]⟩] 9)).drew := ⟨_, rfl⟩
      have HC4 := Lib.hid (show Cur lo w4 cb Kv xs.length (Res.box w3.drew.heap.size (l3Odd.map Value.string) :: Res.box sb [.int .i64 d, .slice ya fl yc] :: Res.of OStrs OStrs.held (.slice ya fl yc) F :: Res.box w.heap.size [.int .i64 0, .slice none 0 0] :: rs) from by rw [e4]; exact hcx)
      have hb4 : Below w3.drew.heap.size w3.drew w4 := by rw [e4]; exact (Below.refl w3.drew.heap.size w3.drew).alloc (Nat.le_refl _) (.cells #[.string ⟨#[97]⟩, .string ⟨#[]⟩, .string ⟨#[100]⟩, .string ⟨#[97, 97, 97, 97]⟩] 9)
      have HB4 := Lib.hid (HBd.out.trans (hb4.mono hzd))
      have hz4 : lo ≤ w4.heap.size := Nat.le_trans hzd hb4.size
      have hS4 : w4.cell? ⟨sb, 1, none⟩ = some (.slice ya fl yc) := ((HC4.out.rest.out.headBox).2.2 1 _ rfl).1
      have HP1 := Lib.hid (show Calls Tryz.prog 78 #[.pointer (some ⟨cb, 0, none⟩), .slice (some ⟨w3.heap.size, 0, none⟩) 4 4] w4 _ from l1Pick_c (ls := l3Odd) (c := 4) (fun w' hb => HK.out w' (HB4.out.trans hb)) HC4.out hz4 (by decide) (by decide))
      have HE4 := Lib.hid e4.symm
      clear hbd hcx hb4 e4 HCd HBd HC3 HB3 hx0 hx1
      go_wp2_with fail
      refine wp_region_L (fun w' => w'.cell? ⟨sb, 1, none⟩ = some (.slice ya fl yc)) (by kernel_rfl) ?_
      refine wpAnyL_take 0 (v := ?_) rfl (by kernel_rfl) (by kernel_rfl) (by kernel_rfl) (by kernel_rfl) (fun _ _ _ h => h) (Or.inl ⟨by rfl, ?_⟩) hSd ?_
      rotate_left
      · (intro w hSw; (try dsimp only at hSw); go_simp) <;> (try with_reducible rfl)
      try simp only [Act.put, List.getElem_toArray, List.getElem_cons_zero, List.getElem_cons_succ, List.setIfInBounds_toArray, List.set_cons_zero, List.set_cons_succ]
      refine wpAnyL_take 1 (v := ?_) rfl (by kernel_rfl) (by kernel_rfl) (by kernel_rfl) (by kernel_rfl) (fun _ _ _ h => h) (Or.inl ⟨by rfl, ?_⟩) hSd ?_
      rotate_left
      · (intro w hSw; (try dsimp only at hSw); go_simp) <;> (try with_reducible rfl)
      try simp only [Act.put, List.getElem_toArray, List.getElem_cons_zero, List.getElem_cons_succ, List.setIfInBounds_toArray, List.set_cons_zero, List.set_cons_succ]
      refine wpAnyL_take 2 (v := ?_) rfl (by kernel_rfl) (by kernel_rfl) (by kernel_rfl) (by kernel_rfl) (fun _ _ _ h => h) (Or.inl ⟨by rfl, ?_⟩) hSd ?_
      rotate_left
      · (intro w hSw; (try dsimp only at hSw); go_simp) <;> (try with_reducible rfl)
      try simp only [Act.put, List.getElem_toArray, List.getElem_cons_zero, List.getElem_cons_succ, List.setIfInBounds_toArray, List.set_cons_zero, List.set_cons_succ]
      refine wpAnyL_one 3 (by kernel_rfl) rfl (fun K hK => ?_)
      go_simp
      refine hK.out _ _ (fun _ => (by rw [HE4.out]; exact hS4)) ?_
      clear hK K
      try simp only [Act.put, List.getElem_toArray, List.getElem_cons_zero, List.getElem_cons_succ, List.setIfInBounds_toArray, List.set_cons_zero, List.set_cons_succ]
      rw [HE4.out]
      refine wpAnyL_one 4 (by kernel_rfl) rfl (fun K hK => ?_)
      go_simp
      (with_reducible refine HP1.out.mono ?_)
      rintro e wu ⟨q1, rfl, hq, hc, hb, ho⟩
      have HBwu := Lib.hid (HB4.out.trans hb)
      have hzwu : lo ≤ wu.heap.size := Nat.le_trans hz4 hb.size
      have hSwu : wu.cell? ⟨sb, 1, none⟩ = some (.slice ya fl yc) := ((hc.rest.out.headBox).2.2 1 _ rfl).1
      have hq8 := l3Odd_size hq
      obtain ⟨i0, h0, hi0, hs0⟩ := hc.rest
      obtain ⟨wx, ewx⟩ : ∃ x, x = wu.alloc (.cells #[.string q1] 9) := ⟨_, rfl⟩
      have hbx : Below wu.heap.size wu wx := by rw [ewx]; exact (Below.refl _ _).alloc (Nat.le_refl _) _
      obtain ⟨v5, w5', hr5, hs5, hb5⟩ := Sep.push (P := Tryz.prog) OStr.kept 29 29 (.string ⟨#[]⟩) 16 Tryz.underlying29 infoStr rfl (hs0.perm ((List.Perm.cons _ (List.Perm.swap _ _ _)).trans (List.Perm.swap _ _ _))) hzwu (w1 := wx) hbx (q := .string q1) (x := q1) ⟨[], ⟨rfl, rfl⟩, by simp [Fresh]⟩ (bb := wu.heap.size) (c := 1) (by rw [ewx]; exact World.cell?_alloc_at _ _ _ 0 rfl) (by have := HF.out.1; omega) (by have := HF.out.1; omega)
      obtain ⟨va5, c5, rfl⟩ : ∃ a c, v5 = .slice a (F ++ [q1]).length c := by
        obtain ⟨G, hG, -⟩ := hs5.head
        obtain ⟨a, c, e, -⟩ := (OwnOf.reads (fun _ _ _ _ h => h.1) (show OStrs w5' v5 (F ++ [q1]) G from hG) : TsR w5' v5 (F ++ [q1])).shape
        exact ⟨a, c, e⟩
      obtain ⟨n5, hn5⟩ : ∃ n, n = (F ++ [q1]).length := ⟨_, rfl⟩
      rw [← hn5] at hr5 hs5
      have HF5 := Lib.hid (show ∀ f, f ∈ F ++ [q1] → f.size ≤ 8 from fun f hf => by
        rcases List.mem_append.1 hf with h | h
        · exact HF.out.2 f h
        · rw [List.mem_singleton] at h; rw [h]; exact hq8)
      have hc5 : Cur lo w5' cb Kv xs.length (Res.box sb [.int .i64 d, .slice ya fl yc] :: Res.of OStrs OStrs.held (.slice va5 n5 c5) (F ++ [q1]) :: Res.box w.heap.size [.int .i64 0, .slice none 0 0] :: rs) := ⟨i0, h0, hi0, hs5.perm ((List.Perm.swap _ _ _).trans (List.Perm.cons _ (List.Perm.swap _ _ _)))⟩
      have hz5 : lo ≤ w5'.heap.size := Nat.le_trans hzwu hb5.size
      obtain ⟨-, -, hcl⟩ := hc5.out.headBox
      have d2 := (hcl 1 _ rfl).1
      have u2 := (hcl 1 _ rfl).2
      have HB6 := Lib.hid (hc5.storeBelow (HBwu.out.trans hb5) 1 (.slice va5 n5 c5))
      have HC6 := Lib.hid (hc5.store hz5 (j := 1) rfl (.slice va5 n5 c5))
      have hS5 : w5'.cell? ⟨sb, 1, none⟩ = some (.slice ya fl yc) := d2
      have hSx : wx.cell? ⟨sb, 1, none⟩ = some (.slice ya fl yc) := (hbx.cell (p := ⟨sb, 1, none⟩) (World.block_lt_of_cell? _ _ hSwu)).trans hSwu
      have Hr5 := Lib.hid hr5
      have ewxs := Lib.hid ewx.symm
      clear hs0 hr5 hs5 hb5 hc5 hbx ewx hcl hn5
      clear hb ho hq hc HP1
      go_wp2_with fail
      refine hK.out _ _ (fun _ => hSwu) ?_
      clear hK K
      try simp only [Act.put, List.getElem_toArray, List.getElem_cons_zero, List.getElem_cons_succ, List.setIfInBounds_toArray, List.set_cons_zero, List.set_cons_succ]
      refine wpAnyL_one 5 (by kernel_rfl) rfl (fun K hK => ?_)
      go_simp
      refine hK.out _ _ (fun _ => (by rw [ewxs.out]; exact hSx)) ?_
      clear hK K
      try simp only [Act.put, List.getElem_toArray, List.getElem_cons_zero, List.getElem_cons_succ, List.setIfInBounds_toArray, List.set_cons_zero, List.set_cons_succ]
      rw [ewxs.out]
      refine wpAnyL_one 6 (by kernel_rfl) rfl (fun K hK => ?_)
      refine step_append_run (by rfl) (.tmp 17) (.tmp 21) 29 (by rfl) (by rfl) (by rfl) Hr5.out ?_
      refine hK.out _ _ (fun _ => hS5) ?_
      clear hK K
      try simp only [Act.put, List.getElem_toArray, List.getElem_cons_zero, List.getElem_cons_succ, List.setIfInBounds_toArray, List.set_cons_zero, List.set_cons_succ]
      refine wpAnyL_take 7 (v := ?_) rfl (by kernel_rfl) (by kernel_rfl) (by kernel_rfl) (by kernel_rfl) (fun _ _ _ h => h) (Or.inl ⟨by rfl, ?_⟩) hS5 ?_
      rotate_left
      · (intro w hSw; (try dsimp only at hSw); go_simp) <;> (try with_reducible rfl)
      try simp only [Act.put, List.getElem_toArray, List.getElem_cons_zero, List.getElem_cons_succ, List.setIfInBounds_toArray, List.set_cons_zero, List.set_cons_succ]
      refine wpAnyL_one 8 (by kernel_rfl) rfl (fun K hK => ?_)
      go_simp
      refine hK.out _ _ (fun h => absurd h (not_rem (by kernel_rfl))) ?_
      clear hK K
      try simp only [Act.put, List.getElem_toArray, List.getElem_cons_zero, List.getElem_cons_succ, List.setIfInBounds_toArray, List.set_cons_zero, List.set_cons_succ]
      refine wpAnyL_done (by kernel_rfl) ?_ _
      obtain ⟨w6, e6⟩ : ∃ x, x = w5'.setCell ⟨sb, 1, none⟩ (.slice va5 n5 c5) := ⟨_, rfl⟩
      rw [← e6] at HC6 HB6 ⊢
      have hz6 : lo ≤ w6.heap.size := by rw [e6]; simpa using hz5
      have HC6' := Lib.hid (show Cur lo w6 cb Kv xs.length (Res.box sb [.int .i64 d, .slice va5 n5 c5] :: Res.of OStrs OStrs.held (.slice va5 n5 c5) (F ++ [q1]) :: Res.box w.heap.size [.int .i64 0, .slice none 0 0] :: rs) from HC6.out)
      clear e6 HC6 d2 u2 hS5 hSx hSwu hSd hS4 Hr5 ewxs HBwu HC4 HB4 HE4
      have hcE := HC6'.out
      obtain ⟨-, -, hcB⟩ := hcE.out.headBox
      have k0 := (hcB 0 _ rfl).1
      have k1 := (hcB 1 _ rfl).1
      have hr := hcE.rest.perm2'
      clear hcE hcB
      obtain ⟨-, -, hcr⟩ := hr.out.headBox
      have r0 := (hcr 0 _ rfl).1
      have r1 := (hcr 1 _ rfl).1
      have f0 := (hcr 0 _ rfl).2
      have f1 := (hcr 1 _ rfl).2
      have hs1 := hr.store hz6 (j := 0) rfl (.int .i64 d)
      have hB1 := hr.storeBelow HB6.out 0 (.int .i64 d)
      have hs2 := hs1.store (by simpa using hz6) (j := 1) rfl (.slice va5 n5 c5)
      have hB2 := hs1.storeBelow hB1 1 (.slice va5 n5 c5)
      obtain ⟨-, -, hcs⟩ := hs2.out.headBox
      have S0 := Lib.hid (hcs 0 (.int .i64 d) rfl).1
      have S1 := Lib.hid (hcs 1 (.slice va5 n5 c5) rfl).1
      have HCv := Lib.hid (hs2.rest.conv (s := ResSh (.agg #[.int .i64 d, .slice va5 n5 c5]) (d, F ++ [q1])) (by simpa using hz6) (fun F h => ⟨_, rfl, h⟩))
      have HBv := Lib.hid hB2
      clear hcr hcs hs1 hs2 hB1 hB2 hr HC6' HB6
      go_wp2_with fail
      refine bodyPost_ret (v := .agg #[.int .i64 d, .slice va5 n5 c5]) (by simp [results, Tryz.results45, go_sem, S0.out, S1.out]) rfl ?_
      exact ⟨_, (d, F ++ [q1]), rfl, HF5.out, HCv.out, HBv.out⟩
    · have t1 : ((x : Int) == 1) = false := by simp; omega
      clear hx0 hx1
      have hcE := HC3.out
      obtain ⟨-, -, hcB⟩ := hcE.out.headBox
      have k0 := (hcB 0 _ rfl).1
      have k1 := (hcB 1 _ rfl).1
      have hr := hcE.rest.perm2'
      clear hcE hcB
      obtain ⟨-, -, hcr⟩ := hr.out.headBox
      have r0 := (hcr 0 _ rfl).1
      have r1 := (hcr 1 _ rfl).1
      have f0 := (hcr 0 _ rfl).2
      have f1 := (hcr 1 _ rfl).2
      have hs1 := hr.store hz3 (j := 0) rfl (.int .i64 d)
      have hB1 := hr.storeBelow HB3.out 0 (.int .i64 d)
      have hs2 := hs1.store (by simpa using hz3) (j := 1) rfl (.slice ya fl yc)
      have hB2 := hs1.storeBelow hB1 1 (.slice ya fl yc)
      obtain ⟨-, -, hcs⟩ := hs2.out.headBox
      have S0 := Lib.hid (hcs 0 (.int .i64 d) rfl).1
      have S1 := Lib.hid (hcs 1 (.slice ya fl yc) rfl).1
      have HCv := Lib.hid (hs2.rest.conv (s := ResSh (.agg #[.int .i64 d, .slice ya fl yc]) (d, F)) (by simpa using hz3) (fun F h => ⟨_, rfl, h⟩))
      have HBv := Lib.hid hB2
      clear hcr hcs hs1 hs2 hB1 hB2 hr HC3 HB3
      go_wp2_with fail
      refine bodyPost_ret (v := .agg #[.int .i64 d, .slice ya fl yc]) (by simp [results, Tryz.results45, go_sem, S0.out, S1.out]) rfl ?_
      exact ⟨_, (d, F), rfl, HF.out.2, HCv.out, HBv.out⟩
set_option maxHeartbeats 2000000 in
set_option maxRecDepth 100000 in
theorem DrawLabelsOf_c {w : World} {vc : Value} {xs : List Int} (h : BytR w vc xs) :
    Calls Tryz.prog 11 #[vc] w fun e w' => ∃ (v : Value) (z : Sh), e = .returned v ∧ ShR w' v z ∧ (∀ f, f ∈ z.2 → f.size ≤ 8) ∧ Below w.heap.size w w' := by
  obtain ⟨wA, eA, hA⟩ : ∃ x, x = w.alloc (.cells #[.int .i64 0, .slice none 0 0] 37) ∧ Below w.heap.size w x := ⟨_, rfl, (Below.refl _ _).alloc (Nat.le_refl _) _⟩
  have hA' : BytR wA vc xs := BytR.frame _ _ _ _ h hA
  have HN := Lib.hid (l1New_c hA')
  have HK := Lib.hid (fun w' (hb : Below wA.heap.size wA w') => BytR.frame _ _ _ _ hA' hb)
  obtain ⟨a, c, rfl, -⟩ := h.cellsB
  have z0 : w.heap.size < wA.heap.size := by rw [eA]; simp
  have RC := Lib.hid (show Cells wA w.heap.size [.int .i64 0, .slice none 0 0] from by
    refine ⟨z0, fun j u hj => ?_⟩
    rcases j with _ | _ | j <;> first | (simp at hj; done) | (simp at hj; subst hj; rw [eA]; simp [go_sem]))
  have HA := Lib.hid hA
  have eAs := eA.symm
  clear h hA hA' eA
  go_enter Tryz.func11, Tryz.ntmps11
  go_wp2_with fail
  (with_reducible refine HN.out.mono ?_)
  rintro e w1 ⟨rfl, ⟨hh, hs⟩, hb⟩
  obtain ⟨cb, hcb⟩ : ∃ b, b = wA.heap.size := ⟨_, rfl⟩
  have HC1 := Lib.hid (show Cur wA.heap.size w1 cb (.slice a xs.length c) xs.length [] from by rw [hcb]; exact ⟨0, hh, Nat.zero_le _, hs⟩)
  rw [← hcb]
  have HX1 := Lib.hid hb
  have hz1 := hb.size
  clear hs hb HN eAs hcb
  have HL := Lib.hid (l3Bent_c (fun w' hb' => HK.out w' (HX1.out.trans hb')) HC1.out hz1)
  go_wp2_with fail
  (with_reducible refine HL.out.mono ?_)
  rintro e w2 ⟨v, z, rfl, hf, hc, hb⟩
  obtain ⟨d, F⟩ := z
  have hz2 := Nat.le_trans hz1 hb.size
  have HX2 := Lib.hid (HX1.out.trans hb)
  have HN2 := Lib.hid (hc.out.headNew)
  obtain ⟨G, hG, -⟩ := hc.out.head
  obtain ⟨ya, yc, rfl⟩ := OSh.slice (show OSh w2 v (d, F) G from hG)
  obtain ⟨fl, hfl⟩ : ∃ n, n = F.length := ⟨_, rfl⟩
  simp only [← hfl] at HN2 ⊢
  have Hf := Lib.hid hf
  have hRC := shCells_below RC.out HX2.out z0
  have r0 := (hRC.2 0 _ rfl).1
  have r1 := (hRC.2 1 _ rfl).1
  have f0 := (hRC.2 0 _ rfl).2
  have f1 := (hRC.2 1 _ rfl).2
  have hR1 := hRC.store (j := 0) rfl (.int .i64 d)
  have hR2 := hR1.store (j := 1) rfl (.slice ya fl yc)
  have S0 := Lib.hid (hR2.2 0 (.int .i64 d) rfl).1
  have S1 := Lib.hid (hR2.2 1 (.slice ya fl yc) rfl).1
  have HNs := Lib.hid (New.storeLow OSh.held (New.storeLow OSh.held HN2.out (p := ⟨w.heap.size, 0, none⟩) z0 (.int .i64 d)) (p := ⟨w.heap.size, 1, none⟩) z0 (.slice ya fl yc))
  have HBs := Lib.hid (((HA.out.trans (HX2.out.mono (Nat.le_of_lt z0))).setCell (p := ⟨w.heap.size, 0, none⟩) (Nat.le_refl _) (.int .i64 d)).setCell (p := ⟨w.heap.size, 1, none⟩) (Nat.le_refl _) (.slice ya fl yc))
  clear hf hc hb hG hfl hRC hR1 hR2 HL HC1 HX1 hz1 HX2 hz2 HN2 RC HA
  go_wp2_with fail
  refine bodyPost_ret (v := .agg #[.int .i64 d, .slice ya fl yc]) (by simp [results, Tryz.results11, go_sem, S0.out, S1.out]) rfl ?_
  first | exact ⟨_, (d, F), rfl, New.sh HNs.out, Hf.out, HBs.out⟩ | exact ⟨_, rfl, d, F, New.sh HNs.out, Hf.out, HBs.out⟩
end Go.Proofs.YtcilgihmaaobeaaGreatDoor
end
