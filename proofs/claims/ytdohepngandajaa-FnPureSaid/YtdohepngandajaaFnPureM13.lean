/-
  Texts of this claim joined: laws for its walks, contracts of the functions that the law reaches.
-/
import Derived.Test.YtdohepngandajaaFnPureM11
import Derived.Test.YtdohepngandajaaFnPureM12
import Derived.Test.YtdohepngandajaaFnPureM1
import Derived.Test.YtdohepngandajaaFnPureM5
import Derived.Test.YtdohepngandajaaFnPureM7
import Derived.Test.YtdohepngandajaaRows
import Derived.Test.YtdohepngandajaaFnPureM2
import Derived.Test.YtdohepngandajaaFnPureM4
section
/-
  Small matrices drawn, bent; the draw of TurnMatrix.
-/
namespace Go.Proofs.Ytdohepngandajaa
open Go.RowKit Go.Deep Go.Sd
set_option linter.unusedSimpArgs false
/-- What a bent matrix is. -/
def BentM (m : List (List Int)) : Prop := 0 < m.length ∧ m.length ≤ 5 ∧ ∀ r, r ∈ m → r.length ≤ 5 ∧ ∀ x, x ∈ r → -1 ≤ x ∧ x ≤ 1000001
theorem SmallD.bent {m : List (List Int)} (h : SmallD m) : BentM m := by
  obtain ⟨h1, h2, h3⟩ := isMat_sq h.1
  have hb := isMat_bd h.1
  refine ⟨by omega, by have := h.2; omega, fun r hr => ⟨by have := h1.2 r hr; have := h.2; omega, fun x hx => ?_⟩⟩
  have := hb r hr x hx
  omega
theorem SmallD.row {m : List (List Int)} (h : SmallD m) : ∃ r x, m[0]? = some r ∧ r[0]? = some x ∧ m.length ≤ 4 := by
  obtain ⟨h1, h2, h3⟩ := isMat_sq h.1
  have h4 : 0 < m.length := by omega
  have hr := h1.2 m[0] (List.getElem_mem h4)
  exact ⟨m[0], m[0][0]'(by omega), List.getElem?_eq_getElem h4, List.getElem?_eq_getElem (by omega), h.2⟩
theorem BentM.set {m : List (List Int)} (h : BentM m) {r : List Int} {y : Int} (hr : m[0]? = some r) (hy : -1 ≤ y ∧ y ≤ 1000001) : BentM (m.set 0 (r.set 0 y)) := by
  have hm := List.mem_of_getElem? hr
  refine ⟨by rw [List.length_set]; exact h.1, by rw [List.length_set]; exact h.2.1, fun q hq => ?_⟩
  rcases List.mem_or_eq_of_mem_set hq with h1 | h1
  · exact h.2.2 q h1
  · rw [h1, List.length_set]
    refine ⟨(h.2.2 r hm).1, fun x hx => ?_⟩
    rcases List.mem_or_eq_of_mem_set hx with h2 | h2
    · exact (h.2.2 r hm).2 x h2
    · rw [h2]; exact hy
set_option maxHeartbeats 2000000 in
set_option maxRecDepth 100000 in
theorem l4Bent_c {lo : Nat} {w : World} {cb : Nat} {K : Value} {xs : List Int} {rs : List Res} (hK : ∀ w', Below lo w w' → BytR w' K xs) (hc : Cur lo w cb K xs.length rs) (hlo : lo ≤ w.heap.size) :
    Calls Try.prog 119 #[.pointer (some ⟨cb, 0, none⟩)] w fun e w' => ∃ v : Value, e = .returned v ∧ ∃ m : List (List Int), BentM m ∧ Cur lo w' cb K xs.length (ResM v m :: rs) ∧ Below lo w w' := by
  have HK := Lib.hid hK
  have HD := Lib.hid (show Calls Try.prog 184 #[.pointer (some ⟨cb, 0, none⟩), .int .i64 4] w _ from l4Draw_c (most := 4) hK hc hlo (by omega) (by omega))
  clear hK hc
  go_enter Try.func119, Try.ntmps119
  go_wp2_with fail
  (with_reducible refine HD.out.mono ?_)
  rintro e w1 ⟨v, rfl, m, hm, hc, hb⟩
  have hz1 : lo ≤ w1.heap.size := Nat.le_trans hlo hb.size
  have HB1 := Lib.hid hb
  have HP := Lib.hid (l1Below_i (z := 16) (fun w' hb' => HK.out w' (hb.trans hb')) hc hz1 (by decide) (by decide))
  obtain ⟨ta, tc, rfl, -⟩ := (New.tab hc.out.headNew).shape
  have Hm := Lib.hid hm
  clear hm hc hb HD
  go_wp2_with fail
  (with_reducible refine HP.out.mono ?_)
  rintro e wi ⟨t, rfl, ht, hc, hb, ho⟩
  have HC := Lib.hid hc
  have HB := Lib.hid (HB1.out.trans hb)
  have hzi : lo ≤ wi.heap.size := Nat.le_trans hz1 hb.size
  have ht16 : t < 16 := ht
  clear hc hb ho HP HB1 ht hz1
  by_cases ht0 : t = 0
  · have t0 : ((t : Int) == 0) = true := by simp [ht0]
    obtain ⟨r, x, hr, hx, hm4⟩ := Hm.out.row
    obtain ⟨ci, ch, hcin, hsep⟩ := HC.out
    obtain ⟨tb, tc1, rb, rc, hv, hlt, hbt, gr, hlr, hbr, -, -, -⟩ := hsep.swap.tabSet hr hx
    simp only [Value.slice.injEq] at hv
    obtain ⟨rfl, -, rfl⟩ := hv
    have hne : tb ≠ cb ∧ rb ≠ cb := by
      obtain ⟨F, ⟨G, H, e1, hG, G2, H2, e2, hG2, h3⟩, hnd, hge⟩ := hsep
      obtain ⟨rfl, -⟩ := hG
      have hnn := List.nodup_append.1 (e1 ▸ hnd)
      have hto : OTab 3 50 wi (.slice (some ⟨tb, 0, none⟩) m.length tc) m G2 := hG2
      obtain ⟨b5, c5, u5, G5, hv5, -, hb5, -, hc5, -, hu5, hGF5, hG5n, -, -⟩ := OwnOf.focus (OInts.kept _) hto (List.nodup_append.1 (e2 ▸ hnn.2.1)).1 hr
      simp only [Value.slice.injEq, Option.some.injEq, Addr.mk.injEq] at hv5
      obtain ⟨⟨rfl, -, -⟩, -, -⟩ := hv5
      rw [gr] at hc5
      obtain ⟨b6, c6, u6, G6, hv6, -, hb6, -⟩ := OwnOf.focus OIntR.kept hu5 hG5n hx
      have e5 := Option.some.inj hc5
      rw [← e5] at hv6
      simp only [Value.slice.injEq, Option.some.injEq, Addr.mk.injEq] at hv6
      obtain ⟨⟨rfl, -, -⟩, -, -⟩ := hv6
      subst e2
      exact ⟨fun e => hnn.2.2 cb (by simp) tb (List.mem_append_left _ hb5) e.symm, fun e => hnn.2.2 cb (by simp) rb (List.mem_append_left _ (hGF5 rb hb6)) e.symm⟩
    obtain ⟨n, hn⟩ : ∃ n, n = m.length := ⟨_, rfl⟩
    obtain ⟨rl, hrl⟩ : ∃ n, n = r.length := ⟨_, rfl⟩
    have HN := Lib.hid hn
    have HR := Lib.hid hrl
    have hn1 : (0 : Int) < (n : Int) := by have := Hm.out.bent.1; omega
    have hn1n : 0 < n := by omega
    have hr1 : (0 : Int) < (rl : Int) := by have := (List.getElem?_eq_some_iff.1 hx).1; omega
    have hr1n : 0 < rl := by omega
    rw [← hn] at HC ⊢
    rw [← hrl] at gr
    have Hst := Lib.hid (fun (w2 : World) (hc2 : Cur lo w2 cb K xs.length (ResM (.slice (some ⟨tb, 0, none⟩) n tc) m :: rs)) (ho : Off [cb] wi w2) => (show (w2.frozen? ⟨rb, 0, none⟩ = false ∧ w2.cell? ⟨rb, 0, none⟩ = some (.int .i64 x)) ∧ ∀ y, Cur lo (w2.setCell ⟨rb, 0, none⟩ (.int .i64 y)) cb K xs.length (ResM (.slice (some ⟨tb, 0, none⟩) n tc) (m.set 0 (r.set 0 y)) :: rs) from by
      obtain ⟨ci2, ch2, hcin2, hsep2⟩ := hc2
      obtain ⟨tb1, tc1, rb1, rc1, hv, -, -, gr1, -, -, x1, f1, s1⟩ := hsep2.swap.tabSet hr hx
      simp only [Value.slice.injEq, Option.some.injEq, Addr.mk.injEq] at hv
      obtain ⟨⟨rfl, -, -⟩, -, -⟩ := hv
      have e7 : w2.cell? ⟨tb, 0, none⟩ = wi.cell? ⟨tb, 0, none⟩ := World.cell?_of_block (ho.block tb hbt (by simp; exact hne.1))
      rw [e7, gr] at gr1
      have e8 := Option.some.inj gr1
      simp only [Value.slice.injEq, Option.some.injEq, Addr.mk.injEq] at e8
      obtain ⟨⟨rfl, -, -⟩, -, -⟩ := e8
      exact ⟨⟨f1, x1⟩, fun y => ⟨ci2, ch2, hcin2, (s1 y).swap⟩⟩))
    have Hin := Lib.hid (fun y (hy : -1 ≤ y ∧ y ≤ 1000001) => Hm.out.bent.set hr hy)
    obtain ⟨w1a, e1a⟩ : ∃ x, x = (wi.alloc (.cells #[.int .i64 (-1), .int .i64 1000000, .int .i64 1000001, .int .i64 9] 3)).drew := ⟨_, rfl⟩
    have hb1a : Below wi.heap.size wi w1a := by rw [e1a]; exact ((Below.refl _ _).alloc (Nat.le_refl _) _).drew
    have HC1a := Lib.hid (show Cur lo w1a cb K xs.length (Res.box wi.heap.size (([-1, 1000000, 1000001, 9] : List Int).map (Value.int .i64)) :: ResM (.slice (some ⟨tb, 0, none⟩) n tc) m :: rs) from by rw [e1a]; exact (HC.out.box hzi (([-1, 1000000, 1000001, 9] : List Int).map (Value.int .i64)) 3).below (Below.refl _ _).drew)
    have HB1a := Lib.hid (HB.out.trans (hb1a.mono hzi))
    have HO1a := Lib.hid (Off.of_below (F := [cb]) hb1a)
    have hz1a : lo ≤ w1a.heap.size := Nat.le_trans hzi hb1a.size
    have HPk := Lib.hid (show Calls Try.prog 186 #[.pointer (some ⟨cb, 0, none⟩), .slice (some ⟨wi.heap.size, 0, none⟩) 4 4] w1a _ from l1PickInt_c (ls := [-1, 1000000, 1000001, 9]) (c := 4) (fun w' hb => HK.out w' (HB1a.out.trans hb)) HC1a.out hz1a (by decide) (by decide))
    have HSc := Lib.hid (fun (w2 : World) (ho : Off [cb] wi w2) => (show w2.cell? ⟨tb, 0, none⟩ = some (.slice (some ⟨rb, 0, none⟩) rl rc) from (World.cell?_of_block (ho.block tb hbt (by simp; exact hne.1))).trans gr))
    have hSd : wi.drew.cell? ⟨tb, 0, none⟩ = some (.slice (some ⟨rb, 0, none⟩) rl rc) := gr
    have hS1 : w1a.cell? ⟨tb, 0, none⟩ = some (.slice (some ⟨rb, 0, none⟩) rl rc) := HSc.out _ HO1a.out
    have e1s := e1a.symm
    clear e1a hr hx hsep hne hb1a HC gr HC1a hn hrl ht0
    go_wp2
    refine wp_region_L (fun w' => w'.cell? ⟨tb, 0, none⟩ = some (.slice (some ⟨rb, 0, none⟩) rl rc)) (by kernel_rfl) ?_
    refine wpAnyL_take 0 (v := ?_) rfl (by kernel_rfl) (by kernel_rfl) (by kernel_rfl) (by kernel_rfl) (fun _ _ _ h => h) (Or.inl ⟨by rfl, ?_⟩) hSd ?_
    rotate_left
    · (intro w hSw; (try dsimp only at hSw); go_simp) <;> (try with_reducible rfl)
    try simp only [Act.put, List.getElem_toArray, List.getElem_cons_zero, List.getElem_cons_succ, List.setIfInBounds_toArray, List.set_cons_zero, List.set_cons_succ]
    refine wpAnyL_take 1 (v := ?_) rfl (by kernel_rfl) (by kernel_rfl) (by kernel_rfl) (by kernel_rfl) (fun _ _ _ h => h) (Or.inl ⟨by rfl, ?_⟩) hSd ?_
    rotate_left
    · (intro w hSw; (try dsimp only at hSw); go_simp) <;> (try with_reducible rfl)
    try simp only [Act.put, List.getElem_toArray, List.getElem_cons_zero, List.getElem_cons_succ, List.setIfInBounds_toArray, List.set_cons_zero, List.set_cons_succ]
    refine wpAnyL_take 2 (v := ?_) rfl (by kernel_rfl) (by kernel_rfl) (by kernel_rfl) (by kernel_rfl) (fun _ _ _ h => h) (Or.inl ⟨by rfl, ?_⟩) hSd ?_
    rotate_left
    · (intro w hSw; (try dsimp only at hSw); go_simp) <;> (try with_reducible rfl)
    try simp only [Act.put, List.getElem_toArray, List.getElem_cons_zero, List.getElem_cons_succ, List.setIfInBounds_toArray, List.set_cons_zero, List.set_cons_succ]
    refine wpAnyL_take 3 (v := ?_) rfl (by kernel_rfl) (by kernel_rfl) (by kernel_rfl) (by kernel_rfl) (fun _ _ _ h => h) (Or.inl ⟨by rfl, ?_⟩) hSd ?_
    rotate_left
    · (intro w hSw; (try dsimp only at hSw); go_simp) <;> (try with_reducible rfl)
    try simp only [Act.put, List.getElem_toArray, List.getElem_cons_zero, List.getElem_cons_succ, List.setIfInBounds_toArray, List.set_cons_zero, List.set_cons_succ]
    refine wpAnyL_one 4 (by kernel_rfl) rfl (fun K hK => ?_)
    go_simp
    refine hK.out _ _ (fun _ => hS1) ?_
    clear hK K
    try simp only [Act.put, List.getElem_toArray, List.getElem_cons_zero, List.getElem_cons_succ, List.setIfInBounds_toArray, List.set_cons_zero, List.set_cons_succ]
    refine wpAnyL_one 5 (by kernel_rfl) rfl (fun K hK => ?_)
    go_simp
    (with_reducible refine HPk.out.mono ?_)
    rintro e w3 ⟨y, rfl, hy3, hc, hb, ho⟩
    have hy : -1 ≤ y ∧ y ≤ 1000001 := by simp at hy3; omega
    have HCp := Lib.hid hc.rest
    have HBp := Lib.hid (HB1a.out.trans hb)
    have HOp := Lib.hid (HO1a.out.trans ho)
    have hS3 : w3.cell? ⟨tb, 0, none⟩ = some (.slice (some ⟨rb, 0, none⟩) rl rc) := HSc.out _ HOp.out
    have hf3 := (Hst.out w3 HCp.out HOp.out).1.1
    have hx3 := (Hst.out w3 HCp.out HOp.out).1.2
    clear hc hb ho hy3
    go_wp2_with fail
    refine hK.out _ _ (fun _ => hS3) ?_
    clear hK K
    try simp only [Act.put, List.getElem_toArray, List.getElem_cons_zero, List.getElem_cons_succ, List.setIfInBounds_toArray, List.set_cons_zero, List.set_cons_succ]
    refine wpAnyL_take 6 (v := ?_) rfl (by kernel_rfl) (by kernel_rfl) (by kernel_rfl) (by kernel_rfl) (fun _ _ _ h => h) (Or.inl ⟨by rfl, ?_⟩) hS3 ?_
    rotate_left
    · (intro w hSw; (try dsimp only at hSw); go_simp) <;> (try with_reducible rfl)
    try simp only [Act.put, List.getElem_toArray, List.getElem_cons_zero, List.getElem_cons_succ, List.setIfInBounds_toArray, List.set_cons_zero, List.set_cons_succ]
    refine wpAnyL_one 7 (by kernel_rfl) rfl (fun K hK => ?_)
    go_simp
    refine hK.out _ _ (fun h => absurd h (not_rem (by kernel_rfl))) ?_
    clear hK K
    try simp only [Act.put, List.getElem_toArray, List.getElem_cons_zero, List.getElem_cons_succ, List.setIfInBounds_toArray, List.set_cons_zero, List.set_cons_succ]
    refine wpAnyL_done (by kernel_rfl) ?_ _
    go_wp2
    go_ret
    exact ⟨_, rfl, _, Hin.out y hy, (Hst.out w3 HCp.out HOp.out).2 y, HBp.out.setCell (p := ⟨rb, 0, none⟩) hlr _⟩
  have t0 : ((t : Int) == 0) = false := by simp; omega
  by_cases ht1 : t = 1
  · have t1 : ((t : Int) == 1) = true := by simp [ht1]
    obtain ⟨ci, ch, hcin, hsep⟩ := HC.out
    have hl4 := Hm.out.2
    obtain ⟨w2, e2⟩ : ∃ x, x = wi.alloc (.cells #[.int .i64 1] 3) := ⟨_, rfl⟩
    have hb2 : Below wi.heap.size wi w2 := by rw [e2]; exact (Below.refl _ _).alloc (Nat.le_refl _) _
    have hn2 : New (OInts 3) wi.heap.size w2 (.slice (some ⟨wi.heap.size, 0, none⟩) 1 1) [1] := by rw [e2]; exact New.one OIntR.kept (u := .int .i64 1) (x := 1) ⟨[], ⟨rfl, rfl⟩, by simp [Fresh]⟩ (Nat.le_refl _)
    have hz2 : w2.heap.size = wi.heap.size + 1 := by rw [e2]; simp
    obtain ⟨v4, w4, hr4, hs4, hb4⟩ := hsep.swap.push (P := Try.prog) (OInts.kept 3) 41 41 (.slice none 0 0) 24 Try.underlying41 infoR rfl hzi (w1 := w2.alloc (.cells #[.slice (some ⟨wi.heap.size, 0, none⟩) 1 1] 50)) (hb2.alloc hb2.size _) (New.keep (OInts.kept _) hn2 ((Below.refl w2.heap.size _).alloc (Nat.le_refl _) _) (Nat.le_refl _)) (bb := w2.heap.size) (c := 1) (World.cell?_alloc_at _ _ _ 0 rfl) (by omega) (by omega)
    rw [hz2] at hr4
    have Hr4 := Lib.hid (show (Builtin.append_ #[41, 41] 41 #[.slice ta m.length tc, .slice (some ⟨wi.heap.size + 1, 0, none⟩) 1 1]).run Try.prog ((wi.alloc (.cells #[.int .i64 1] 3)).alloc (.cells #[.slice (some ⟨wi.heap.size, 0, none⟩) 1 1] 50)) = .ok v4 w4 from by rw [← e2]; exact hr4)
    have HC4 := Lib.hid (show Cur lo w4 cb K xs.length (ResM v4 (m ++ [[1]]) :: rs) from ⟨ci, ch, hcin, hs4.swap⟩)
    have HB4 := Lib.hid (HB.out.trans hb4)
    have Hbt := Lib.hid (show BentM (m ++ [[1]]) from by
      have h := Hm.out.bent
      refine ⟨by simp, by simp; omega, fun r hr => ?_⟩
      rcases List.mem_append.1 hr with hr | hr
      · exact h.2.2 r hr
      · simp at hr
        subst hr
        exact ⟨by decide, fun x hx => by simp at hx; omega⟩)
    generalize m.length = ml at *
    clear hsep e2 hb2 hn2 hz2 hr4 hs4 hb4 HC HB ht1 hl4
    go_wp2_with (at_builtin; refine wpl_append_run rfl (.tmp 19) (.tmp 21) 41 rfl rfl rfl Hr4.out ?_)
    go_ret
    exact ⟨_, rfl, _, Hbt.out, HC4.out, HB4.out⟩
  · have t1 : ((t : Int) == 1) = false := by simp; omega
    go_wp2
    go_ret
    exact ⟨_, rfl, _, Hm.out.bent, HC.out, HB.out⟩
set_option maxHeartbeats 1000000 in
theorem DrawTurnMatrix_c {w : World} {vc : Value} {xs : List Int} (h : BytR w vc xs) :
    Calls Try.prog 54 #[vc] w fun e w' => ∃ v : Value, e = .returned v ∧ ∃ m : List (List Int), BentM m ∧ New (OTab 3 50) w.heap.size w' v m ∧ Below w.heap.size w w' := by
  have HN := Lib.hid (l1New_c h)
  have HK := Lib.hid (fun w' (hb : Below w.heap.size w w') => BytR.frame _ _ _ _ h hb)
  obtain ⟨a, c, rfl, -⟩ := h.cellsB
  clear h
  go_enter Try.func54, Try.ntmps54
  go_wp2_with fail
  (with_reducible refine HN.out.mono ?_)
  rintro e w1 ⟨rfl, ⟨hh, hs⟩, hb⟩
  have HC := Lib.hid (show Cur w.heap.size w1 w.heap.size (.slice a xs.length c) xs.length [] from ⟨0, hh, Nat.zero_le _, hs⟩)
  have HB := Lib.hid hb
  have HL := Lib.hid (l4Bent_c (fun w' hb' => HK.out w' (hb.trans hb')) HC.out hb.size)
  clear hs hb HN
  go_wp2_with fail
  (with_reducible refine HL.out.mono ?_)
  rintro e w2 ⟨v, rfl, m, hm, hc, hb2⟩
  have Hm := Lib.hid hm
  have Hn := Lib.hid hc.out.headNew
  have HB2 := Lib.hid (HB.out.trans hb2)
  clear hm hc hb2 HL
  go_wp2
  go_ret
  exact ⟨_, rfl, m, Hm.out, Hn.out, HB2.out⟩
end Go.Proofs.Ytdohepngandajaa
end

section
/-
  The sum of a matrix, graphs, the arcs of a graph, both sides.
-/
namespace Go.Proofs.Ytdohepngandajaa
open Go.RowKit Go.Deep Go.Sd
set_option linter.unusedSimpArgs false
def tot (r : List Int) : Nat → Int
  | 0 => 0
  | j + 1 => tot r j + r.getD j 0
def sumK (m : List (List Int)) : Nat → Int
  | 0 => 0
  | k + 1 => sumK m k + tot (m.getD k []) (m.getD k []).length
def sumV (m : List (List Int)) : Int := if isMat m = true then sumK m m.length else -1
def graphM (m : List (List Int)) : Bool := isMat m && decide (sumV m ≤ 60)
theorem tot_bd {r : List Int} (h : ∀ x, x ∈ r → 0 ≤ x ∧ x ≤ 1000000) : ∀ j, j ≤ r.length → 0 ≤ tot r j ∧ tot r j ≤ (j : Int) * 1000000
  | 0, _ => by simp [tot]
  | j + 1, hj => by
    have h1 := tot_bd h j (by omega)
    have h2 := h r[j] (List.getElem_mem (by omega))
    have e : r.getD j 0 = r[j]'(by omega) := by simp [List.getD, show j < r.length by omega]
    rw [tot, e]
    omega
theorem sumK_bd {m : List (List Int)} (h : isMat m = true) : ∀ k, k ≤ m.length → 0 ≤ sumK m k ∧ sumK m k ≤ (k : Int) * 9000000
  | 0, _ => by simp [sumK]
  | k + 1, hk => by
    have h1 := sumK_bd h k (by omega)
    obtain ⟨hs, h0, h9⟩ := isMat_sq h
    have hb := isMat_bd h
    have hm : m[k]'(by omega) ∈ m := List.getElem_mem _
    have e : m.getD k [] = m[k]'(by omega) := by simp [List.getD, show k < m.length by omega]
    have hl := hs.2 _ hm
    have h2 := tot_bd (hb _ hm) _ (Nat.le_refl _)
    rw [sumK, e]
    rw [hl] at h2 ⊢
    omega
/-- The arcs. -/
def arcR (i : Nat) (r : List Int) : Nat → List (List Int)
  | 0 => []
  | j + 1 => arcR i r j ++ List.replicate (r.getD j 0).toNat [(i : Int), (j : Int)]
def arcT (m : List (List Int)) : Nat → List (List Int)
  | 0 => []
  | k + 1 => arcT m k ++ arcR k (m.getD k []) (m.getD k []).length
def arcsV (m : List (List Int)) : List (List Int) := if graphM m = true then arcT m m.length else []
theorem arcR_len {i : Nat} {r : List Int} (h : ∀ x, x ∈ r → 0 ≤ x ∧ x ≤ 1000000) : ∀ j, j ≤ r.length → (arcR i r j).length ≤ j * 1000000
  | 0, _ => by simp [arcR]
  | j + 1, hj => by
    have h1 := arcR_len (i := i) h j (by omega)
    have h2 := h r[j] (List.getElem_mem (by omega))
    have e : r.getD j 0 = r[j]'(by omega) := by simp [List.getD, show j < r.length by omega]
    rw [arcR, e, List.length_append, List.length_replicate]
    omega
theorem arcT_len {m : List (List Int)} (h : isMat m = true) : ∀ k, k ≤ m.length → (arcT m k).length ≤ k * 9000000
  | 0, _ => by simp [arcT]
  | k + 1, hk => by
    have h1 := arcT_len h k (by omega)
    obtain ⟨hs, h0, h9⟩ := isMat_sq h
    have hb := isMat_bd h
    have hm : m[k]'(by omega) ∈ m := List.getElem_mem _
    have e : m.getD k [] = m[k]'(by omega) := by simp [List.getD, show k < m.length by omega]
    have hl := hs.2 _ hm
    have h2 := arcR_len (i := k) (hb _ hm) _ (Nat.le_refl _)
    rw [arcT, e, List.length_append]
    rw [hl] at h2 ⊢
    omega
theorem arcR_two (i : Nat) (r : List Int) : ∀ j x, x ∈ arcR i r j → x.length = 2
  | 0, x, h => by simp [arcR] at h
  | j + 1, x, h => by
    rcases List.mem_append.1 h with h | h
    · exact arcR_two i r j x h
    · rw [(List.mem_replicate.1 h).2]; rfl
theorem arcT_two (m : List (List Int)) : ∀ k x, x ∈ arcT m k → x.length = 2
  | 0, x, h => by simp [arcT] at h
  | k + 1, x, h => by
    rcases List.mem_append.1 h with h | h
    · exact arcT_two m k x h
    · exact arcR_two _ _ _ x h
theorem rep_snoc {α : Type} (k : Nat) (x : α) : List.replicate k x ++ [x] = List.replicate (k + 1) x := by rw [List.replicate_succ']
set_option maxHeartbeats 1000000 in
theorem sumRow_c {w : World} {v : Value} {r : List Int} (h : Ints w v r) (hb : ∀ x, x ∈ r → 0 ≤ x ∧ x ≤ 1000000) (hl : r.length ≤ 9) :
    Calls Try.prog 158 #[v] w fun e w' => e = .returned (.int .i64 (tot r r.length)) ∧ w = w' := by
  have HC := Lib.hid (fun j x (hx : r[j]? = some x) => h.elOf hx)
  have HT := Lib.hid (fun j (hj : j ≤ r.length) => tot_bd hb j hj)
  have HS := Lib.hid (fun j x (hx : r[j]? = some x) => (show tot r (j + 1) = tot r j + x from by rw [tot]; simp [List.getD, hx]))
  have HX := Lib.hid (fun j x (hx : r[j]? = some x) => hb x (List.mem_of_getElem? hx))
  obtain ⟨a, c, rfl, -⟩ := h.shape
  obtain ⟨n, hn⟩ : ∃ n, n = r.length := ⟨_, rfl⟩
  have Hn := Lib.hid hn
  rw [← hn] at HT hl ⊢
  clear h hb hn
  go_enter Try.func158, Try.ntmps158
  go_wp2
  go_loopg [3, 8] n (fun g sv iv wr => ∃ (j : Nat) (S : Int), sv = .int .i64 S ∧ iv = .int .i64 j ∧ j + g = n ∧ Hid (S = tot r j) ∧ wr = w)
  case atStart => exact ⟨0, 0, rfl, rfl, by omega, Lib.hid rfl, rfl⟩
  case round =>
    obtain ⟨j, S, rfl, rfl, hj, hS, rfl⟩ := hrel
    by_cases hjn : j < n
    · have hji : (j : Int) < (n : Int) := by omega
      obtain ⟨g, rfl⟩ : ∃ x, gk = x + 1 := ⟨gk - 1, by omega⟩
      obtain ⟨x, hx, -⟩ := at_lt (xs := r) (k := j) (by have := Hn.out; omega)
      obtain ⟨b, o, c2, hv, -, g0⟩ := HC.out j x hx
      simp only [Value.slice.injEq] at hv
      obtain ⟨rfl, -, rfl⟩ := hv
      have h1 := HT.out j (by omega)
      have h2 := HX.out j x hx
      have h3 := HS.out j x hx
      rw [← hS.out] at h1 h3
      have HS2 := Lib.hid h3.symm
      have hw : IntKind.i64.wrap (S + x) = S + x := IntWalk.i64_in _ (by omega)
      clear hx h1 h2 h3 hS
      go_wp2
      go_roundg g
      case measure => omega
      case rel => exact ⟨j + 1, S + x, rfl, by go_num, by omega, HS2, rfl⟩
    · have hji : ¬ ((j : Int) < (n : Int)) := by omega
      have HF := Lib.hid (show S = tot r n from by rw [hS.out, show n = j from by omega])
      clear hS
      go_wp2
      go_ret
      exact ⟨by rw [HF.out]; rfl, rfl⟩
set_option maxHeartbeats 1000000 in
theorem impl_SumOf_c {w : World} {v : Value} {m : List (List Int)} (h : Tab w v m) :
    Calls Try.prog 187 #[v] w fun e w' => e = .returned (.int .i64 (sumV m)) ∧ w = w' := by
  have HI := Lib.hid (impl_IsMatrix_c h)
  have HC := Lib.hid (fun k r (hr : m[k]? = some r) => h.rowOf hr)
  obtain ⟨a, c, rfl, -⟩ := h.shape
  have HV := Lib.hid (show sumV m = if isMat m = true then sumK m m.length else -1 from rfl)
  generalize sumV m = R at HV ⊢
  clear h
  cases him : isMat m with
  | false =>
    have HF := Lib.hid (show R = -1 from by rw [HV.out, if_neg (by rw [him]; simp)])
    rw [him] at HI
    clear HV him HC
    go_enter Try.func187, Try.ntmps187
    go_wp2_with fail
    (with_reducible refine HI.out.mono ?_)
    rintro e w9 ⟨rfl, hw9⟩
    rw [← hw9]
    clear hw9 w9
    go_wp2
    go_ret
    exact ⟨by rw [HF.out]; rfl, rfl⟩
  | true =>
  have HF := Lib.hid (show R = sumK m m.length from by rw [HV.out, if_pos him])
  obtain ⟨hs, h0, h9⟩ := isMat_sq him
  have Hb := Lib.hid (fun k r (hr : m[k]? = some r) => (show (∀ x : Int, x ∈ r → 0 ≤ x ∧ x ≤ 1000000) ∧ r.length ≤ 9 from ⟨isMat_bd him r (List.mem_of_getElem? hr), by rw [hs.2 r (List.mem_of_getElem? hr)]; exact h9⟩))
  have HB := Lib.hid (fun k (hk : k ≤ m.length) => sumK_bd him k hk)
  have HS := Lib.hid (fun k r (hr : m[k]? = some r) => (show sumK m (k + 1) = sumK m k + tot r r.length from by rw [sumK]; simp [List.getD, hr]))
  have HTb := Lib.hid (fun k r (hr : m[k]? = some r) => tot_bd (Hb.out k r hr).1 _ (Nat.le_refl _))
  rw [him] at HI
  obtain ⟨n, hn⟩ : ∃ n, n = m.length := ⟨_, rfl⟩
  have Hn := Lib.hid hn
  rw [← hn] at HI HB HF h9 ⊢
  clear HV him hs h0 hn
  go_enter Try.func187, Try.ntmps187
  go_wp2_with fail
  (with_reducible refine HI.out.mono ?_)
  rintro e w9 ⟨rfl, hw9⟩
  rw [← hw9]
  clear hw9 w9
  go_wp2
  go_loopg [3, 11] n (fun g sv iv wr => ∃ (k : Nat) (S : Int), sv = .int .i64 S ∧ iv = .int .i64 k ∧ k + g = n ∧ Hid (S = sumK m k) ∧ wr = w)
  case atStart => exact ⟨0, 0, rfl, rfl, by omega, Lib.hid rfl, rfl⟩
  case round =>
    obtain ⟨k, S, rfl, rfl, hk, hS, rfl⟩ := hrel
    by_cases hkn : k < n
    · have hki : (k : Int) < (n : Int) := by omega
      obtain ⟨g, rfl⟩ : ∃ x, gk = x + 1 := ⟨gk - 1, by omega⟩
      obtain ⟨r, hr, -⟩ := at_lt (xs := m) (k := k) (by have := Hn.out; omega)
      obtain ⟨b, o, c2, ra, rc, hv, -, g0, hri⟩ := HC.out k r hr
      simp only [Value.slice.injEq] at hv
      obtain ⟨rfl, -, rfl⟩ := hv
      have HTo := Lib.hid (sumRow_c hri (Hb.out k r hr).1 (Hb.out k r hr).2)
      have h1 := HB.out k (by omega)
      have h2 := HTb.out k r hr
      have h3 := HS.out k r hr
      have hr9 := (Hb.out k r hr).2
      rw [← hS.out] at h1 h3
      have HS2 := Lib.hid h3.symm
      generalize tot r r.length = x at *
      generalize r.length = rl at *
      have hw : IntKind.i64.wrap (S + x) = S + x := IntWalk.i64_in _ (by omega)
      clear hr h1 h2 h3 hS hri
      go_wp2_with fail
      (with_reducible refine HTo.out.mono ?_)
      rintro e w9 ⟨rfl, hw9⟩
      rw [← hw9]
      clear hw9 w9
      go_wp2
      go_roundg g
      case measure => omega
      case rel => exact ⟨k + 1, S + x, rfl, by go_num, by omega, HS2, rfl⟩
    · have hki : ¬ ((k : Int) < (n : Int)) := by omega
      have HF2 := Lib.hid (show R = S from by rw [HF.out, hS.out, show n = k from by omega])
      clear hS HF
      go_wp2
      go_ret
      exact ⟨by rw [HF2.out]; rfl, rfl⟩
set_option maxHeartbeats 1000000 in
theorem spec_SumOf_c {w : World} {v : Value} {m : List (List Int)} (h : Tab w v m) :
    Calls Try.prog 190 #[v] w fun e w' => e = .returned (.int .i64 (sumV m)) ∧ w = w' := by
  have HI := Lib.hid (spec_IsMatrix_c h)
  have HC := Lib.hid (fun k r (hr : m[k]? = some r) => h.rowOf hr)
  obtain ⟨a, c, rfl, -⟩ := h.shape
  have HV := Lib.hid (show sumV m = if isMat m = true then sumK m m.length else -1 from rfl)
  generalize sumV m = R at HV ⊢
  clear h
  cases him : isMat m with
  | false =>
    have HF := Lib.hid (show R = -1 from by rw [HV.out, if_neg (by rw [him]; simp)])
    rw [him] at HI
    clear HV him HC
    go_enter Try.func190, Try.ntmps190
    go_wp2_with fail
    (with_reducible refine HI.out.mono ?_)
    rintro e w9 ⟨rfl, hw9⟩
    rw [← hw9]
    clear hw9 w9
    go_wp2
    go_ret
    exact ⟨by rw [HF.out]; rfl, rfl⟩
  | true =>
  have HF := Lib.hid (show R = sumK m m.length from by rw [HV.out, if_pos him])
  obtain ⟨hs, h0, h9⟩ := isMat_sq him
  have Hl := Lib.hid (fun k r (hr : m[k]? = some r) => hs.2 r (List.mem_of_getElem? hr))
  have Hb := Lib.hid (fun k r (hr : m[k]? = some r) => (show (∀ x : Int, x ∈ r → 0 ≤ x ∧ x ≤ 1000000) ∧ r.length ≤ 9 from ⟨isMat_bd him r (List.mem_of_getElem? hr), by rw [hs.2 r (List.mem_of_getElem? hr)]; exact h9⟩))
  have HB := Lib.hid (fun k (hk : k ≤ m.length) => sumK_bd him k hk)
  have HS := Lib.hid (fun k r (hr : m[k]? = some r) => (show sumK m (k + 1) = sumK m k + tot r r.length from by rw [sumK]; simp [List.getD, hr]))
  have HTb := Lib.hid (fun k r (hr : m[k]? = some r) j (hj : j ≤ r.length) => tot_bd (Hb.out k r hr).1 j hj)
  rw [him] at HI
  obtain ⟨n, hn⟩ : ∃ n, n = m.length := ⟨_, rfl⟩
  have Hn := Lib.hid hn
  rw [← hn] at HI HB HF h9 Hl ⊢
  clear HV him hs h0 hn
  go_enter Try.func190, Try.ntmps190
  go_wp2_with fail
  (with_reducible refine HI.out.mono ?_)
  rintro e w9 ⟨rfl, hw9⟩
  rw [← hw9]
  clear hw9 w9
  go_wp2
  go_loopg [3, 4] n (fun g sv iv wr => ∃ (k : Nat) (S : Int), sv = .int .i64 S ∧ iv = .int .i64 k ∧ k + g = n ∧ Hid (S = sumK m k) ∧ wr = w)
  case atStart => exact ⟨0, 0, rfl, rfl, by omega, Lib.hid rfl, rfl⟩
  case round =>
    obtain ⟨k, S, rfl, rfl, hk, hS, rfl⟩ := hrel
    by_cases hkn : k < n
    · have hki : (k : Int) < (n : Int) := by omega
      obtain ⟨g, rfl⟩ : ∃ x, gk = x + 1 := ⟨gk - 1, by omega⟩
      obtain ⟨r, hr, -⟩ := at_lt (xs := m) (k := k) (by have := Hn.out; omega)
      obtain ⟨b, o, c2, ra, rc, hv, -, g0, hri⟩ := HC.out k r hr
      simp only [Value.slice.injEq] at hv
      obtain ⟨rfl, -, rfl⟩ := hv
      have h1 := HB.out k (by omega)
      have HTr := Lib.hid (HTb.out k r hr)
      have h3 := HS.out k r hr
      have hrl := Hl.out k r hr
      have Hrb := Lib.hid (Hb.out k r hr).1
      have Hri := Lib.hid hri
      have Hrl := Lib.hid hrl
      have HSk := Lib.hid h3
      rw [hrl] at g0
      obtain ⟨S0, hS0⟩ : ∃ S0, S0 = S := ⟨_, rfl⟩
      have hS0b : 0 ≤ S0 ∧ S0 ≤ 81000000 := by rw [hS0, hS.out]; omega
      have HS0 := Lib.hid (show S0 = sumK m k from by rw [hS0]; exact hS.out)
      have HS1 := Lib.hid (show S = S0 + tot r 0 from by rw [hS0]; simp [tot])
      clear hr h1 h3 hS hri hrl hS0
      go_wp2
      go_loopg [3, 5] n (fun g2 sv jv wr2 => ∃ (j : Nat) (S : Int), sv = .int .i64 S ∧ jv = .int .i64 j ∧ j + g2 = n ∧ Hid (S = S0 + tot r j) ∧ wr2 = wr)
      case atStart => exact ⟨0, S, rfl, rfl, by omega, HS1, rfl⟩
      case round =>
        clear HS1
        obtain ⟨j, S, rfl, rfl, hj, hS, rfl⟩ := hrel
        by_cases hjn : j < n
        · have hji : (j : Int) < (n : Int) := by omega
          obtain ⟨g2, rfl⟩ : ∃ x, gk = x + 1 := ⟨gk - 1, by omega⟩
          obtain ⟨x, hx, -⟩ := at_lt (xs := r) (k := j) (by have := Hrl.out; omega)
          obtain ⟨b2, o2, c2, hv, -, gx⟩ := Hri.out.elOf hx
          simp only [Value.slice.injEq] at hv
          obtain ⟨rfl, -, rfl⟩ := hv
          have h1 := HTr.out j (by have := Hrl.out; omega)
          have h2 := Hrb.out x (List.mem_of_getElem? hx)
          have HS2 := Lib.hid (show S + x = S0 + tot r (j + 1) from by rw [tot, hS.out]; simp [List.getD, hx]; omega)
          have hSb : 0 ≤ S ∧ S ≤ 100000000 := by rw [hS.out]; omega
          have hw : IntKind.i64.wrap (S + x) = S + x := IntWalk.i64_in _ (by omega)
          clear hx h1 hS
          go_wp2
          go_roundg g2
          case measure => omega
          case rel => exact ⟨j + 1, S + x, rfl, by go_num, by omega, HS2, rfl⟩
        · have hji : ¬ ((j : Int) < (n : Int)) := by omega
          have HF3 := Lib.hid (show S = sumK m (k + 1) from by rw [hS.out, HSk.out, HS0.out, Hrl.out, show n = j from by omega])
          clear hS
          go_wp2
          go_roundg g
          case measure => omega
          case rel => exact ⟨k + 1, S, rfl, by go_num, by omega, HF3, rfl⟩
    · have hki : ¬ ((k : Int) < (n : Int)) := by omega
      have HF2 := Lib.hid (show R = S from by rw [HF.out, hS.out, show n = k from by omega])
      clear hS HF
      go_wp2
      go_ret
      exact ⟨by rw [HF2.out]; rfl, rfl⟩
set_option maxHeartbeats 1000000 in
theorem impl_IsGraph_c {w : World} {v : Value} {m : List (List Int)} (h : Tab w v m) :
    Calls Try.prog 123 #[v] w fun e w' => e = .returned (.bool (graphM m)) ∧ w = w' := by
  have HI := Lib.hid (impl_IsMatrix_c h)
  have HS := Lib.hid (impl_SumOf_c h)
  obtain ⟨a, c, rfl, -⟩ := h.shape
  have HV := Lib.hid (show graphM m = (isMat m && decide (sumV m ≤ 60)) from rfl)
  generalize graphM m = R at HV ⊢
  generalize sumV m = S at HS HV
  clear h
  cases him : isMat m with
  | false =>
    have HF := Lib.hid (show R = false from by rw [HV.out, him]; rfl)
    rw [him] at HI
    clear HV him HS
    go_enter Try.func123, Try.ntmps123
    go_wp2_with fail
    (with_reducible refine HI.out.mono ?_)
    rintro e w9 ⟨rfl, hw9⟩
    rw [← hw9]
    clear hw9 w9
    go_wp2
    go_ret
    exact ⟨by rw [HF.out]; rfl, rfl⟩
  | true =>
    have HF := Lib.hid (show R = decide (S ≤ 60) from by rw [HV.out, him]; rfl)
    rw [him] at HI
    clear HV him
    go_enter Try.func123, Try.ntmps123
    go_wp2_with fail
    (with_reducible refine HI.out.mono ?_)
    rintro e w9 ⟨rfl, hw9⟩
    rw [← hw9]
    clear hw9 w9
    go_wp2_with fail
    (with_reducible refine HS.out.mono ?_)
    rintro e w9 ⟨rfl, hw9⟩
    rw [← hw9]
    clear hw9 w9
    go_wp2
    go_ret
    exact ⟨by rw [HF.out]; rfl, rfl⟩
set_option maxHeartbeats 1000000 in
theorem spec_IsGraph_c {w : World} {v : Value} {m : List (List Int)} (h : Tab w v m) :
    Calls Try.prog 133 #[v] w fun e w' => e = .returned (.bool (graphM m)) ∧ w = w' := by
  have HI := Lib.hid (spec_IsMatrix_c h)
  have HS := Lib.hid (spec_SumOf_c h)
  obtain ⟨a, c, rfl, -⟩ := h.shape
  have HV := Lib.hid (show graphM m = (isMat m && decide (sumV m ≤ 60)) from rfl)
  generalize graphM m = R at HV ⊢
  generalize sumV m = S at HS HV
  clear h
  cases him : isMat m with
  | false =>
    have HF := Lib.hid (show R = false from by rw [HV.out, him]; rfl)
    rw [him] at HI
    clear HV him HS
    go_enter Try.func133, Try.ntmps133
    go_wp2_with fail
    (with_reducible refine HI.out.mono ?_)
    rintro e w9 ⟨rfl, hw9⟩
    rw [← hw9]
    clear hw9 w9
    go_wp2
    go_ret
    exact ⟨by rw [HF.out]; rfl, rfl⟩
  | true =>
    have HF := Lib.hid (show R = decide (S ≤ 60) from by rw [HV.out, him]; rfl)
    rw [him] at HI
    clear HV him
    go_enter Try.func133, Try.ntmps133
    go_wp2_with fail
    (with_reducible refine HI.out.mono ?_)
    rintro e w9 ⟨rfl, hw9⟩
    rw [← hw9]
    clear hw9 w9
    go_wp2_with fail
    (with_reducible refine HS.out.mono ?_)
    rintro e w9 ⟨rfl, hw9⟩
    rw [← hw9]
    clear hw9 w9
    go_wp2
    go_ret
    exact ⟨by rw [HF.out]; rfl, rfl⟩
theorem two_new (w : World) (x y : Int) : New (OInts 3) w.heap.size (w.alloc (.cells #[.int .i64 x, .int .i64 y] 3)) (.slice (some ⟨w.heap.size, 0, none⟩) 2 2) [x, y] := by
  refine ⟨[w.heap.size], ⟨[.int .i64 x, .int .i64 y], [[], []], ⟨by simp, .inr ⟨w.heap.size, 2, #[.int .i64 x, .int .i64 y], rfl, Nat.zero_le _, heap_alloc_new w _, Nat.le_refl _, by simp [maxLen], by simp, by simp⟩⟩, rfl, ?_, by simp [Value.ownBlock]⟩, by simp [Fresh]⟩
  intro i u z G hu hz hG
  match i, hu, hz, hG with
  | 0, hu, hz, hG => simp at hu hz hG; subst hu hz hG; exact ⟨rfl, rfl⟩
  | 1, hu, hz, hG => simp at hu hz hG; subst hu hz hG; exact ⟨rfl, rfl⟩
set_option maxHeartbeats 2000000 in
set_option maxRecDepth 100000 in
theorem impl_arcs_c {w : World} {v : Value} {m : List (List Int)} (h : Tab w v m) (him : isMat m = true) :
    Calls Try.prog 124 #[v] w (Makes (OTab 3 50) w (arcT m m.length)) := by
  have HC := Lib.hid (fun k r (hr : m[k]? = some r) => h.rowOf hr)
  obtain ⟨a, c, rfl, -⟩ := h.shape
  obtain ⟨hs, h0, h9⟩ := isMat_sq him
  have Hl := Lib.hid (fun k r (hr : m[k]? = some r) => hs.2 r (List.mem_of_getElem? hr))
  have Hb := Lib.hid (fun k r (hr : m[k]? = some r) => isMat_bd him r (List.mem_of_getElem? hr))
  have HL := Lib.hid (fun k (hk : k ≤ m.length) => arcT_len him k hk)
  have HS := Lib.hid (fun k r (hr : m[k]? = some r) => (show arcT m (k + 1) = arcT m k ++ arcR k r r.length from by rw [arcT]; simp [List.getD, hr]))
  obtain ⟨n, hn⟩ : ∃ n, n = m.length := ⟨_, rfl⟩
  have Hn := Lib.hid hn
  rw [← hn] at HL Hl h9 ⊢
  clear h hs h0 hn him
  go_enter Try.func124, Try.ntmps124
  go_wp2
  go_loopg [3, 11] n (fun g ov iv wr => ∃ (k : Nat), iv = .int .i64 k ∧ k + g = n ∧ Hid (New (OTab 3 50) w.heap.size wr ov (arcT m k)) ∧ Hid (Below w.heap.size w wr))
  case atStart => exact ⟨0, rfl, by omega, Lib.hid (New.empty w (Nat.le_refl _)), Lib.hid ((Below.refl _ _).alloc (Nat.le_refl _) _)⟩
  case round =>
    obtain ⟨k, rfl, hk, HN, HB⟩ := hrel
    obtain ⟨wk, rfl⟩ : ∃ x, x = wr := ⟨_, rfl⟩
    obtain ⟨oa, on', oc, rfl⟩ := HN.out.slice
    by_cases hkn : k < n
    · have hki : (k : Int) < (n : Int) := by omega
      obtain ⟨g, rfl⟩ : ∃ x, gk = x + 1 := ⟨gk - 1, by omega⟩
      obtain ⟨r, hr, -⟩ := at_lt (xs := m) (k := k) (by have := Hn.out; omega)
      obtain ⟨b, o, c2, ra, rc, hv, hbw, g0, hri⟩ := HC.out k r hr
      simp only [Value.slice.injEq] at hv
      obtain ⟨rfl, -, rfl⟩ := hv
      have hrl := Hl.out k r hr
      rw [hrl] at g0 hri
      have gk0 := (HB.out.cell (p := ⟨b, o + k, none⟩) hbw).trans g0
      have Hrb := Lib.hid (Hb.out k r hr)
      have Hri := Lib.hid hri
      have Hrl := Lib.hid hrl
      have HSk := Lib.hid (HS.out k r hr)
      have HLk := Lib.hid (HL.out k (by omega))
      have HRl := Lib.hid (fun j (hj : j ≤ n) => arcR_len (i := k) Hrb.out j (by rw [hrl]; exact hj))
      have HRs := Lib.hid (fun j x (hx : r[j]? = some x) => (show arcR k r (j + 1) = arcR k r j ++ List.replicate x.toNat [(k : Int), (j : Int)] from by rw [arcR]; simp [List.getD, hx]))
      have HN0 := Lib.hid (show New (OTab 3 50) w.heap.size wk (.slice oa on' oc) (arcT m k ++ arcR k r 0) from by rw [show arcR k r 0 = [] from rfl, List.append_nil]; exact HN.out)
      clear hr hri hrl HN
      go_wp2
      go_loopg [3, 18] n (fun g2 ov jv wr2 => ∃ (j : Nat), jv = .int .i64 j ∧ j + g2 = n ∧ Hid (New (OTab 3 50) w.heap.size wr2 ov (arcT m k ++ arcR k r j)) ∧ Hid (Below w.heap.size w wr2))
      case atStart => exact ⟨0, rfl, by omega, HN0, HB⟩
      case round =>
        clear HN0 HB gk0
        obtain ⟨j, rfl, hj, HN, HB⟩ := hrel
        obtain ⟨wj, rfl⟩ : ∃ x, x = wr := ⟨_, rfl⟩
        obtain ⟨oa, on', oc, rfl⟩ := HN.out.slice
        by_cases hjn : j < n
        · have hji : (j : Int) < (n : Int) := by omega
          obtain ⟨g2, rfl⟩ : ∃ x, gk = x + 1 := ⟨gk - 1, by omega⟩
          obtain ⟨x, hx, -⟩ := at_lt (xs := r) (k := j) (by have := Hrl.out; omega)
          obtain ⟨b2, o2, c2, hv, hbr, gx⟩ := Hri.out.elOf hx
          simp only [Value.slice.injEq] at hv
          obtain ⟨rfl, -, rfl⟩ := hv
          have hxb := Hrb.out x (List.mem_of_getElem? hx)
          have HRj := Lib.hid (HRs.out j x hx)
          obtain ⟨X, rfl⟩ := Int.eq_ofNat_of_zero_le hxb.1
          have hX : X ≤ 1000000 := by omega
          have gxw := (HB.out.cell (p := ⟨b2, o2 + j, none⟩) hbr).trans gx
          have HRlj := Lib.hid (HRl.out j (by omega))
          have HN0 := Lib.hid (show New (OTab 3 50) w.heap.size wj (.slice oa on' oc) (arcT m k ++ arcR k r j ++ List.replicate 0 [(k : Int), (j : Int)]) from by rw [List.replicate_zero, List.append_nil]; exact HN.out)
          clear hx hxb HN
          go_wp2
          go_loopg [3, 24] X (fun g3 ov qv wr3 => ∃ (q : Nat), qv = .int .i64 q ∧ q + g3 = X ∧ Hid (New (OTab 3 50) w.heap.size wr3 ov (arcT m k ++ arcR k r j ++ List.replicate q [(k : Int), (j : Int)])) ∧ Hid (Below w.heap.size w wr3))
          case atStart => exact ⟨0, rfl, by omega, HN0, HB⟩
          case round =>
            clear HN0 HB gxw
            obtain ⟨q, rfl, hq, HN, HB⟩ := hrel
            obtain ⟨wq, rfl⟩ : ∃ x, x = wr := ⟨_, rfl⟩
            have hzq := HB.out.size
            obtain ⟨oa, on', oc, rfl⟩ := HN.out.slice
            by_cases hqX : q < X
            · have hqi : (q : Int) < (X : Int) := by omega
              obtain ⟨g3, rfl⟩ : ∃ x, gk = x + 1 := ⟨gk - 1, by omega⟩
              have hlen := Lib.hid (show (arcT m k ++ arcR k r j ++ List.replicate q [(k : Int), (j : Int)]).length ≤ 200000000 from by rw [List.length_append, List.length_append, List.length_replicate]; have := HLk.out; have := HRlj.out; omega)
              have HRp := Lib.hid (show arcT m k ++ arcR k r j ++ List.replicate q [(k : Int), (j : Int)] ++ [[(k : Int), (j : Int)]] = arcT m k ++ arcR k r j ++ List.replicate (q + 1) [(k : Int), (j : Int)] from by rw [List.append_assoc (arcT m k ++ arcR k r j), rep_snoc])
              obtain ⟨w2, e2⟩ : ∃ x, x = wq.alloc (.cells #[.int .i64 k, .int .i64 j] 3) := ⟨_, rfl⟩
              have hb2 : Below wq.heap.size wq w2 := by rw [e2]; exact (Below.refl _ _).alloc (Nat.le_refl _) _
              have hn2 : New (OInts 3) wq.heap.size w2 (.slice (some ⟨wq.heap.size, 0, none⟩) 2 2) [(k : Int), (j : Int)] := by rw [e2]; exact two_new _ _ _
              have hz2 : w2.heap.size = wq.heap.size + 1 := by rw [e2]; simp
              have Hb2 := Lib.hid hb2
              have Hn2 := Lib.hid hn2
              have e2s := e2.symm
              have Hz2 := Lib.hid hz2
              clear e2 hb2 hn2 hz2
              go_wp2_with (at_builtin; refine wpl_push (w0 := wq) (lo := w.heap.size) (y := [(k : Int), (j : Int)]) (OInts.kept _) rfl (.tmp 26) (.tmp 30) 41 rfl 50 (.slice none 0 0) 24 Try.underlying41 infoR rfl HN.out hzq (Hb2.out.alloc Hb2.out.size _) (New.keep (OInts.kept _) Hn2.out ((Below.refl w2.heap.size _).alloc (Nat.le_refl _) _) (Nat.le_refl _)) (bb := w2.heap.size) (c := 1) (by simp) rfl rfl (by have := hlen.out; omega) (by have := hlen.out; omega) ?_; intro v3 w3 hn3 _ _ hb3; have Hn3 := Lib.hid hn3; have Hb3 := Lib.hid hb3; clear hn3 hb3)
              go_roundg g3
              case measure => omega
              case rel => exact ⟨q + 1, by go_num, by omega, Lib.hid (by rw [← HRp.out]; exact Hn3.out), Lib.hid (HB.out.trans Hb3.out)⟩
            · have hqi : ¬ ((q : Int) < (X : Int)) := by omega
              have HN1 := Lib.hid (show New (OTab 3 50) w.heap.size wq (.slice oa on' oc) (arcT m k ++ arcR k r (j + 1)) from by rw [HRj.out, ← List.append_assoc, show (X : Int).toNat = q from by omega]; exact HN.out)
              clear HN
              go_wp2
              go_roundg g2
              case measure => omega
              case rel => exact ⟨j + 1, by go_num, by omega, HN1, HB⟩
        · have hji : ¬ ((j : Int) < (n : Int)) := by omega
          have HN1 := Lib.hid (show New (OTab 3 50) w.heap.size wj (.slice oa on' oc) (arcT m (k + 1)) from by rw [HSk.out, Hrl.out, show n = j from by omega]; exact HN.out)
          clear HN
          go_wp2
          go_roundg g
          case measure => omega
          case rel => exact ⟨k + 1, by go_num, by omega, HN1, HB⟩
    · have hki : ¬ ((k : Int) < (n : Int)) := by omega
      have HN1 := Lib.hid (show New (OTab 3 50) w.heap.size wk (.slice oa on' oc) (arcT m n) from by rw [show n = k from by omega]; exact HN.out)
      clear HN
      go_wp2
      go_ret
      exact ⟨_, rfl, HN1.out, HB.out⟩
set_option maxHeartbeats 2000000 in
set_option maxRecDepth 100000 in
theorem spec_arcs_c {w : World} {v : Value} {m : List (List Int)} (h : Tab w v m) (him : isMat m = true) :
    Calls Try.prog 134 #[v] w (Makes (OTab 3 50) w (arcT m m.length)) := by
  have HC := Lib.hid (fun k r (hr : m[k]? = some r) => h.rowOf hr)
  obtain ⟨a, c, rfl, -⟩ := h.shape
  obtain ⟨hs, h0, h9⟩ := isMat_sq him
  have Hl := Lib.hid (fun k r (hr : m[k]? = some r) => hs.2 r (List.mem_of_getElem? hr))
  have Hb := Lib.hid (fun k r (hr : m[k]? = some r) => isMat_bd him r (List.mem_of_getElem? hr))
  have HL := Lib.hid (fun k (hk : k ≤ m.length) => arcT_len him k hk)
  have HS := Lib.hid (fun k r (hr : m[k]? = some r) => (show arcT m (k + 1) = arcT m k ++ arcR k r r.length from by rw [arcT]; simp [List.getD, hr]))
  obtain ⟨n, hn⟩ : ∃ n, n = m.length := ⟨_, rfl⟩
  have Hn := Lib.hid hn
  rw [← hn] at HL Hl h9 ⊢
  clear h hs h0 hn him
  go_enter Try.func134, Try.ntmps134
  go_wp2
  go_loopg [3, 4] n (fun g ov iv wr => ∃ (k : Nat), iv = .int .i64 k ∧ k + g = n ∧ Hid (New (OTab 3 50) w.heap.size wr ov (arcT m k)) ∧ Hid (Below w.heap.size w wr))
  case atStart => exact ⟨0, rfl, by omega, Lib.hid (New.empty w (Nat.le_refl _)), Lib.hid ((Below.refl _ _).alloc (Nat.le_refl _) _)⟩
  case round =>
    obtain ⟨k, rfl, hk, HN, HB⟩ := hrel
    obtain ⟨wk, rfl⟩ : ∃ x, x = wr := ⟨_, rfl⟩
    obtain ⟨oa, on', oc, rfl⟩ := HN.out.slice
    by_cases hkn : k < n
    · have hki : (k : Int) < (n : Int) := by omega
      obtain ⟨g, rfl⟩ : ∃ x, gk = x + 1 := ⟨gk - 1, by omega⟩
      obtain ⟨r, hr, -⟩ := at_lt (xs := m) (k := k) (by have := Hn.out; omega)
      obtain ⟨b, o, c2, ra, rc, hv, hbw, g0, hri⟩ := HC.out k r hr
      simp only [Value.slice.injEq] at hv
      obtain ⟨rfl, -, rfl⟩ := hv
      have hrl := Hl.out k r hr
      rw [hrl] at g0 hri
      have gk0 := (HB.out.cell (p := ⟨b, o + k, none⟩) hbw).trans g0
      have Hrb := Lib.hid (Hb.out k r hr)
      have Hri := Lib.hid hri
      have Hrl := Lib.hid hrl
      have HSk := Lib.hid (HS.out k r hr)
      have HLk := Lib.hid (HL.out k (by omega))
      have HRl := Lib.hid (fun j (hj : j ≤ n) => arcR_len (i := k) Hrb.out j (by rw [hrl]; exact hj))
      have HRs := Lib.hid (fun j x (hx : r[j]? = some x) => (show arcR k r (j + 1) = arcR k r j ++ List.replicate x.toNat [(k : Int), (j : Int)] from by rw [arcR]; simp [List.getD, hx]))
      have HN0 := Lib.hid (show New (OTab 3 50) w.heap.size wk (.slice oa on' oc) (arcT m k ++ arcR k r 0) from by rw [show arcR k r 0 = [] from rfl, List.append_nil]; exact HN.out)
      clear hr hri hrl HN
      go_wp2
      go_loopg [3, 5] n (fun g2 ov jv wr2 => ∃ (j : Nat), jv = .int .i64 j ∧ j + g2 = n ∧ Hid (New (OTab 3 50) w.heap.size wr2 ov (arcT m k ++ arcR k r j)) ∧ Hid (Below w.heap.size w wr2))
      case atStart => exact ⟨0, rfl, by omega, HN0, HB⟩
      case round =>
        clear HN0 HB gk0
        obtain ⟨j, rfl, hj, HN, HB⟩ := hrel
        obtain ⟨wj, rfl⟩ : ∃ x, x = wr := ⟨_, rfl⟩
        obtain ⟨oa, on', oc, rfl⟩ := HN.out.slice
        by_cases hjn : j < n
        · have hji : (j : Int) < (n : Int) := by omega
          obtain ⟨g2, rfl⟩ : ∃ x, gk = x + 1 := ⟨gk - 1, by omega⟩
          obtain ⟨x, hx, -⟩ := at_lt (xs := r) (k := j) (by have := Hrl.out; omega)
          obtain ⟨b2, o2, c2, hv, hbr, gx⟩ := Hri.out.elOf hx
          simp only [Value.slice.injEq] at hv
          obtain ⟨rfl, -, rfl⟩ := hv
          have hxb := Hrb.out x (List.mem_of_getElem? hx)
          have HRj := Lib.hid (HRs.out j x hx)
          obtain ⟨X, rfl⟩ := Int.eq_ofNat_of_zero_le hxb.1
          have hX : X ≤ 1000000 := by omega
          have gxw := (HB.out.cell (p := ⟨b2, o2 + j, none⟩) hbr).trans gx
          have HRlj := Lib.hid (HRl.out j (by omega))
          have HN0 := Lib.hid (show New (OTab 3 50) w.heap.size wj (.slice oa on' oc) (arcT m k ++ arcR k r j ++ List.replicate 0 [(k : Int), (j : Int)]) from by rw [List.replicate_zero, List.append_nil]; exact HN.out)
          clear hx hxb HN
          go_wp2
          go_loopg [3, 6] X (fun g3 ov qv wr3 => ∃ (q : Nat), qv = .int .i64 q ∧ q + g3 = X ∧ Hid (New (OTab 3 50) w.heap.size wr3 ov (arcT m k ++ arcR k r j ++ List.replicate q [(k : Int), (j : Int)])) ∧ Hid (Below w.heap.size w wr3))
          case atStart => exact ⟨0, rfl, by omega, HN0, HB⟩
          case round =>
            clear HN0 HB gxw
            obtain ⟨q, rfl, hq, HN, HB⟩ := hrel
            obtain ⟨wq, rfl⟩ : ∃ x, x = wr := ⟨_, rfl⟩
            have hzq := HB.out.size
            obtain ⟨oa, on', oc, rfl⟩ := HN.out.slice
            have gA := (HB.out.cell (p := ⟨b, o + k, none⟩) hbw).trans g0
            have gB := (HB.out.cell (p := ⟨b2, o2 + j, none⟩) hbr).trans gx
            by_cases hqX : q < X
            · have hqi : (q : Int) < (X : Int) := by omega
              obtain ⟨g3, rfl⟩ : ∃ x, gk = x + 1 := ⟨gk - 1, by omega⟩
              have hlen := Lib.hid (show (arcT m k ++ arcR k r j ++ List.replicate q [(k : Int), (j : Int)]).length ≤ 200000000 from by rw [List.length_append, List.length_append, List.length_replicate]; have := HLk.out; have := HRlj.out; omega)
              have HRp := Lib.hid (show arcT m k ++ arcR k r j ++ List.replicate q [(k : Int), (j : Int)] ++ [[(k : Int), (j : Int)]] = arcT m k ++ arcR k r j ++ List.replicate (q + 1) [(k : Int), (j : Int)] from by rw [List.append_assoc (arcT m k ++ arcR k r j), rep_snoc])
              obtain ⟨w2, e2⟩ : ∃ x, x = wq.alloc (.cells #[.int .i64 k, .int .i64 j] 3) := ⟨_, rfl⟩
              have hb2 : Below wq.heap.size wq w2 := by rw [e2]; exact (Below.refl _ _).alloc (Nat.le_refl _) _
              have hn2 : New (OInts 3) wq.heap.size w2 (.slice (some ⟨wq.heap.size, 0, none⟩) 2 2) [(k : Int), (j : Int)] := by rw [e2]; exact two_new _ _ _
              have hz2 : w2.heap.size = wq.heap.size + 1 := by rw [e2]; simp
              have Hb2 := Lib.hid hb2
              have Hn2 := Lib.hid hn2
              have e2s := e2.symm
              have Hz2 := Lib.hid hz2
              clear e2 hb2 hn2 hz2
              go_wp2_with (at_builtin; refine wpl_push (w0 := wq) (lo := w.heap.size) (y := [(k : Int), (j : Int)]) (OInts.kept _) rfl (.tmp 31) (.tmp 35) 41 rfl 50 (.slice none 0 0) 24 Try.underlying41 infoR rfl HN.out hzq (Hb2.out.alloc Hb2.out.size _) (New.keep (OInts.kept _) Hn2.out ((Below.refl w2.heap.size _).alloc (Nat.le_refl _) _) (Nat.le_refl _)) (bb := w2.heap.size) (c := 1) (by simp) rfl rfl (by have := hlen.out; omega) (by have := hlen.out; omega) ?_; intro v3 w3 hn3 _ _ hb3; have Hn3 := Lib.hid hn3; have Hb3 := Lib.hid hb3; clear hn3 hb3)
              go_roundg g3
              case measure => omega
              case rel => exact ⟨q + 1, by go_num, by omega, Lib.hid (by rw [← HRp.out]; exact Hn3.out), Lib.hid (HB.out.trans Hb3.out)⟩
            · have hqi : ¬ ((q : Int) < (X : Int)) := by omega
              have HN1 := Lib.hid (show New (OTab 3 50) w.heap.size wq (.slice oa on' oc) (arcT m k ++ arcR k r (j + 1)) from by rw [HRj.out, ← List.append_assoc, show (X : Int).toNat = q from by omega]; exact HN.out)
              clear HN
              go_wp2
              go_roundg g2
              case measure => omega
              case rel => exact ⟨j + 1, by go_num, by omega, HN1, HB⟩
        · have hji : ¬ ((j : Int) < (n : Int)) := by omega
          have HN1 := Lib.hid (show New (OTab 3 50) w.heap.size wj (.slice oa on' oc) (arcT m (k + 1)) from by rw [HSk.out, Hrl.out, show n = j from by omega]; exact HN.out)
          clear HN
          go_wp2
          go_roundg g
          case measure => omega
          case rel => exact ⟨k + 1, by go_num, by omega, HN1, HB⟩
    · have hki : ¬ ((k : Int) < (n : Int)) := by omega
      have HN1 := Lib.hid (show New (OTab 3 50) w.heap.size wk (.slice oa on' oc) (arcT m n) from by rw [show n = k from by omega]; exact HN.out)
      clear HN
      go_wp2
      go_ret
      exact ⟨_, rfl, HN1.out, HB.out⟩
set_option maxHeartbeats 1000000 in
theorem impl_ArcsOf_c {w : World} {v : Value} {m : List (List Int)} (h : Tab w v m) :
    Calls Try.prog 57 #[v] w (Makes (OTab 3 50) w (arcsV m)) := by
  have HI := Lib.hid (impl_IsGraph_c h)
  have HA := Lib.hid (fun (hm : graphM m = true) => impl_arcs_c h (by unfold graphM at hm; simp at hm; exact hm.1))
  obtain ⟨a, c, rfl, -⟩ := h.shape
  have HV := Lib.hid (show arcsV m = if graphM m = true then arcT m m.length else [] from rfl)
  generalize arcsV m = R at HV ⊢
  clear h
  cases hg : graphM m with
  | false =>
    have HF := Lib.hid (show R = [] from by rw [HV.out, if_neg (by rw [hg]; simp)])
    rw [hg] at HI
    clear HV HA hg
    go_enter Try.func57, Try.ntmps57
    go_wp2_with fail
    (with_reducible refine HI.out.mono ?_)
    rintro e w9 ⟨rfl, hw9⟩
    rw [← hw9]
    clear hw9 w9
    go_wp2
    go_ret
    exact ⟨_, rfl, by rw [HF.out]; exact New.nil _ _, Below.refl _ _⟩
  | true =>
    have HF := Lib.hid (show R = arcT m m.length from by rw [HV.out, if_pos hg])
    have HA1 := Lib.hid (HA.out hg)
    rw [hg] at HI
    clear HV HA hg
    go_enter Try.func57, Try.ntmps57
    go_wp2_with fail
    (with_reducible refine HI.out.mono ?_)
    rintro e w9 ⟨rfl, hw9⟩
    rw [← hw9]
    clear hw9 w9
    go_wp2_with fail
    (with_reducible refine HA1.out.mono ?_)
    rintro e w2 ⟨r, rfl, hn, hb⟩
    have HN := Lib.hid hn
    have HB := Lib.hid hb
    clear hn hb HA1
    go_wp2
    go_ret
    exact ⟨_, rfl, by rw [HF.out]; exact HN.out, HB.out⟩
set_option maxHeartbeats 1000000 in
theorem spec_ArcsOf_c {w : World} {v : Value} {m : List (List Int)} (h : Tab w v m) :
    Calls Try.prog 63 #[v] w (Makes (OTab 3 50) w (arcsV m)) := by
  have HI := Lib.hid (spec_IsGraph_c h)
  have HA := Lib.hid (fun (hm : graphM m = true) => spec_arcs_c h (by unfold graphM at hm; simp at hm; exact hm.1))
  obtain ⟨a, c, rfl, -⟩ := h.shape
  have HV := Lib.hid (show arcsV m = if graphM m = true then arcT m m.length else [] from rfl)
  generalize arcsV m = R at HV ⊢
  clear h
  cases hg : graphM m with
  | false =>
    have HF := Lib.hid (show R = [] from by rw [HV.out, if_neg (by rw [hg]; simp)])
    rw [hg] at HI
    clear HV HA hg
    go_enter Try.func63, Try.ntmps63
    go_wp2_with fail
    (with_reducible refine HI.out.mono ?_)
    rintro e w9 ⟨rfl, hw9⟩
    rw [← hw9]
    clear hw9 w9
    go_wp2
    go_ret
    exact ⟨_, rfl, by rw [HF.out]; exact New.empty _ (Nat.le_refl _), (Below.refl _ _).alloc (Nat.le_refl _) _⟩
  | true =>
    have HF := Lib.hid (show R = arcT m m.length from by rw [HV.out, if_pos hg])
    have HA1 := Lib.hid (HA.out hg)
    rw [hg] at HI
    clear HV HA hg
    go_enter Try.func63, Try.ntmps63
    go_wp2_with fail
    (with_reducible refine HI.out.mono ?_)
    rintro e w9 ⟨rfl, hw9⟩
    rw [← hw9]
    clear hw9 w9
    go_wp2_with fail
    (with_reducible refine HA1.out.mono ?_)
    rintro e w2 ⟨r, rfl, hn, hb⟩
    have HN := Lib.hid hn
    have HB := Lib.hid hb
    clear hn hb HA1
    go_wp2
    go_ret
    exact ⟨_, rfl, by rw [HF.out]; exact HN.out, HB.out⟩
end Go.Proofs.Ytdohepngandajaa
end

section
/-
  The laws' comparisons of rows and tables.
-/
namespace Go.Proofs.Ytdohepngandajaa
open Go.RowKit Go.Deep Go.Sd

set_option maxHeartbeats 400000 in
theorem sameInts_c {w : World} {v1 v2 : Value} {xs ys : List Int} (h1 : Ints w v1 xs) (h2 : Ints w v2 ys) :
    Calls Try.prog 129 #[v1, v2] w (Reads w (.bool (decide (xs = ys)))) := by
  have hlen1 := h1.len
  have hlen2 := h2.len
  obtain ⟨a1, c1, rfl, _, _, hc1⟩ := h1.shape
  obtain ⟨a2, c2, rfl, _, _, hc2⟩ := h2.shape
  clear h1 h2
  by_cases hl : xs.length = ys.length
  · have H0 := Lib.hid (show decide (xs = ys) = eqLoop (xs.drop 0) (ys.drop 0) from (eqLoop_iff xs ys hl).symm)
    have hl1 : ((ys.length : Int) != ys.length) = false := by simp
    have hl2 := Lib.hid hl
    obtain ⟨n, hn⟩ : ∃ n, n = xs.length := ⟨_, rfl⟩
    rw [← hl, ← hn]
    have hnb : n ≤ 9223372036854775807 := by omega
    have hl3 := Lib.hid hn
    clear hl hn
    go_enter Try.func129, Try.ntmps129
    go_wp2
    go_loopg [5] n (fun g i wr => ∃ (k : Nat), i = .int .i64 k ∧ k + g = n ∧ Hid (decide (xs = ys) = eqLoop (xs.drop k) (ys.drop k)) ∧ Drawn w wr)
    case atStart => exact ⟨0, rfl, by omega, H0, Drawn.refl _⟩
    case round =>
      obtain ⟨k, rfl, hk, H, hdr⟩ := hrel
      by_cases hlt : k < n
      · obtain ⟨b1, o1, rfl, _, hx1⟩ := hc1 (by have := hl3.out; omega)
        obtain ⟨b2, o2, rfl, _, hx2⟩ := hc2 (by have := hl3.out; have := hl2.out; omega)
        obtain ⟨x, hx, hdx⟩ := at_lt (xs := xs) (k := k) (by have := hl3.out; omega)
        obtain ⟨y, hy, hdy⟩ := at_lt (xs := ys) (k := k) (by have := hl3.out; have := hl2.out; omega)
        obtain ⟨u1, hu1, rfl⟩ := hx1 k x hx
        obtain ⟨u2, hu2, rfl⟩ := hx2 k y hy
        rw [← hdr.cell] at hu1 hu2
        have H1 := Lib.hid (show decide (xs = ys) = if x = y then eqLoop (xs.drop (k + 1)) (ys.drop (k + 1)) else false from by rw [H.out, hdx, hdy]; rfl)
        clear H hx hdx hy hdy hx1 hx2 hc1 hc2 H0
        by_cases hxy : x = y
        · have H2 := Lib.hid (show decide (xs = ys) = eqLoop (xs.drop (k + 1)) (ys.drop (k + 1)) from by rw [H1.out, if_pos hxy])
          have hd : (x != y) = false := by simp [hxy]
          have hi1 : (k : Int) < (n : Int) := by omega
          clear hxy H1
          go_wp2
          go_quiet (fail)
          go_wp2
          go_roundg (n - (k + 1))
          case measure => omega
          case rel => exact ⟨k + 1, by go_num, by omega, H2, hdr.drewN _⟩
        · have H2 := Lib.hid (show decide (xs = ys) = false from by rw [H1.out, if_neg hxy])
          have hd : (x != y) = true := by simp [hxy]
          have hi1 : (k : Int) < (n : Int) := by omega
          clear hxy H1
          go_wp2
          go_quiet (fail)
          go_wp2
          go_ret
          exact ⟨by rw [H2.out]; rfl, hdr.drewN _⟩
      · have H1 := Lib.hid (show decide (xs = ys) = true from by rw [H.out, drop_len (by have := hl3.out; omega)]; rfl)
        clear H
        go_wp2
        go_ret
        exact ⟨by rw [H1.out]; rfl, hdr⟩
  · have H := Lib.hid (show decide (xs = ys) = false from by simp; intro h; exact hl (by rw [h]))
    have hl1 : ((xs.length : Int) != ys.length) = true := by simp; omega
    go_enter Try.func129, Try.ntmps129
    go_wp2
    go_ret
    exact ⟨by rw [H.out]; rfl, Drawn.refl _⟩
set_option maxHeartbeats 400000 in
theorem sameLists_c {w : World} {v1 v2 : Value} {xs ys : List (List Int)} (h1 : Tab w v1 xs) (h2 : Tab w v2 ys) :
    Calls Try.prog 60 #[v1, v2] w (Reads w (.bool (decide (xs = ys)))) := by
  have hlen1 := h1.len
  have hlen2 := h2.len
  obtain ⟨a1, c1, rfl, _, _, hc1⟩ := h1.shape
  obtain ⟨a2, c2, rfl, _, _, hc2⟩ := h2.shape
  clear h1 h2
  by_cases hl : xs.length = ys.length
  · have H0 := Lib.hid (show decide (xs = ys) = eqLoopT (xs.drop 0) (ys.drop 0) from (eqLoopT_iff xs ys hl).symm)
    have hl2 := Lib.hid hl
    obtain ⟨n, hn⟩ : ∃ n, n = xs.length := ⟨_, rfl⟩
    rw [← hl, ← hn]
    have hnb : n ≤ 9223372036854775807 := by omega
    have hl3 := Lib.hid hn
    clear hl hn
    go_enter Try.func60, Try.ntmps60
    go_wp2
    go_loopg [5] n (fun g i wr => ∃ (k : Nat), i = .int .i64 k ∧ k + g = n ∧ Hid (decide (xs = ys) = eqLoopT (xs.drop k) (ys.drop k)) ∧ Drawn w wr)
    case atStart => exact ⟨0, rfl, by omega, H0, Drawn.refl _⟩
    case round =>
      obtain ⟨k, rfl, hk, H, hdr⟩ := hrel
      by_cases hlt : k < n
      · obtain ⟨b1, o1, rfl, _, hx1⟩ := hc1 (by have := hl3.out; omega)
        obtain ⟨b2, o2, rfl, _, hx2⟩ := hc2 (by have := hl3.out; have := hl2.out; omega)
        obtain ⟨x, hx, hdx⟩ := at_lt (xs := xs) (k := k) (by have := hl3.out; omega)
        obtain ⟨y, hy, hdy⟩ := at_lt (xs := ys) (k := k) (by have := hl3.out; have := hl2.out; omega)
        obtain ⟨u1, hu1, hr1⟩ := hx1 k x hx
        obtain ⟨u2, hu2, hr2⟩ := hx2 k y hy
        rw [← hdr.cell] at hu1 hu2
        have H1 := Lib.hid (show decide (xs = ys) = if x = y then eqLoopT (xs.drop (k + 1)) (ys.drop (k + 1)) else false from by rw [H.out, hdx, hdy]; rfl)
        have hi1 : (k : Int) < (n : Int) := by omega
        have Hc := Lib.hid (fun n => Reads.quiet (sameInts_c ((hdr.read Ints.frame hr1).dn n) ((hdr.read Ints.frame hr2).dn n)))
        clear H hx hdx hy hdy hx1 hx2 hc1 hc2 H0 hr1 hr2
        by_cases hxy : x = y
        · have H2 := Lib.hid (show decide (xs = ys) = eqLoopT (xs.drop (k + 1)) (ys.drop (k + 1)) from by rw [H1.out, if_pos hxy])
          have hd : decide (x = y) = true := by simp [hxy]
          rw [hd] at Hc
          clear hxy H1 hd
          go_wp2
          go_quiet ((go_at_call 129; exact Hc.out _))
          go_wp2
          go_roundg (n - (k + 1))
          case measure => omega
          case rel => exact ⟨k + 1, by go_num, by omega, H2, hdr.drewN _⟩
        · have H2 := Lib.hid (show decide (xs = ys) = false from by rw [H1.out, if_neg hxy])
          have hd : decide (x = y) = false := by simp [hxy]
          rw [hd] at Hc
          clear hxy H1 hd
          go_wp2
          go_quiet ((go_at_call 129; exact Hc.out _))
          go_wp2
          go_ret
          exact ⟨by rw [H2.out]; rfl, hdr.drewN _⟩
      · have H1 := Lib.hid (show decide (xs = ys) = true from by rw [H.out, drop_len (by have := hl3.out; omega)]; rfl)
        clear H
        go_wp2
        go_ret
        exact ⟨by rw [H1.out]; rfl, hdr⟩
  · have H := Lib.hid (show decide (xs = ys) = false from by simp; intro h; exact hl (by rw [h]))
    have hl1 : ((xs.length : Int) != ys.length) = true := by simp; omega
    go_enter Try.func60, Try.ntmps60
    go_wp2
    go_ret
    exact ⟨by rw [H.out]; rfl, Drawn.refl _⟩

end Go.Proofs.Ytdohepngandajaa
end

section
/-
  Rows and columns exchanged: pure part.
-/
namespace Go.Proofs.Ytdohepngandajaa
open Go.RowKit Go.Deep Go.Sd

def turnT (m : List (List Int)) (n : Nat) : List (List Int) := tabOf n n (fun i j => ent m j i)
def turnV (m : List (List Int)) : List (List Int) := if isMat m = true then turnT m m.length else []
theorem turnT_sq (m : List (List Int)) (n : Nat) : Sq n (turnT m n) := ⟨tabOf_len _ _ _, fun _ h => mem_tabOf h⟩
theorem turnT_bd {m : List (List Int)} {n : Nat} (h : n ≤ 9) : (turnT m n).length ≤ 9 ∧ ∀ x, x ∈ turnT m n → x.length ≤ 9 := ⟨by rw [(turnT_sq m n).1]; exact h, fun x hx => by rw [(turnT_sq m n).2 x hx]; exact h⟩

/-- The table being turned row by row: rows before i are in. -/
def turnF (m : List (List Int)) (n i k : Nat) : List (List Int) := tabOf n n (fun r c => if c < i ∨ (c = i ∧ r < k) then ent m c r else 0)
theorem turnF_start (m : List (List Int)) (n : Nat) : turnF m n 0 0 = List.replicate n (List.replicate n 0) := by
  rw [← tabOf_const]
  exact tabOf_congr fun i _ j _ => if_neg (by omega)
theorem turnF_row {m : List (List Int)} {n i k : Nat} (hk : k < n) : (turnF m n i k)[k]? = some (rowOf' n (fun c => if c < i ∨ (c = i ∧ k < k) then ent m c k else 0)) := tabOf_at hk
theorem turnF_at {m : List (List Int)} {n i k : Nat} (hi : i < n) : (rowOf' n (fun c => if c < i ∨ (c = i ∧ k < k) then ent m c k else 0))[i]? = some 0 := by
  rw [rowOf_at hi, if_neg (by omega)]
theorem turnF_set {m : List (List Int)} {n i k : Nat} :
    (turnF m n i k).set k ((rowOf' n (fun c => if c < i ∨ (c = i ∧ k < k) then ent m c k else 0)).set i (ent m i k)) = turnF m n i (k + 1) := by
  unfold turnF
  rw [tabOf_set2 n n (fun r c => if c < i ∨ (c = i ∧ r < k) then ent m c r else 0) k i]
  refine tabOf_congr fun r _ c _ => ?_
  show (if r = k ∧ c = i then ent m i k else if c < i ∨ (c = i ∧ r < k) then ent m c r else 0) = if c < i ∨ (c = i ∧ r < k + 1) then ent m c r else 0
  by_cases h : r = k ∧ c = i
  · obtain ⟨rfl, rfl⟩ := h
    rw [if_pos ⟨rfl, rfl⟩, if_pos (by omega)]
  · rw [if_neg h]
    by_cases h2 : c < i ∨ (c = i ∧ r < k)
    · rw [if_pos h2, if_pos (by omega)]
    · rw [if_neg h2, if_neg (by omega)]
theorem turnF_next {m : List (List Int)} {n i : Nat} : turnF m n i n = turnF m n (i + 1) 0 := tabOf_congr fun r _ c _ => by
  by_cases h : c < i ∨ (c = i ∧ r < n)
  · rw [if_pos h, if_pos (by omega)]
  · rw [if_neg h, if_neg (by omega)]
theorem turnF_end {m : List (List Int)} {n : Nat} : turnF m n n 0 = turnT m n := tabOf_congr fun r _ c _ => by rw [if_pos (by omega)]
end Go.Proofs.Ytdohepngandajaa
end
