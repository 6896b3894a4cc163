/-
  Laws for this claim's walks, contracts of the functions that it reaches.
-/
import Derived.Test.YtcilgihmaaobeaaGreatDoorFnLabelsM18
import Derived.Test.YtcilgihmaaobeaaGreatDoorFnLabelsM39
set_option linter.unusedVariables false
set_option linter.unusedSimpArgs false
section
namespace Go.Proofs.YtcilgihmaaobeaaGreatDoor
open Go.RowKit Go.Deep Go.Sd
set_option maxHeartbeats 4000000 in
set_option maxRecDepth 100000 in
theorem impl_TrimLabels_c {w : World} {v : Value} {l : Lb} (h : LabR w v l) :
    Calls Tryz.prog 9 #[v] w (Makes2 OLab w (trimV l) (trimOk l)) := by
  have H1 := Lib.hid (fun w1 (hb : Below w.heap.size w w1) => impl_IsLabels_c (LabR.frame _ _ _ _ h hb))
  have HV := Lib.hid (show trimV l = if trimOk l = true then keepV l (liveO l) else (0, 0, []) from rfl)
  have HO := Lib.hid (show trimOk l = (isLab l && decide (cntT (liveO l) ≠ 0)) from by unfold trimOk; congr 1)
  have Hok := Lib.hid (fun (hok : isLab l = true) => isLab_ok hok)
  have Hlen := Lib.hid (fun (hok : isLab l = true) => isLab_len hok)
  have HLV := Lib.hid (show liveL (EntN (nxt l.2.1.toNat l.2.2)) l.2.1.toNat = liveO l from nxt_live _ _)
  have Hlvl := Lib.hid (liveO_len l)
  generalize trimV l = V at HV ⊢
  generalize trimOk l = ok at HV HO ⊢
  generalize isLab l = il at H1 HO Hok Hlen
  generalize liveO l = bs at *
  obtain ⟨L, S, xs⟩ := l
  obtain ⟨va, rfl, hlen, a, c, rfl, hac, _, _, hcell⟩ := h
  simp only at *
  generalize hn : xs.length = n at *
  have Hn := Lib.hid hn.symm
  clear hn
  obtain ⟨wA, eA, hA0⟩ : ∃ wA, wA = (w.alloc (.cells #[.int .i64 L, .int .i64 S, .slice a n c] 26)).alloc (.cells #[.int .i64 0, .int .i64 0, .slice none 0 0] 26) ∧ Below w.heap.size w wA := ⟨_, rfl, ((Below.refl _ _).alloc (Nat.le_refl _) _).alloc (by simp) _⟩
  have zA : wA.heap.size = w.heap.size + 1 + 1 := by rw [eA]; simp
  have l0 : wA.cell? ⟨w.heap.size, 0, none⟩ = some (.int .i64 L) := by rw [eA]; simp [go_sem]
  have l1 : wA.cell? ⟨w.heap.size, 1, none⟩ = some (.int .i64 S) := by rw [eA]; simp [go_sem]
  have l2 : wA.cell? ⟨w.heap.size, 2, none⟩ = some (.slice a n c) := by rw [eA]; simp [go_sem]
  have r0 : wA.cell? ⟨w.heap.size + 1, 0, none⟩ = some (.int .i64 0) := by rw [eA]; simp [go_sem]
  have r1 : wA.cell? ⟨w.heap.size + 1, 1, none⟩ = some (.int .i64 0) := by rw [eA]; simp [go_sem]
  have r2 : wA.cell? ⟨w.heap.size + 1, 2, none⟩ = some (.slice none 0 0) := by rw [eA]; simp [go_sem]
  have t0 : wA.frozen? ⟨w.heap.size + 1, 0, none⟩ = false := by rw [eA]; simp [go_sem]
  have t1 : wA.frozen? ⟨w.heap.size + 1, 1, none⟩ = false := by rw [eA]; simp [go_sem]
  have t2 : wA.frozen? ⟨w.heap.size + 1, 2, none⟩ = false := by rw [eA]; simp [go_sem]
  have HA := Lib.hid hA0
  have eW := eA.symm
  have h1A : w.heap.size + 1 < wA.heap.size := by omega
  have h0A : w.heap.size < wA.heap.size := by omega
  clear eA hA0 zA
  go_enter Tryz.func9, Tryz.ntmps9
  go_wp2_with fail
  refine (H1.out _ HA.out).mono ?_
  rintro e w1 ⟨rfl, hb1⟩
  replace l0 := (hb1.cell (p := ⟨w.heap.size, 0, none⟩) h0A).trans l0
  replace l1 := (hb1.cell (p := ⟨w.heap.size, 1, none⟩) h0A).trans l1
  replace l2 := (hb1.cell (p := ⟨w.heap.size, 2, none⟩) h0A).trans l2
  replace r0 := (hb1.cell (p := ⟨w.heap.size + 1, 0, none⟩) h1A).trans r0
  replace t0 := (hb1.frozen (p := ⟨w.heap.size + 1, 0, none⟩) h1A).trans t0
  replace r1 := (hb1.cell (p := ⟨w.heap.size + 1, 1, none⟩) h1A).trans r1
  replace t1 := (hb1.frozen (p := ⟨w.heap.size + 1, 1, none⟩) h1A).trans t1
  replace r2 := (hb1.cell (p := ⟨w.heap.size + 1, 2, none⟩) h1A).trans r2
  replace t2 := (hb1.frozen (p := ⟨w.heap.size + 1, 2, none⟩) h1A).trans t2
  have A1 := Lib.hid (HA.out.trans (hb1.mono HA.out.size))
  have h1w : w.heap.size + 1 < w1.heap.size := Nat.lt_of_lt_of_le h1A hb1.size
  have h0w : w.heap.size < w1.heap.size := Nat.lt_of_lt_of_le h0A hb1.size
  clear eW hb1 H1 HA h1A h0A
  cases il with
  | false =>
    have HF := Lib.hid (show ok = false from by rw [HO.out]; rfl)
    have HW := Lib.hid (show V = (0, 0, []) from by rw [HV.out, HF.out]; rfl)
    clear HV HO Hok Hlen HLV Hlvl hcell
    go_wp2
    have s0 := World.cell?_setCell_same w1 _ (.int .i64 0) r0
    have u1 := (World.cell?_setCell_other _ ⟨w.heap.size + 1, 0, none⟩ _ (.int .i64 0) (by simp)).trans r1
    have s1 := World.cell?_setCell_same _ _ (.int .i64 0) u1
    have u2 := (World.cell?_setCell_other _ ⟨w.heap.size + 1, 1, none⟩ _ (.int .i64 0) (by simp)).trans ((World.cell?_setCell_other _ ⟨w.heap.size + 1, 0, none⟩ _ (.int .i64 0) (by simp)).trans r2)
    have s2 := World.cell?_setCell_same _ _ (.slice none 0 0) u2
    refine bodyPost_ret (v := .tuple #[.agg #[.int .i64 0, .int .i64 0, .slice none 0 0], .bool false]) (by simp [results, Tryz.results9, go_sem, s0, s1, s2]) rfl ?_
    exact ⟨_, by rw [HF.out], by rw [HW.out]; exact New.lab0, (((A1.out.setCell (p := ⟨w.heap.size + 1, 0, none⟩) (by simp) _).setCell (p := ⟨w.heap.size + 1, 1, none⟩) (by simp) _).setCell (p := ⟨w.heap.size + 1, 2, none⟩) (by simp) _)⟩
  | true =>
  have HO2 := Lib.hid (show ok = decide (cntT bs ≠ 0) from by rw [HO.out]; rfl)
  obtain ⟨ho, hS1, hS2, _, _⟩ := Hok.out (by first | rfl | trivial)
  have hlen768 := Hlen.out (by first | rfl | trivial)
  obtain ⟨p, rfl⟩ := Int.eq_ofNat_of_zero_le (show 0 ≤ S by omega)
  have Hbl := Lib.hid (show bs.length = p from Hlvl.out)
  have HLV' := Lib.hid (show liveL (EntN (nxt p xs)) p = bs from HLV.out)
  have Ho := Lib.hid ho
  have R0 := Lib.hid r0
  have R1 := Lib.hid r1
  have R2 := Lib.hid r2
  have F0 := Lib.hid t0
  have F1 := Lib.hid t1
  have F2 := Lib.hid t2
  have hp0 : 0 < p := by omega
  clear HO Hok Hlen HLV Hlvl ho r0 r1 r2 t0 t1 t2
  go_wp2_with (first
    | (at_make; refine wpl_make (R := OInts 3) rfl (.tmp 19) (.tmp 19) 42 rfl 61 (.slice none 0 0) 24 Tryz.underlying42 infoR rfl p (by rfl) (by rfl) (by omega) (by omega) OInts.nil0 ?_; intro wm hzm hnm hbm; have Hzm := Lib.hid hzm; have Hnm := Lib.hid hnm; have Hbm := Lib.hid hbm; have l1 := (hbm.cell (p := ⟨w.heap.size, 1, none⟩) h0w).trans l1; have l2 := (hbm.cell (p := ⟨w.heap.size, 2, none⟩) h0w).trans l2; clear hzm hnm hbm)
    | fail)
  have HN0 := Lib.hid (show New (OTab 3 61) w1.heap.size wm (.slice (some ⟨w1.heap.size, 0, none⟩) p p) (nxt p (xs.take 0)) from by rw [List.take_zero, nxt_nil]; exact Hnm.out)
  clear Hnm Hzm l1 l2
  go_loopg [24] n (fun g i wr => ∃ (k : Nat), i = .int .i64 k ∧ k + g = n ∧ Hid (New (OTab 3 61) w1.heap.size wr (.slice (some ⟨w1.heap.size, 0, none⟩) p p) (nxt p (xs.take k))) ∧ Hid (Below w1.heap.size w1 wr))
  case atStart => exact ⟨0, rfl, by omega, HN0, Hbm⟩
  case round =>
    obtain ⟨k, rfl, hk, hnew, hbel⟩ := hrel
    clear HN0 Hbm
    by_cases hlt : k < n
    · obtain ⟨x, hx, _⟩ := at_lt (xs := xs) (k := k) (by have := Hn.out; omega)
      have HT := Lib.hid (show xs.take (k + 1) = xs.take k ++ [x] from (take_snoc' hx).symm)
      obtain ⟨b, o, rfl, hb, hx0⟩ := hcell (by omega)
      obtain ⟨g0, g1, g2⟩ := hx0 k x hx
      obtain ⟨i0, i1, i2, i3⟩ := okArcs_at Ho.out hx
      clear hx0 hx hcell
      obtain ⟨x0, x1, x2⟩ := x
      simp only at g0 g1 g2 i0 i1 i2 i3
      obtain ⟨p0, rfl⟩ := Int.eq_ofNat_of_zero_le i0
      obtain ⟨p1, rfl⟩ := Int.eq_ofNat_of_zero_le i2
      have hq0 : p0 < p := by omega
      have hk0 : (p0 : Int) < (p : Int) := by omega
      have hkn : (k : Int) < (n : Int) := by omega
      have hAk := A1.out.trans (hbel.out.mono A1.out.size)
      replace g0 := (hAk.cell (p := ⟨b, o + k * 3, none⟩) hb).trans g0
      replace g1 := (hAk.cell (p := ⟨b, o + k * 3 + 1, none⟩) hb).trans g1
      replace g2 := (hAk.cell (p := ⟨b, o + k * 3 + 2, none⟩) hb).trans g2
      obtain ⟨wk, ex, hb1, q0, q1, q2, m1⟩ := boxA3_ex wr 68 (.int .i64 p0) (.int .i64 p1) (.int .i64 x2)
      have hzb := hbel.out.size
      have hz1 := hb1.size
      have hn1 := New.keep (OTab.kept _ _) hnew.out hb1 (Nat.le_refl _)
      have hAF : ∀ F, OTab 3 61 wr (.slice (some ⟨w1.heap.size, 0, none⟩) p p) (nxt p (xs.take k)) F → wr.heap.size ∉ F := fun F hF hm => by have := (OTab.kept 3 61).lt _ _ _ _ hF _ hm; omega
      obtain ⟨b', c', ra, rc, hv, _, hlb, hltb, hcl, hpush⟩ := New.row_push0A (P := Tryz.prog) hnew.out hb1 (nxt_at hq0) 61 61 (.int .i64 0) 8 Tryz.underlying61 infoI rfl (by have := nxRow_len (xs.take k) p0; have : (xs.take k).length ≤ k := (by rw [List.length_take]; omega); omega) (by have := nxRow_len (xs.take k) p0; have : (xs.take k).length ≤ k := (by rw [List.length_take]; omega); omega)
      have hv1 := congrArg Value.ownBlock hv
      simp only [Value.ownBlock, Option.some.injEq] at hv1
      obtain rfl : b' = w1.heap.size := hv1.symm
      obtain ⟨rl, hrl⟩ : ∃ rl, rl = (nxRow (xs.take k) p0).length := ⟨_, rfl⟩
      rw [← hrl] at hcl hpush
      have K0 : ((wk.alloc (.cells #[.int .i64 p1] 3)).drew).cell? ⟨wk.heap.size, 0, none⟩ = some (.int .i64 p1) := by simp [go_sem]
      obtain ⟨a', n', c'', w2, hr, hc2, hf2, hb2, hn2, hA2⟩ := hpush ((wk.alloc (.cells #[.int .i64 p1] 3)).drew) wk.heap.size 1 p1 (((Below.refl _ _).alloc (Nat.le_refl _) _).drew) K0
      have hS2 : w2.cell? ⟨wr.heap.size, 0, none⟩ = some (.int .i64 p0) ∧ w2.cell? ⟨wr.heap.size, 1, none⟩ = some (.int .i64 p1) ∧ w2.cell? ⟨w1.heap.size, p0, none⟩ = some (.slice ra rl rc) := ⟨hA2 _ _ q0, hA2 _ _ q1, hc2⟩
      have hSd : wk.drew.cell? ⟨wr.heap.size, 0, none⟩ = some (.int .i64 p0) ∧ wk.drew.cell? ⟨wr.heap.size, 1, none⟩ = some (.int .i64 p1) ∧ wk.drew.cell? ⟨w1.heap.size, p0, none⟩ = some (.slice ra rl rc) := ⟨q0, q1, hcl⟩
      have hS1 : ((wk.alloc (.cells #[.int .i64 p1] 3)).drew).cell? ⟨wr.heap.size, 0, none⟩ = some (.int .i64 p0) ∧ ((wk.alloc (.cells #[.int .i64 p1] 3)).drew).cell? ⟨wr.heap.size, 1, none⟩ = some (.int .i64 p1) ∧ ((wk.alloc (.cells #[.int .i64 p1] 3)).drew).cell? ⟨w1.heap.size, p0, none⟩ = some (.slice ra rl rc) := by
        have hb3 := (((Below.refl wk.heap.size wk).alloc (Nat.le_refl _) (.cells #[.int .i64 p1] 3)).drew)
        exact ⟨(hb3.cell (p := ⟨wr.heap.size, 0, none⟩) m1).trans q0, (hb3.cell (p := ⟨wr.heap.size, 1, none⟩) m1).trans q1, (hb3.cell (p := ⟨w1.heap.size, p0, none⟩) (show w1.heap.size < wk.heap.size by omega)).trans hcl⟩
      have Hr := Lib.hid hr
      have HN := Lib.hid (show New (OTab 3 61) w1.heap.size (w2.setCell ⟨w1.heap.size, p0, none⟩ (.slice a' n' c'')) (.slice (some ⟨w1.heap.size, 0, none⟩) p p) (nxt p (xs.take (k + 1))) from by rw [HT.out, nxt_snoc _ _ hq0 rfl]; exact hn2)
      have HB := Lib.hid ((hbel.out.trans (hb1.mono hzb)).trans hb2)
      clear hv hpush hn2 hb2 hr hnew hbel hb1 hn1 hAF hAk K0 HT hv1 hA2 hrl
      go_wp2
      clear ex
      refine wp_region_L (fun w' => w'.cell? ⟨wr.heap.size, 0, none⟩ = some (.int .i64 p0) ∧ w'.cell? ⟨wr.heap.size, 1, none⟩ = some (.int .i64 p1) ∧ w'.cell? ⟨w1.heap.size, p0, none⟩ = some (.slice ra rl rc)) (by kernel_rfl) ?_
      refine wpAnyL_take 0 (v := ?_) rfl (by kernel_rfl) (by kernel_rfl) (by kernel_rfl) (by kernel_rfl) (fun _ _ _ h => h) (Or.inl ⟨by rfl, ?_⟩) hSd ?_
      rotate_left
      · (intro w hSw; (try dsimp only at hSw); go_simp) <;> (try with_reducible rfl)
      try simp only [Act.put, List.setIfInBounds_toArray, List.set_cons_zero, List.set_cons_succ]
      refine wpAnyL_take 1 (v := ?_) rfl (by kernel_rfl) (by kernel_rfl) (by kernel_rfl) (by kernel_rfl) (fun _ _ _ h => h) (Or.inl ⟨by rfl, ?_⟩) hSd ?_
      rotate_left
      · (intro w hSw; (try dsimp only at hSw); go_simp) <;> (try with_reducible rfl)
      try simp only [Act.put, List.setIfInBounds_toArray, List.set_cons_zero, List.set_cons_succ]
      refine wpAnyL_take 2 (v := ?_) rfl (by kernel_rfl) (by kernel_rfl) (by kernel_rfl) (by kernel_rfl) (fun _ _ _ h => h) (Or.inl ⟨by rfl, ?_⟩) hSd ?_
      rotate_left
      · (intro w hSw; (try dsimp only at hSw); go_simp) <;> (try with_reducible rfl)
      try simp only [Act.put, List.setIfInBounds_toArray, List.set_cons_zero, List.set_cons_succ]
      refine wpAnyL_take 3 (v := ?_) rfl (by kernel_rfl) (by kernel_rfl) (by kernel_rfl) (by kernel_rfl) (fun _ _ _ h => h) (Or.inl ⟨by rfl, ?_⟩) hSd ?_
      rotate_left
      · (intro w hSw; (try dsimp only at hSw); go_simp) <;> (try with_reducible rfl)
      try simp only [Act.put, List.setIfInBounds_toArray, List.set_cons_zero, List.set_cons_succ]
      refine wpAnyL_take 4 (v := ?_) rfl (by kernel_rfl) (by kernel_rfl) (by kernel_rfl) (by kernel_rfl) (fun _ _ _ h => h) (Or.inl ⟨by rfl, ?_⟩) hSd ?_
      rotate_left
      · (intro w hSw; (try dsimp only at hSw); go_simp) <;> (try with_reducible rfl)
      try simp only [Act.put, List.setIfInBounds_toArray, List.set_cons_zero, List.set_cons_succ]
      refine wpAnyL_take 5 (v := ?_) rfl (by kernel_rfl) (by kernel_rfl) (by kernel_rfl) (by kernel_rfl) (fun _ _ _ h => h) (Or.inl ⟨by rfl, ?_⟩) hSd ?_
      rotate_left
      · (intro w hSw; (try dsimp only at hSw); go_simp) <;> (try with_reducible rfl)
      try simp only [Act.put, List.setIfInBounds_toArray, List.set_cons_zero, List.set_cons_succ]
      refine wpAnyL_take 6 (v := ?_) rfl (by kernel_rfl) (by kernel_rfl) (by kernel_rfl) (by kernel_rfl) (fun _ _ _ h => h) (Or.inl ⟨by rfl, ?_⟩) hSd ?_
      rotate_left
      · (intro w hSw; (try dsimp only at hSw); go_simp) <;> (try with_reducible rfl)
      try simp only [Act.put, List.setIfInBounds_toArray, List.set_cons_zero, List.set_cons_succ]
      refine wpAnyL_take 7 (v := ?_) rfl (by kernel_rfl) (by kernel_rfl) (by kernel_rfl) (by kernel_rfl) (fun _ _ _ h => h) (Or.inl ⟨by rfl, ?_⟩) hSd ?_
      rotate_left
      · (intro w hSw; (try dsimp only at hSw); go_simp) <;> (try with_reducible rfl)
      try simp only [Act.put, List.setIfInBounds_toArray, List.set_cons_zero, List.set_cons_succ]
      refine wpAnyL_take 8 (v := ?_) rfl (by kernel_rfl) (by kernel_rfl) (by kernel_rfl) (by kernel_rfl) (fun _ _ _ h => h) (Or.inl ⟨by rfl, ?_⟩) hSd ?_
      rotate_left
      · (intro w hSw; (try dsimp only at hSw); go_simp) <;> (try with_reducible rfl)
      try simp only [Act.put, List.setIfInBounds_toArray, List.set_cons_zero, List.set_cons_succ]
      refine wpAnyL_take 9 (v := ?_) rfl (by kernel_rfl) (by kernel_rfl) (by kernel_rfl) (by kernel_rfl) (fun _ _ _ h => h) (Or.inl ⟨by rfl, ?_⟩) hSd ?_
      rotate_left
      · (intro w hSw; (try dsimp only at hSw); go_simp) <;> (try with_reducible rfl)
      try simp only [Act.put, List.setIfInBounds_toArray, List.set_cons_zero, List.set_cons_succ]
      refine wpAnyL_one 10 (by kernel_rfl) rfl (fun K hK => ?_)
      go_simp
      refine hK.out _ _ (fun _ => hS1) ?_
      clear hK K
      try simp only [Act.put, List.setIfInBounds_toArray, List.set_cons_zero, List.set_cons_succ]
      refine wpAnyL_one 11 (by kernel_rfl) rfl (fun K hK => ?_)
      refine step_append_run (by rfl) (.tmp 35) (.tmp 38) 61 (by rfl) (by rfl) (by rfl) Hr.out ?_
      refine hK.out _ _ (fun _ => hS2) ?_
      clear hK K
      try simp only [Act.put, List.setIfInBounds_toArray, List.set_cons_zero, List.set_cons_succ]
      refine wpAnyL_take 12 (v := ?_) rfl (by kernel_rfl) (by kernel_rfl) (by kernel_rfl) (by kernel_rfl) (fun _ _ _ h => h) (Or.inl ⟨by rfl, ?_⟩) hS2 ?_
      rotate_left
      · (intro w hSw; (try dsimp only at hSw); go_simp) <;> (try with_reducible rfl)
      try simp only [Act.put, List.setIfInBounds_toArray, List.set_cons_zero, List.set_cons_succ]
      refine wpAnyL_one 13 (by kernel_rfl) rfl (fun K hK => ?_)
      go_simp
      refine hK.out _ _ (fun h => absurd h (not_rem (by kernel_rfl))) ?_
      clear hK K
      try simp only [Act.put, List.setIfInBounds_toArray, List.set_cons_zero, List.set_cons_succ]
      refine wpAnyL_done (by kernel_rfl) ?_ _
      go_wp2
      go_roundg (n - (k + 1))
      case measure => omega
      case rel => exact ⟨k + 1, by go_num, by omega, HN, HB⟩
    · obtain rfl : n = k := by omega
      clear hk hlt
      have HTx := Lib.hid (show New (OTab 3 61) w1.heap.size wr (.slice (some ⟨w1.heap.size, 0, none⟩) p p) (nxt p xs) from by have h := hnew.out; rw [List.take_of_length_le (by have := Hn.out; omega)] at h; exact h)
      have Hlv := Lib.hid (lively_c HTx.out.tab (nxt_len p xs) (nxt_in Ho.out) hp0 (by omega))
      rw [HLV'.out] at Hlv
      clear hnew HTx HLV'
      go_wp2_with fail
      refine Hlv.out.mono ?_
      rintro e w3 ⟨bv, rfl, hn3, hb3⟩
      obtain ⟨bb, bc, hbv, _, hbl, hBl⟩ := hn3.bl (by rw [Hbl.out]; exact hp0)
      rw [Hbl.out] at hbv
      subst hbv
      have hbb : bb < w3.heap.size := hBl.1
      have Hbx := Lib.hid (fun i x (hi : bs[i]? = some x) => (hBl.2 i x hi).1)
      have A3 := Lib.hid (A1.out.trans ((hbel.out.mono A1.out.size).trans (hb3.mono (Nat.le_trans A1.out.size hbel.out.size))))
      have hz3 : w1.heap.size ≤ w3.heap.size := Nat.le_trans hbel.out.size hb3.size
      have B3 := Lib.hid (hbel.out.trans (hb3.mono hbel.out.size))
      have l0 := (B3.out.cell (p := ⟨w.heap.size, 0, none⟩) h0w).trans l0
      have l1 := (B3.out.cell (p := ⟨w.heap.size, 1, none⟩) h0w).trans l1
      have l2 := (B3.out.cell (p := ⟨w.heap.size, 2, none⟩) h0w).trans l2
      have h1w3 : w.heap.size + 1 < w3.heap.size := by omega
      have h0w3 : w.heap.size < w3.heap.size := by omega
      replace R0 := Lib.hid ((B3.out.cell (p := ⟨w.heap.size + 1, 0, none⟩) h1w).trans R0.out)
      replace F0 := Lib.hid ((B3.out.frozen (p := ⟨w.heap.size + 1, 0, none⟩) h1w).trans F0.out)
      replace R1 := Lib.hid ((B3.out.cell (p := ⟨w.heap.size + 1, 1, none⟩) h1w).trans R1.out)
      replace F1 := Lib.hid ((B3.out.frozen (p := ⟨w.heap.size + 1, 1, none⟩) h1w).trans F1.out)
      replace R2 := Lib.hid ((B3.out.cell (p := ⟨w.heap.size + 1, 2, none⟩) h1w).trans R2.out)
      replace F2 := Lib.hid ((B3.out.frozen (p := ⟨w.heap.size + 1, 2, none⟩) h1w).trans F2.out)
      clear hn3 hb3 hbel Hlv hBl
      go_wp2_with (first
        | (at_make; refine wpl_make (R := OIntR) rfl (.tmp 45) (.tmp 45) 61 rfl 3 (.int .i64 0) 8 Tryz.underlying61 infoI rfl p (by rfl) (by rfl) (by omega) (by omega) OIntR.zero' ?_; intro wm hzm hnm hbm; have Hnm := Lib.hid hnm; have Hbm := Lib.hid hbm; have l0 := (hbm.cell (p := ⟨w.heap.size, 0, none⟩) h0w3).trans l0; clear hnm hbm)
        | fail)
      obtain ⟨wB, eB, hbB, o0, o1, o2, mB⟩ := boxA3_ex wm 26 (.int .i64 L) (.int .i64 0) (.slice none 0 0)
      have f1 : wB.frozen? ⟨wm.heap.size, 1, none⟩ = false := by rw [← eB]; simp [go_sem]
      have f2 : wB.frozen? ⟨wm.heap.size, 2, none⟩ = false := by rw [← eB]; simp [go_sem]
      rw [hzm] at o0 o1 o2 f1 f2 mB
      rw [eB]
      have HC0 := Lib.hid (show CellsI wB w3.heap.size p (nf bs 0) from by
        obtain ⟨b', c', hv, _, _, hlt, hc⟩ := Hnm.out.cellsI (by simp; exact hp0)
        have hv1 := congrArg Value.ownBlock hv
        simp only [Value.ownBlock, Option.some.injEq] at hv1
        have e : b' = w3.heap.size := hv1.symm
        subst e
        rw [List.length_replicate] at hc
        exact (hc.congr (fun j hj => by simp [nf, List.getD, hj])).keep hbB hlt)
      have HB0 := Lib.hid (show Below w3.heap.size w3 wB from Hbm.out.trans (hbB.mono (by omega)))
      have O1 := Lib.hid (show wB.cell? ⟨w3.heap.size + 1, 1, none⟩ = some (.int .i64 (nm bs 0 : Int)) from by rw [nm_zero]; exact o1)
      have LL2 := Lib.hid l2
      clear Hnm Hbm hbB eB hzm l0 l1 l2 o1
      go_loopg [52] p (fun g i wr => ∃ (k : Nat), i = .int .i64 k ∧ k + g = p ∧ Hid (CellsI wr (w3.heap.size) p (nf bs k)) ∧ wr.cell? ⟨w3.heap.size + 1, 0, none⟩ = some (.int .i64 L) ∧ wr.cell? ⟨w3.heap.size + 1, 1, none⟩ = some (.int .i64 (nm bs k : Int)) ∧ wr.cell? ⟨w3.heap.size + 1, 2, none⟩ = some (.slice none 0 0) ∧ wr.frozen? ⟨w3.heap.size + 1, 1, none⟩ = false ∧ wr.frozen? ⟨w3.heap.size + 1, 2, none⟩ = false ∧ w3.heap.size + 1 < wr.heap.size ∧ Hid (Below (w3.heap.size) w3 wr))
      case atStart => exact ⟨0, rfl, by omega, HC0, o0, O1.out, o2, f1, f2, mB, HB0⟩
      case round =>
        obtain ⟨k, rfl, hk, hc, o0, o1, o2, f1, f2, mB, hbel⟩ := hrel
        clear HC0 HB0 O1
        have hnk : (nm bs k : Int) ≤ 12 := by have := nm_le bs k; have := cntT_le (l := bs); have := Hbl.out; omega
        by_cases hlt : k < p
        · obtain ⟨d, hd, _⟩ := at_lt (xs := bs) (k := k) (by have := Hbl.out; omega)
          have hbd := (hbel.out.cell (p := ⟨bb, k, none⟩) hbb).trans (Hbx.out k d hd)
          have hkp : (k : Int) < (p : Int) := by omega
          cases d with
          | false =>
            have HN := Lib.hid (show CellsI wr (w3.heap.size) p (nf bs (k + 1)) from hc.out.congr fun j _ => (nf_skip hd j).symm)
            have O1 := Lib.hid (show wr.cell? ⟨w3.heap.size + 1, 1, none⟩ = some (.int .i64 (nm bs (k + 1) : Int)) from by rw [nm_succ hd]; simpa using o1)
            clear hc hd
            go_wp2
            go_roundg (p - (k + 1))
            case measure => omega
            case rel => exact ⟨k + 1, by go_num, by omega, HN, o0, O1.out, o2, f1, f2, mB, hbel⟩
          | true =>
            obtain ⟨n1, n2⟩ := hc.out k hlt
            have HN := Lib.hid (show CellsI ((wr.setCell ⟨w3.heap.size, k, none⟩ (.int .i64 (nm bs k))).setCell ⟨w3.heap.size + 1, 1, none⟩ (.int .i64 ((nm bs k : Int) + 1))) (w3.heap.size) p (nf bs (k + 1)) from
              ((hc.out.set hlt (nm bs k : Int)).congr fun j _ => nf_take hd j).other (by simp) _)
            have o1' := (World.cell?_setCell_other wr ⟨w3.heap.size, k, none⟩ ⟨w3.heap.size + 1, 1, none⟩ (.int .i64 (nm bs k)) (by simp)).trans o1
            have O1 := Lib.hid (show ((wr.setCell ⟨w3.heap.size, k, none⟩ (.int .i64 (nm bs k))).setCell ⟨w3.heap.size + 1, 1, none⟩ (.int .i64 ((nm bs k : Int) + 1))).cell? ⟨w3.heap.size + 1, 1, none⟩ = some (.int .i64 (nm bs (k + 1) : Int)) from by rw [nm_succ hd]; simpa using World.cell?_setCell_same _ _ (.int .i64 ((nm bs k : Int) + 1)) o1')
            have O0 := Lib.hid ((World.cell?_setCell_other (wr.setCell ⟨w3.heap.size, k, none⟩ (.int .i64 (nm bs k))) ⟨w3.heap.size + 1, 1, none⟩ ⟨w3.heap.size + 1, 0, none⟩ (.int .i64 ((nm bs k : Int) + 1)) (by simp)).trans ((World.cell?_setCell_other wr ⟨w3.heap.size, k, none⟩ ⟨w3.heap.size + 1, 0, none⟩ (.int .i64 (nm bs k)) (by simp)).trans o0))
            have O2 := Lib.hid ((World.cell?_setCell_other (wr.setCell ⟨w3.heap.size, k, none⟩ (.int .i64 (nm bs k))) ⟨w3.heap.size + 1, 1, none⟩ ⟨w3.heap.size + 1, 2, none⟩ (.int .i64 ((nm bs k : Int) + 1)) (by simp)).trans ((World.cell?_setCell_other wr ⟨w3.heap.size, k, none⟩ ⟨w3.heap.size + 1, 2, none⟩ (.int .i64 (nm bs k)) (by simp)).trans o2))
            have FF1 := Lib.hid (show ((wr.setCell ⟨w3.heap.size, k, none⟩ (.int .i64 (nm bs k))).setCell ⟨w3.heap.size + 1, 1, none⟩ (.int .i64 ((nm bs k : Int) + 1))).frozen? ⟨w3.heap.size + 1, 1, none⟩ = false from by rw [World.frozen?_setCell, World.frozen?_setCell]; exact f1)
            have FF2 := Lib.hid (show ((wr.setCell ⟨w3.heap.size, k, none⟩ (.int .i64 (nm bs k))).setCell ⟨w3.heap.size + 1, 1, none⟩ (.int .i64 ((nm bs k : Int) + 1))).frozen? ⟨w3.heap.size + 1, 2, none⟩ = false from by rw [World.frozen?_setCell, World.frozen?_setCell]; exact f2)
            have HB := Lib.hid ((hbel.out.setCell (p := ⟨w3.heap.size, k, none⟩) (Nat.le_refl _) (.int .i64 (nm bs k))).setCell (p := ⟨w3.heap.size + 1, 1, none⟩) (by simp) (.int .i64 ((nm bs k : Int) + 1)))
            have MB := Lib.hid mB
            have hq0 : (0 : Int) ≤ (nm bs k : Int) := Int.natCast_nonneg _
            generalize hq : (nm bs k : Int) = q at *
            clear hc hd hq hbel
            go_wp2
            go_roundg (p - (k + 1))
            case measure => omega
            case rel => exact ⟨k + 1, by go_num, by omega, HN, O0.out, O1.out, O2.out, FF1.out, FF2.out, by simp; exact MB.out, HB⟩
        · obtain rfl : k = p := by omega
          clear hk hlt
          have HCn := Lib.hid (show nm bs k = cntT bs from by have := nm_all bs; rw [Hbl.out] at this; exact this)
          rw [HCn.out] at o1 hnk
          generalize hct : cntT bs = ct at *
          have Hct := Lib.hid hct
          have HN0 := Lib.hid (show New (RowA 68) (w3.heap.size + 1 + 1) wr (.slice none 0 0) (trimA bs (xs.take 0)) from RowG.nil)
          clear hct HCn
          by_cases h0 : ct = 0
          · have HF := Lib.hid (show ok = false from by rw [HO2.out, h0]; rfl)
            have HW := Lib.hid (show V = (0, 0, []) from by rw [HV.out, HF.out]; rfl)
            have r0 := (hbel.out.cell (p := ⟨w.heap.size + 1, 0, none⟩) h1w3).trans R0.out
            have t0 := (hbel.out.frozen (p := ⟨w.heap.size + 1, 0, none⟩) h1w3).trans F0.out
            have r1 := (hbel.out.cell (p := ⟨w.heap.size + 1, 1, none⟩) h1w3).trans R1.out
            have t1 := (hbel.out.frozen (p := ⟨w.heap.size + 1, 1, none⟩) h1w3).trans F1.out
            have r2 := (hbel.out.cell (p := ⟨w.heap.size + 1, 2, none⟩) h1w3).trans R2.out
            have t2 := (hbel.out.frozen (p := ⟨w.heap.size + 1, 2, none⟩) h1w3).trans F2.out
            have Az := Lib.hid (A3.out.trans (hbel.out.mono A3.out.size))
            have t0' : (ct == 0) = true := by simp [h0]
            have t1' : ((ct : Int) == (0 : Int)) = true := by simp [h0]
            clear HV HO2 hc hnk HN0 hbel hcell
            go_wp2
            have s0 := World.cell?_setCell_same wr _ (.int .i64 0) r0
            have u1 := (World.cell?_setCell_other _ ⟨w.heap.size + 1, 0, none⟩ _ (.int .i64 0) (by simp)).trans r1
            have s1 := World.cell?_setCell_same _ _ (.int .i64 0) u1
            have u2 := (World.cell?_setCell_other _ ⟨w.heap.size + 1, 1, none⟩ _ (.int .i64 0) (by simp)).trans ((World.cell?_setCell_other _ ⟨w.heap.size + 1, 0, none⟩ _ (.int .i64 0) (by simp)).trans r2)
            have s2 := World.cell?_setCell_same _ _ (.slice none 0 0) u2
            refine bodyPost_ret (v := .tuple #[.agg #[.int .i64 0, .int .i64 0, .slice none 0 0], .bool false]) (by simp [results, Tryz.results9, go_sem, s0, s1, s2]) rfl ?_
            exact ⟨_, by rw [HF.out], by rw [HW.out]; exact New.lab0, (((Az.out.setCell (p := ⟨w.heap.size + 1, 0, none⟩) (by simp) _).setCell (p := ⟨w.heap.size + 1, 1, none⟩) (by simp) _).setCell (p := ⟨w.heap.size + 1, 2, none⟩) (by simp) _)⟩
          have HF := Lib.hid (show ok = true from by rw [HO2.out]; exact decide_eq_true h0)
          have HW := Lib.hid (show V = keepV (L, (k : Int), xs) bs from by rw [HV.out, HF.out]; rfl)
          have t0' : ((ct : Int) == (0 : Int)) = false := by simp; exact h0
          have t1' : (ct == 0) = false := by simp; exact h0
          have l2 := (hbel.out.cell (p := ⟨w.heap.size, 2, none⟩) h0w3).trans LL2.out
          clear HV HO2
          go_wp2
          go_loopg [75] n (fun g i wr => ∃ (j : Nat) (ya : Option Addr) (yn yc : Nat), i = .int .i64 j ∧ j + g = n ∧ Hid (CellsI wr (w3.heap.size) k (nf bs k)) ∧ wr.cell? ⟨w3.heap.size + 1, 0, none⟩ = some (.int .i64 L) ∧ wr.cell? ⟨w3.heap.size + 1, 1, none⟩ = some (.int .i64 (ct : Int)) ∧ wr.cell? ⟨w3.heap.size + 1, 2, none⟩ = some (.slice ya yn yc) ∧ wr.frozen? ⟨w3.heap.size + 1, 2, none⟩ = false ∧ w3.heap.size + 1 < wr.heap.size ∧ Hid (New (RowA 68) (w3.heap.size + 1 + 1) wr (.slice ya yn yc) (trimA bs (xs.take j))) ∧ Hid (Below (w3.heap.size) w3 wr))
          case atStart => exact ⟨0, none, 0, 0, rfl, by omega, hc, o0, o1, o2, f2, mB, HN0, hbel⟩
          case round =>
            clear hc o0 o1 o2 f1 f2 mB HN0 hbel
            obtain ⟨j, ya, yn, yc, rfl, hj, hc, o0, o1, o2, f2, mB, hnew, hbel⟩ := hrel
            obtain ⟨wk, rfl⟩ : ∃ x, x = wr := ⟨_, rfl⟩
            by_cases hltj : j < n
            · obtain ⟨x, hx, _⟩ := at_lt (xs := xs) (k := j) (by have := Hn.out; omega)
              have HT := Lib.hid (show xs.take (j + 1) = xs.take j ++ [x] from (take_snoc' hx).symm)
              obtain ⟨b, o, rfl, hb, hx0⟩ := hcell (by omega)
              obtain ⟨g0, g1, g2⟩ := hx0 j x hx
              obtain ⟨i0, i1, i2, i3⟩ := okArcs_at Ho.out hx
              clear hx0 hx hcell
              obtain ⟨x0, x1, x2⟩ := x
              simp only at g0 g1 g2 i0 i1 i2 i3
              obtain ⟨p0, rfl⟩ := Int.eq_ofNat_of_zero_le i0
              obtain ⟨p1, rfl⟩ := Int.eq_ofNat_of_zero_le i2
              have hq0 : p0 < k := by omega
              have hq1 : p1 < k := by omega
              have hk0 : (p0 : Int) < (k : Int) := by omega
              have hk1 : (p1 : Int) < (k : Int) := by omega
              have hkn : (j : Int) < (n : Int) := by omega
              have up : ∀ (o : Nat) (b' : Nat) u, b' < w.heap.size → w.cell? ⟨b', o, none⟩ = some u → wk.cell? ⟨b', o, none⟩ = some u := fun o b' u hb' hu => (hbel.out.cell (p := ⟨b', o, none⟩) (show b' < w3.heap.size from Nat.lt_of_lt_of_le hb' A3.out.size)).trans ((A3.out.cell (p := ⟨b', o, none⟩) hb').trans hu)
              replace g0 := up _ _ _ hb g0
              replace g1 := up _ _ _ hb g1
              replace g2 := up _ _ _ hb g2
              obtain ⟨d0, hd0, _⟩ := at_lt (xs := bs) (k := p0) (by have := Hbl.out; omega)
              obtain ⟨d1, hd1, _⟩ := at_lt (xs := bs) (k := p1) (by have := Hbl.out; omega)
              have e0 := (hbel.out.cell (p := ⟨bb, p0, none⟩) hbb).trans (Hbx.out p0 d0 hd0)
              have e1 := (hbel.out.cell (p := ⟨bb, p1, none⟩) hbb).trans (Hbx.out p1 d1 hd1)
              have HK := Lib.hid (show kept bs ((p0 : Int), (p1 : Int), x2) = (d0 && d1) from by unfold kept; simp [List.getD, hd0, hd1])
              have hKn := trimA_snoc bs (xs.take j) ((p0 : Int), (p1 : Int), x2)
              rw [← HT.out, HK.out] at hKn
              have HKn := Lib.hid hKn
              obtain ⟨n0, n0f⟩ := hc.out p0 hq0
              obtain ⟨n1, n1f⟩ := hc.out p1 hq1
              have HR := Lib.hid (fun (h0 : d0 = true) (h1 : d1 = true) => (show renA bs ((p0 : Int), (p1 : Int), x2) = (nf bs k p0, nf bs k p1, x2) from by
                subst h0 h1
                unfold renA
                rw [← Hbl.out, nf_end hd0, nf_end hd1]; rfl))
              clear up HT hKn HK hd0 hd1
              obtain ⟨w1, ex, hb1, q0, q1, q2, m1⟩ := boxA3_ex wk 68 (.int .i64 p0) (.int .i64 p1) (.int .i64 x2)
              have hz1 := hb1.size
              have hzb := hbel.out.size
              have bbk : bb < wk.heap.size := by omega
              replace e0 := (hb1.cell (p := ⟨bb, p0, none⟩) bbk).trans e0
              replace e1 := (hb1.cell (p := ⟨bb, p1, none⟩) bbk).trans e1
              replace o0 := (hb1.cell (p := ⟨w3.heap.size + 1, 0, none⟩) mB).trans o0
              replace o1 := (hb1.cell (p := ⟨w3.heap.size + 1, 1, none⟩) mB).trans o1
              replace o2 := (hb1.cell (p := ⟨w3.heap.size + 1, 2, none⟩) mB).trans o2
              replace f2 := (hb1.frozen (p := ⟨w3.heap.size + 1, 2, none⟩) mB).trans f2
              have mN : w3.heap.size < wk.heap.size := by omega
              replace n0 := (hb1.cell (p := ⟨w3.heap.size, p0, none⟩) mN).trans n0
              replace n1 := (hb1.cell (p := ⟨w3.heap.size, p1, none⟩) mN).trans n1
              replace hc := Lib.hid (hc.out.keep hb1 mN)
              have HAF := Lib.hid (show wk.heap.size ∉ (Value.slice ya yn yc).ownBlock.toList from by
                obtain ⟨F, hF, _⟩ := hnew.out
                intro hm
                have h1 := RowG.held.lt _ _ _ _ hF wk.heap.size (by rw [hF.2]; exact hm)
                omega)
              replace hnew := Lib.hid (((hnew.out.inn RowG.held).keep RowG.held hb1 (Nat.le_refl _)).new)
              have mBk := mB
              replace mB := Nat.lt_of_lt_of_le mB hz1
              have HB1 := Lib.hid (hbel.out.trans (hb1.mono (by omega)))
              by_cases hdd : d0 = true ∧ d1 = true
              · obtain ⟨rfl, rfl⟩ := hdd
                obtain ⟨Y0, hY0⟩ : ∃ y, y = nf bs k p0 := ⟨_, rfl⟩
                obtain ⟨Y1, hY1⟩ : ∃ y, y = nf bs k p1 := ⟨_, rfl⟩
                have HN := Lib.hid (show trimA bs (xs.take (j + 1)) = trimA bs (xs.take j) ++ [(Y0, Y1, x2)] from by rw [HKn.out, if_pos (by rfl), HR.out rfl rfl, hY0, hY1])
                rw [← hY0] at n0
                rw [← hY1] at n1
                have hl1 := Lib.hid (show (trimA bs (xs.take j)).length ≤ 768 from Nat.le_trans (trimA_len bs (xs.take j)) (by rw [List.length_take]; omega))
                have HP := Lib.hid (show ∀ W : World, Below w1.heap.size w1 W → W.cell? ⟨w1.heap.size, 0, none⟩ = some (.int .i64 Y0) → W.cell? ⟨w1.heap.size, 1, none⟩ = some (.int .i64 Y1) → W.cell? ⟨w1.heap.size, 2, none⟩ = some (.int .i64 x2) →
                    ∃ a' n' c' w2, (Builtin.append_ #[24, 24] 24 #[.slice ya yn yc, .slice (some ⟨w1.heap.size, 0, none⟩) 1 1]).run Tryz.prog W = .ok (.slice a' n' c') w2 ∧ w2.cell? ⟨w3.heap.size + 1, 2, none⟩ = some (.slice ya yn yc) ∧ w2.frozen? ⟨w3.heap.size + 1, 2, none⟩ = false ∧ (w2.cell? ⟨wk.heap.size, 0, none⟩ = some (.int .i64 p0) ∧ w2.cell? ⟨wk.heap.size, 1, none⟩ = some (.int .i64 p1) ∧ w2.cell? ⟨wk.heap.size, 2, none⟩ = some (.int .i64 x2) ∧ w2.cell? ⟨w3.heap.size, p0, none⟩ = some (.int .i64 Y0) ∧ w2.cell? ⟨w3.heap.size, p1, none⟩ = some (.int .i64 Y1) ∧ w2.cell? ⟨w3.heap.size + 1, 2, none⟩ = some (.slice ya yn yc)) ∧
                      Hid (CellsI (w2.setCell ⟨w3.heap.size + 1, 2, none⟩ (.slice a' n' c')) (w3.heap.size) k (nf bs k) ∧ (w2.setCell ⟨w3.heap.size + 1, 2, none⟩ (.slice a' n' c')).cell? ⟨w3.heap.size + 1, 0, none⟩ = some (.int .i64 L) ∧ (w2.setCell ⟨w3.heap.size + 1, 2, none⟩ (.slice a' n' c')).cell? ⟨w3.heap.size + 1, 1, none⟩ = some (.int .i64 (ct : Int)) ∧ (w2.setCell ⟨w3.heap.size + 1, 2, none⟩ (.slice a' n' c')).cell? ⟨w3.heap.size + 1, 2, none⟩ = some (.slice a' n' c') ∧ (w2.setCell ⟨w3.heap.size + 1, 2, none⟩ (.slice a' n' c')).frozen? ⟨w3.heap.size + 1, 2, none⟩ = false ∧ w3.heap.size + 1 < (w2.setCell ⟨w3.heap.size + 1, 2, none⟩ (.slice a' n' c')).heap.size ∧
                        New (RowA 68) (w3.heap.size + 1 + 1) (w2.setCell ⟨w3.heap.size + 1, 2, none⟩ (.slice a' n' c')) (.slice a' n' c') (trimA bs (xs.take (j + 1))) ∧ Below (w3.heap.size) w3 (w2.setCell ⟨w3.heap.size + 1, 2, none⟩ (.slice a' n' c'))) from by
                  intro W hW k0 k1 k2
                  have hWz := hW.size
                  have hnW := ((hnew.out.inn RowG.held).keep RowG.held hW (Nat.le_refl _)).new
                  obtain ⟨a', n', c', w2, hr, hn2, hb2, hk2⟩ := New.rowRun (P := Tryz.prog) acell_lay 24 24 (.agg #[.int .i64 0, .int .i64 0, .int .i64 0]) 24 Tryz.underlying24 infoA rfl hnW (by omega) (Y0, Y1, x2) 1
                    (by
                      intro i u hu
                      match i, hu with
                      | 0, hu => simp [acell] at hu; subst hu; exact k0
                      | 1, hu => simp [acell] at hu; subst hu; exact k1
                      | 2, hu => simp [acell] at hu; subst hu; exact k2) (by have := hl1.out; omega) (by have := hl1.out; omega)
                  have lw : w3.heap.size + 1 < w3.heap.size + 1 + 1 := by omega
                  have j0 := (hb2.cell (p := ⟨w3.heap.size + 1, 0, none⟩) lw).trans ((hW.cell (p := ⟨w3.heap.size + 1, 0, none⟩) mB).trans o0)
                  have j1 := (hb2.cell (p := ⟨w3.heap.size + 1, 1, none⟩) lw).trans ((hW.cell (p := ⟨w3.heap.size + 1, 1, none⟩) mB).trans o1)
                  have j2 := (hb2.cell (p := ⟨w3.heap.size + 1, 2, none⟩) lw).trans ((hW.cell (p := ⟨w3.heap.size + 1, 2, none⟩) mB).trans o2)
                  have jf := (hb2.frozen (p := ⟨w3.heap.size + 1, 2, none⟩) lw).trans ((hW.frozen (p := ⟨w3.heap.size + 1, 2, none⟩) mB).trans f2)
                  have hz2 := hb2.size
                  rw [HN.out]
                  have hA2 : ∀ (o : Nat) u, w1.cell? ⟨wk.heap.size, o, none⟩ = some u → w2.cell? ⟨wk.heap.size, o, none⟩ = some u := fun o u hu => by
                    have h1 := hk2 wk.heap.size (Nat.lt_of_lt_of_le m1 hWz) HAF.out
                    rw [← hu, ← hW.cell (p := ⟨wk.heap.size, o, none⟩) m1]
                    simp only [World.cell?, h1]
                  have hN2 : ∀ (o : Nat) u, w1.cell? ⟨w3.heap.size, o, none⟩ = some u → w2.cell? ⟨w3.heap.size, o, none⟩ = some u := fun o u hu => (hb2.cell (p := ⟨w3.heap.size, o, none⟩) (show w3.heap.size < w3.heap.size + 1 + 1 by omega)).trans ((hW.cell (p := ⟨w3.heap.size, o, none⟩) (show w3.heap.size < w1.heap.size by omega)).trans hu)
                  refine ⟨a', n', c', w2, hr, j2, jf, ⟨hA2 _ _ q0, hA2 _ _ q1, hA2 _ _ q2, hN2 _ _ n0, hN2 _ _ n1, j2⟩, Lib.hid ⟨((hc.out.keep hW (by omega)).keep hb2 (by omega)).other (by simp) _, (World.cell?_setCell_other _ _ _ _ (by simp)).trans j0, (World.cell?_setCell_other _ _ _ _ (by simp)).trans j1, World.cell?_setCell_same _ _ _ j2, (World.frozen?_setCell _ _ _ _).trans jf, by simp; omega, ?_, ?_⟩⟩
                  · exact New.storeLow RowG.held hn2 (by simp) _
                  · exact ((HB1.out.trans (hW.mono (by omega))).trans (hb2.mono (by omega))).setCell (by simp) _)
                have K0 : ((w1.alloc (.cells #[.int .i64 Y0, .int .i64 Y1, .int .i64 x2] 68)).drew).cell? ⟨w1.heap.size, 0, none⟩ = some (.int .i64 Y0) := by simp [go_sem]
                have K1 : ((w1.alloc (.cells #[.int .i64 Y0, .int .i64 Y1, .int .i64 x2] 68)).drew).cell? ⟨w1.heap.size, 1, none⟩ = some (.int .i64 Y1) := by simp [go_sem]
                have K2 : ((w1.alloc (.cells #[.int .i64 Y0, .int .i64 Y1, .int .i64 x2] 68)).drew).cell? ⟨w1.heap.size, 2, none⟩ = some (.int .i64 x2) := by simp [go_sem]
                obtain ⟨a', n', c', w2, hr, hc2, hf2, hS2, hst⟩ := HP.out ((w1.alloc (.cells #[.int .i64 Y0, .int .i64 Y1, .int .i64 x2] 68)).drew) (((Below.refl _ _).alloc (Nat.le_refl _) _).drew) K0 K1 K2
                have Hr := Lib.hid hr
                have hSd : w1.drew.cell? ⟨wk.heap.size, 0, none⟩ = some (.int .i64 p0) ∧ w1.drew.cell? ⟨wk.heap.size, 1, none⟩ = some (.int .i64 p1) ∧ w1.drew.cell? ⟨wk.heap.size, 2, none⟩ = some (.int .i64 x2) ∧ w1.drew.cell? ⟨w3.heap.size, p0, none⟩ = some (.int .i64 Y0) ∧ w1.drew.cell? ⟨w3.heap.size, p1, none⟩ = some (.int .i64 Y1) ∧ w1.drew.cell? ⟨w3.heap.size + 1, 2, none⟩ = some (.slice ya yn yc) := ⟨q0, q1, q2, n0, n1, o2⟩
                have hS1 : ((w1.alloc (.cells #[.int .i64 Y0, .int .i64 Y1, .int .i64 x2] 68)).drew).cell? ⟨wk.heap.size, 0, none⟩ = some (.int .i64 p0) ∧ ((w1.alloc (.cells #[.int .i64 Y0, .int .i64 Y1, .int .i64 x2] 68)).drew).cell? ⟨wk.heap.size, 1, none⟩ = some (.int .i64 p1) ∧ ((w1.alloc (.cells #[.int .i64 Y0, .int .i64 Y1, .int .i64 x2] 68)).drew).cell? ⟨wk.heap.size, 2, none⟩ = some (.int .i64 x2) ∧ ((w1.alloc (.cells #[.int .i64 Y0, .int .i64 Y1, .int .i64 x2] 68)).drew).cell? ⟨w3.heap.size, p0, none⟩ = some (.int .i64 Y0) ∧ ((w1.alloc (.cells #[.int .i64 Y0, .int .i64 Y1, .int .i64 x2] 68)).drew).cell? ⟨w3.heap.size, p1, none⟩ = some (.int .i64 Y1) ∧ ((w1.alloc (.cells #[.int .i64 Y0, .int .i64 Y1, .int .i64 x2] 68)).drew).cell? ⟨w3.heap.size + 1, 2, none⟩ = some (.slice ya yn yc) := by
                  have hb3 := (((Below.refl w1.heap.size w1).alloc (Nat.le_refl _) (.cells #[.int .i64 Y0, .int .i64 Y1, .int .i64 x2] 68)).drew)
                  exact ⟨(hb3.cell (p := ⟨wk.heap.size, 0, none⟩) m1).trans q0, (hb3.cell (p := ⟨wk.heap.size, 1, none⟩) m1).trans q1, (hb3.cell (p := ⟨wk.heap.size, 2, none⟩) m1).trans q2, (hb3.cell (p := ⟨w3.heap.size, p0, none⟩) (show w3.heap.size < w1.heap.size by omega)).trans n0, (hb3.cell (p := ⟨w3.heap.size, p1, none⟩) (show w3.heap.size < w1.heap.size by omega)).trans n1, (hb3.cell (p := ⟨w3.heap.size + 1, 2, none⟩) mB).trans o2⟩
                clear HKn HR hnew hbel hb1 HN hY0 hY1 hc HB1 K0 K1 K2 HP hr HAF
                go_wp2
                clear ex
                refine wp_region_L (fun w' => w'.cell? ⟨wk.heap.size, 0, none⟩ = some (.int .i64 p0) ∧ w'.cell? ⟨wk.heap.size, 1, none⟩ = some (.int .i64 p1) ∧ w'.cell? ⟨wk.heap.size, 2, none⟩ = some (.int .i64 x2) ∧ w'.cell? ⟨w3.heap.size, p0, none⟩ = some (.int .i64 Y0) ∧ w'.cell? ⟨w3.heap.size, p1, none⟩ = some (.int .i64 Y1) ∧ w'.cell? ⟨w3.heap.size + 1, 2, none⟩ = some (.slice ya yn yc)) (by kernel_rfl) ?_
                refine wpAnyL_take 0 (v := ?_) rfl (by kernel_rfl) (by kernel_rfl) (by kernel_rfl) (by kernel_rfl) (fun _ _ _ h => h) (Or.inl ⟨by rfl, ?_⟩) hSd ?_
                rotate_left
                · (intro w hSw; (try dsimp only at hSw); go_simp) <;> (try with_reducible rfl)
                try simp only [Act.put, List.setIfInBounds_toArray, List.set_cons_zero, List.set_cons_succ]
                refine wpAnyL_take 1 (v := ?_) rfl (by kernel_rfl) (by kernel_rfl) (by kernel_rfl) (by kernel_rfl) (fun _ _ _ h => h) (Or.inl ⟨by rfl, ?_⟩) hSd ?_
                rotate_left
                · (intro w hSw; (try dsimp only at hSw); go_simp) <;> (try with_reducible rfl)
                try simp only [Act.put, List.setIfInBounds_toArray, List.set_cons_zero, List.set_cons_succ]
                refine wpAnyL_take 2 (v := ?_) rfl (by kernel_rfl) (by kernel_rfl) (by kernel_rfl) (by kernel_rfl) (fun _ _ _ h => h) (Or.inl ⟨by rfl, ?_⟩) hSd ?_
                rotate_left
                · (intro w hSw; (try dsimp only at hSw); go_simp) <;> (try with_reducible rfl)
                try simp only [Act.put, List.setIfInBounds_toArray, List.set_cons_zero, List.set_cons_succ]
                refine wpAnyL_take 3 (v := ?_) rfl (by kernel_rfl) (by kernel_rfl) (by kernel_rfl) (by kernel_rfl) (fun _ _ _ h => h) (Or.inl ⟨by rfl, ?_⟩) hSd ?_
                rotate_left
                · (intro w hSw; (try dsimp only at hSw); go_simp) <;> (try with_reducible rfl)
                try simp only [Act.put, List.setIfInBounds_toArray, List.set_cons_zero, List.set_cons_succ]
                refine wpAnyL_take 4 (v := ?_) rfl (by kernel_rfl) (by kernel_rfl) (by kernel_rfl) (by kernel_rfl) (fun _ _ _ h => h) (Or.inl ⟨by rfl, ?_⟩) hSd ?_
                rotate_left
                · (intro w hSw; (try dsimp only at hSw); go_simp) <;> (try with_reducible rfl)
                try simp only [Act.put, List.setIfInBounds_toArray, List.set_cons_zero, List.set_cons_succ]
                refine wpAnyL_take 5 (v := ?_) rfl (by kernel_rfl) (by kernel_rfl) (by kernel_rfl) (by kernel_rfl) (fun _ _ _ h => h) (Or.inl ⟨by rfl, ?_⟩) hSd ?_
                rotate_left
                · (intro w hSw; (try dsimp only at hSw); go_simp) <;> (try with_reducible rfl)
                try simp only [Act.put, List.setIfInBounds_toArray, List.set_cons_zero, List.set_cons_succ]
                refine wpAnyL_take 6 (v := ?_) rfl (by kernel_rfl) (by kernel_rfl) (by kernel_rfl) (by kernel_rfl) (fun _ _ _ h => h) (Or.inl ⟨by rfl, ?_⟩) hSd ?_
                rotate_left
                · (intro w hSw; (try dsimp only at hSw); go_simp) <;> (try with_reducible rfl)
                try simp only [Act.put, List.setIfInBounds_toArray, List.set_cons_zero, List.set_cons_succ]
                refine wpAnyL_take 7 (v := ?_) rfl (by kernel_rfl) (by kernel_rfl) (by kernel_rfl) (by kernel_rfl) (fun _ _ _ h => h) (Or.inl ⟨by rfl, ?_⟩) hSd ?_
                rotate_left
                · (intro w hSw; (try dsimp only at hSw); go_simp) <;> (try with_reducible rfl)
                try simp only [Act.put, List.setIfInBounds_toArray, List.set_cons_zero, List.set_cons_succ]
                refine wpAnyL_take 8 (v := ?_) rfl (by kernel_rfl) (by kernel_rfl) (by kernel_rfl) (by kernel_rfl) (fun _ _ _ h => h) (Or.inl ⟨by rfl, ?_⟩) hSd ?_
                rotate_left
                · (intro w hSw; (try dsimp only at hSw); go_simp) <;> (try with_reducible rfl)
                try simp only [Act.put, List.setIfInBounds_toArray, List.set_cons_zero, List.set_cons_succ]
                refine wpAnyL_take 9 (v := ?_) rfl (by kernel_rfl) (by kernel_rfl) (by kernel_rfl) (by kernel_rfl) (fun _ _ _ h => h) (Or.inl ⟨by rfl, ?_⟩) hSd ?_
                rotate_left
                · (intro w hSw; (try dsimp only at hSw); go_simp) <;> (try with_reducible rfl)
                try simp only [Act.put, List.setIfInBounds_toArray, List.set_cons_zero, List.set_cons_succ]
                refine wpAnyL_take 10 (v := ?_) rfl (by kernel_rfl) (by kernel_rfl) (by kernel_rfl) (by kernel_rfl) (fun _ _ _ h => h) (Or.inl ⟨by rfl, ?_⟩) hSd ?_
                rotate_left
                · (intro w hSw; (try dsimp only at hSw); go_simp) <;> (try with_reducible rfl)
                try simp only [Act.put, List.setIfInBounds_toArray, List.set_cons_zero, List.set_cons_succ]
                refine wpAnyL_take 11 (v := ?_) rfl (by kernel_rfl) (by kernel_rfl) (by kernel_rfl) (by kernel_rfl) (fun _ _ _ h => h) (Or.inl ⟨by rfl, ?_⟩) hSd ?_
                rotate_left
                · (intro w hSw; (try dsimp only at hSw); go_simp) <;> (try with_reducible rfl)
                try simp only [Act.put, List.setIfInBounds_toArray, List.set_cons_zero, List.set_cons_succ]
                refine wpAnyL_take 12 (v := ?_) rfl (by kernel_rfl) (by kernel_rfl) (by kernel_rfl) (by kernel_rfl) (fun _ _ _ h => h) (Or.inl ⟨by rfl, ?_⟩) hSd ?_
                rotate_left
                · (intro w hSw; (try dsimp only at hSw); go_simp) <;> (try with_reducible rfl)
                try simp only [Act.put, List.setIfInBounds_toArray, List.set_cons_zero, List.set_cons_succ]
                refine wpAnyL_take 13 (v := ?_) rfl (by kernel_rfl) (by kernel_rfl) (by kernel_rfl) (by kernel_rfl) (fun _ _ _ h => h) (Or.inl ⟨by rfl, ?_⟩) hSd ?_
                rotate_left
                · (intro w hSw; (try dsimp only at hSw); go_simp) <;> (try with_reducible rfl)
                try simp only [Act.put, List.setIfInBounds_toArray, List.set_cons_zero, List.set_cons_succ]
                refine wpAnyL_take 14 (v := ?_) rfl (by kernel_rfl) (by kernel_rfl) (by kernel_rfl) (by kernel_rfl) (fun _ _ _ h => h) (Or.inl ⟨by rfl, ?_⟩) hSd ?_
                rotate_left
                · (intro w hSw; (try dsimp only at hSw); go_simp) <;> (try with_reducible rfl)
                try simp only [Act.put, List.setIfInBounds_toArray, List.set_cons_zero, List.set_cons_succ]
                refine wpAnyL_one 15 (by kernel_rfl) rfl (fun K hK => ?_)
                go_simp
                refine hK.out _ _ (fun _ => hS1) ?_
                clear hK K
                try simp only [Act.put, List.setIfInBounds_toArray, List.set_cons_zero, List.set_cons_succ]
                refine wpAnyL_one 16 (by kernel_rfl) rfl (fun K hK => ?_)
                refine step_append_run (by rfl) (.tmp 92) (.tmp 106) 24 (by rfl) (by rfl) (by rfl) Hr.out ?_
                refine hK.out _ _ (fun _ => hS2) ?_
                clear hK K
                try simp only [Act.put, List.setIfInBounds_toArray, List.set_cons_zero, List.set_cons_succ]
                refine wpAnyL_take 17 (v := ?_) rfl (by kernel_rfl) (by kernel_rfl) (by kernel_rfl) (by kernel_rfl) (fun _ _ _ h => h) (Or.inl ⟨by rfl, ?_⟩) hS2 ?_
                rotate_left
                · (intro w hSw; (try dsimp only at hSw); go_simp) <;> (try with_reducible rfl)
                try simp only [Act.put, List.setIfInBounds_toArray, List.set_cons_zero, List.set_cons_succ]
                refine wpAnyL_one 18 (by kernel_rfl) rfl (fun K hK => ?_)
                go_simp
                refine hK.out _ _ (fun h => absurd h (not_rem (by kernel_rfl))) ?_
                clear hK K
                try simp only [Act.put, List.setIfInBounds_toArray, List.set_cons_zero, List.set_cons_succ]
                refine wpAnyL_done (by kernel_rfl) ?_ _
                all_goals (
                  go_wp2
                  go_roundg (n - (j + 1))
                  case measure => omega
                  case rel =>
                    obtain ⟨s1, s2, s3, s4, s5, s6, s7, s8⟩ := hst.out
                    exact ⟨j + 1, a', n', c', by go_num, by omega, Lib.hid s1, s2, s3, s4, s5, s6, Lib.hid s7, Lib.hid s8⟩)
              · have HN := Lib.hid (show New (RowA 68) (w3.heap.size + 1 + 1) w1 (.slice ya yn yc) (trimA bs (xs.take (j + 1))) from by rw [HKn.out, if_neg (by simpa using hdd)]; exact hnew.out)
                have MB := Lib.hid mB
                clear HKn HR hnew hbel hb1
                cases d0
                · clear hdd
                  go_wp2
                  go_roundg (n - (j + 1))
                  case measure => omega
                  case rel => exact ⟨j + 1, ya, yn, yc, by go_num, by omega, hc, o0, o1, o2, f2, MB.out, HN, HB1⟩
                · cases d1
                  · clear hdd
                    go_wp2
                    go_roundg (n - (j + 1))
                    case measure => omega
                    case rel => exact ⟨j + 1, ya, yn, yc, by go_num, by omega, hc, o0, o1, o2, f2, MB.out, HN, HB1⟩
                  · exact absurd ⟨rfl, rfl⟩ hdd
            · obtain rfl : j = n := by omega
              have HR := Lib.hid (show New (RowA 68) (w3.heap.size + 1 + 1) wk (.slice ya yn yc) (trimA bs xs) from by have h := hnew.out; rw [List.take_of_length_le (by have := Hn.out; omega)] at h; exact h)
              have r0 := (hbel.out.cell (p := ⟨w.heap.size + 1, 0, none⟩) h1w3).trans R0.out
              have t0 := (hbel.out.frozen (p := ⟨w.heap.size + 1, 0, none⟩) h1w3).trans F0.out
              have r1 := (hbel.out.cell (p := ⟨w.heap.size + 1, 1, none⟩) h1w3).trans R1.out
              have t1 := (hbel.out.frozen (p := ⟨w.heap.size + 1, 1, none⟩) h1w3).trans F1.out
              have r2 := (hbel.out.cell (p := ⟨w.heap.size + 1, 2, none⟩) h1w3).trans R2.out
              have t2 := (hbel.out.frozen (p := ⟨w.heap.size + 1, 2, none⟩) h1w3).trans F2.out
              have HB := Lib.hid (A3.out.trans (hbel.out.mono A3.out.size))
              have hzk := hbel.out.size
              clear hnew hbel hc hcell
              go_wp2
              have s0 := World.cell?_setCell_same wk _ (.int .i64 L) r0
              have u1 := (World.cell?_setCell_other _ ⟨w.heap.size + 1, 0, none⟩ _ (.int .i64 L) (by simp)).trans r1
              have s1 := World.cell?_setCell_same _ _ (.int .i64 (ct : Int)) u1
              have u2 := (World.cell?_setCell_other _ ⟨w.heap.size + 1, 1, none⟩ _ (.int .i64 (ct : Int)) (by simp)).trans ((World.cell?_setCell_other _ ⟨w.heap.size + 1, 0, none⟩ _ (.int .i64 L) (by simp)).trans r2)
              have s2 := World.cell?_setCell_same _ _ (.slice ya yn yc) u2
              refine bodyPost_ret (v := .tuple #[.agg #[.int .i64 L, .int .i64 (ct : Int), .slice ya yn yc], .bool true]) (by simp [results, Tryz.results9, go_sem, s0, s1, s2]) rfl ?_
              refine ⟨_, by rw [HF.out], ?_, (((HB.out.setCell (p := ⟨w.heap.size + 1, 0, none⟩) (by simp) _).setCell (p := ⟨w.heap.size + 1, 1, none⟩) (by simp) _).setCell (p := ⟨w.heap.size + 1, 2, none⟩) (by simp) _)⟩
              have hk := New.storeLow RowG.held (New.storeLow RowG.held (New.storeLow RowG.held HR.out (show w.heap.size + 1 < w3.heap.size + 1 + 1 by omega) (.int .i64 L) (p := ⟨w.heap.size + 1, 0, none⟩)) (show w.heap.size + 1 < w3.heap.size + 1 + 1 by omega) (.int .i64 (ct : Int)) (p := ⟨w.heap.size + 1, 1, none⟩)) (show w.heap.size + 1 < w3.heap.size + 1 + 1 by omega) (.slice ya yn yc) (p := ⟨w.heap.size + 1, 2, none⟩)
              obtain ⟨F, hF, hFn, hFg⟩ := hk
              rw [HW.out]
              exact ⟨F, ⟨_, by unfold keepV; rw [Hct.out], RowG.arcs hF⟩, hFn, fun b hb => by have := hFg b hb; omega⟩
end Go.Proofs.YtcilgihmaaobeaaGreatDoor
end
