/-
  A table without a row and a column: the program's.
-/
import Derived.Test.YtdohepngandajaaPolA
import Derived.Test.YtdohepngandajaaStep
namespace Go.Proofs.Ytdohepngandajaa
open Go.RowKit Go.Deep Go.Sd
set_option linter.unusedSimpArgs false
set_option maxHeartbeats 1000000 in
set_option maxRecDepth 100000 in
theorem without_c {w : World} {va : Value} {m : List (List Int)} {I J n : Nat} (h1 : Tab w va m) (hm : Sq n m) (hI : I < n) (hJ : J < n) (hn : n ≤ 9) :
    Calls Try.prog 228 #[va, .int .i64 I, .int .i64 J] w (Makes (OTab 3 50) w (minorT m I J n)) := by
  have hn0 : 0 < n := by omega
  obtain ⟨ab, ao, ac, rfl, hab, hae⟩ := h1.entAt hm.1 hm.2 hn0
  clear h1 hm
  go_enter Try.func228, Try.ntmps228
  go_wp2
  go_loopg [7, 13] n (fun g v ii wr => ∃ (k : Nat), ii = .int .i64 k ∧ k + g = n ∧ New (OTab 3 50) w.heap.size wr v ((minorT m I J n).take (cnt I k)) ∧ Below w.heap.size w wr)
  case atStart => exact ⟨0, rfl, by omega, by rw [cnt_zero]; exact New.empty w (Nat.le_refl _), (Below.refl _ _).alloc (Nat.le_refl _) _⟩
  case round =>
    obtain ⟨k, rfl, hk, hnew, hbel⟩ := hrel
    have hle := hbel.size
    have hae1 := hae.frame hab hbel
    have hab1 : ab < wr.heap.size := by omega
    obtain ⟨oa, on', oc, rfl⟩ := hnew.slice
    have Hn := Lib.hid hnew
    have Hb := Lib.hid hbel
    have Hlk := Lib.hid (show ((minorT m I J n).take (cnt I k)).length ≤ n from by have := cnt_le I k; rw [List.length_take]; omega)
    clear hnew hbel hae
    by_cases hlt : k < n
    · obtain ⟨rb, ro, rc, hA1, hrb, hIn, hA2⟩ := hae1.at hlt hn0
      by_cases hkI : k = I
      · have t1 : ((k : Int) != (I : Int)) = false := by simp [hkI]
        have Hs := Lib.hid (cnt_same I)
        have HkI := Lib.hid hkI
        clear hkI hae1 hIn hA2
        go_wp2
        go_roundg (n - (k + 1))
        case measure => omega
        case rel => exact ⟨k + 1, by go_num, by omega, by have e := HkI.out; have h := Hn.out; rw [e] at h ⊢; rw [Hs.out]; exact h, Hb.out⟩
      · have t1 : ((k : Int) != (I : Int)) = true := by simp; omega
        have hcap := Ints.capn hIn
        have hcp1 : n ≤ rc := hcap.2.1
        have hcp2 : rc ≤ 9223372036854775807 := hcap.2.2
        have Hp1 := Lib.hid (Ints.part hA2 hrb (s := 0) (len := J) (c := rc) (by omega) (by omega) hcp2)
        have Hp2 := Lib.hid (fun (hr : J + 1 < rc) => Ints.part hA2 hrb (s := J + 1) (len := n - (J + 1)) (c := rc - (J + 1)) (by omega) (by omega) (by omega))
        have Hat := Lib.hid (show (minorT m I J n)[cnt I k]? = some (rowOf' (n - 1) (fun l => ent m k (skip J l))) from by unfold minorT; rw [tabOf_at (cnt_lt hkI hI hlt), skip_cnt hkI])
        have Hcn := Lib.hid (cnt_next hkI)
        have hrb2 := hrb
        have Hsp := Lib.hid (rowOf_split hJ (ent m k))
        clear hkI hIn hcap hA2 hae1
        by_cases hrc : J + 1 < rc
        · have Hp2' := Lib.hid (Hp2.out hrc)
          clear Hp2
          have hne : ¬ rc = J + 1 := by omega
          have hJrc : J ≤ rc := by omega
          have hJi : (J : Int) ≤ (rc : Int) := by omega
          have hw1 : IntKind.i64.wrap ((J : Int) + 1) = (J : Int) + 1 := IntWalk.i64_in _ (by omega)
          have hw2 : (0 : Int) ≤ (J : Int) + 1 := by omega
          have hw3 : (J : Int) + 1 ≤ (n : Int) := by omega
          have hw4 : ((J : Int) + 1).toNat = J + 1 := by omega
          obtain ⟨w1, e1⟩ : ∃ x, x = (wr.alloc (.cells #[] 3)).drew := ⟨_, rfl⟩
          have hb1 : Below wr.heap.size wr w1 := by rw [e1]; exact ((Below.refl wr.heap.size wr).alloc (Nat.le_refl _) _).drew
          have hn1 : New (OwnOf 3 (OValR (Value.int .i64))) wr.heap.size w1 (.slice (some ⟨wr.heap.size, 0, none⟩) 0 0) [] := by rw [e1]; exact New.empty (R := OValR (Value.int .i64)) (lo := wr.heap.size) wr (Nat.le_refl _)
          obtain ⟨v2, w2, hr1, hn2, -, hb2⟩ := run_vals (P := Try.prog) (f := Value.int .i64) (fun _ => rfl) 50 50 3 (.int .i64 0) 8 Try.underlying50 infoI rfl hn1 hb1.size (Ints.frame _ _ _ _ Hp1.out hb1) (by rw [rowOf_len]; simp; omega) (by rw [rowOf_len]; simp; omega)
          obtain ⟨xa, xn, xc, rfl⟩ := hn2.slice
          have hb2' := hb1.trans hb2
          obtain ⟨v3, w3, hr2, hn3, -, hb3⟩ := run_vals (P := Try.prog) (f := Value.int .i64) (fun _ => rfl) 50 50 3 (.int .i64 0) 8 Try.underlying50 infoI rfl hn2 hb2'.size (Ints.frame _ _ _ _ Hp2'.out hb2') (by simp only [List.length_append, rowOf_len, List.length_nil]; omega) (by simp only [List.length_append, rowOf_len, List.length_nil]; omega)
          obtain ⟨ya, yn, yc, rfl⟩ := hn3.slice
          have hb3' := hb2'.trans hb3
          have hn3' : New (OInts 3) wr.heap.size w3 (.slice ya yn yc) (rowOf' (n - 1) (fun l => ent m k (skip J l))) := by rw [← Hsp.out]; exact hn3
          obtain ⟨w4, e4⟩ : ∃ x, x = w3.alloc (.cells #[.slice ya yn yc] 50) := ⟨_, rfl⟩
          obtain ⟨v5, w5, hr3, hn5, -, hb5⟩ := run_push (P := Try.prog) (w := w4) (OInts.kept _) 41 41 50 (.slice none 0 0) 24 Try.underlying41 infoR rfl Hn.out hle (by rw [e4]; exact hb3'.alloc hb3'.size _) (New.keep (OInts.kept _) hn3' (show Below w3.heap.size w3 w4 from by rw [e4]; exact (Below.refl w3.heap.size _).alloc (Nat.le_refl _) _) (Nat.le_refl _)) (bb := w3.heap.size) (c := 1) (by rw [e4]; simp) (by have := Hlk.out; omega) (by have := Hlk.out; omega)
          have Hr1 := Lib.hid hr1
          have Hr2 := Lib.hid hr2
          have Hr3 := Lib.hid hr3
          have Hn5 := Lib.hid hn5
          have Hb5 := Lib.hid hb5
          clear hb1 hn1 hr1 hn2 hb2 hb2' hr2 hn3 hb3 hb3' hn3' hr3 hn5 hb5
          go_wp2
          refine wp_region_L (fun w' => True) (by kernel_rfl) ?_
          refine wpAnyL_take 0 (v := ?_) rfl (by kernel_rfl) (by kernel_rfl) (by kernel_rfl) (by kernel_rfl) (fun _ _ _ h => h) (Or.inl ⟨by rfl, ?_⟩) trivial ?_
          rotate_left
          · (intro w hSw; (try dsimp only at hSw); go_simp) <;> (try with_reducible rfl)
          try simp only [Act.put, List.getElem_toArray, List.getElem_cons_zero, List.getElem_cons_succ, List.setIfInBounds_toArray, List.set_cons_zero, List.set_cons_succ]
          refine wpAnyL_take 2 (v := ?_) rfl (by kernel_rfl) (by kernel_rfl) (by kernel_rfl) (by kernel_rfl) (fun _ _ _ h => h) (Or.inl ⟨by rfl, ?_⟩) trivial ?_
          rotate_left
          · (intro w hSw; (try dsimp only at hSw); go_simp) <;> (try with_reducible rfl)
          try simp only [Act.put, List.getElem_toArray, List.getElem_cons_zero, List.getElem_cons_succ, List.setIfInBounds_toArray, List.set_cons_zero, List.set_cons_succ]
          refine wpAnyL_take 3 (v := ?_) rfl (by kernel_rfl) (by kernel_rfl) (by kernel_rfl) (by kernel_rfl) (fun _ _ _ h => h) (Or.inl ⟨by rfl, ?_⟩) trivial ?_
          rotate_left
          · (intro w hSw; (try dsimp only at hSw); go_simp) <;> (try with_reducible rfl)
          try simp only [Act.put, List.getElem_toArray, List.getElem_cons_zero, List.getElem_cons_succ, List.setIfInBounds_toArray, List.set_cons_zero, List.set_cons_succ]
          refine wpAnyL_take 4 (v := ?_) rfl (by kernel_rfl) (by kernel_rfl) (by kernel_rfl) (by kernel_rfl) (fun _ _ _ h => h) (Or.inl ⟨by rfl, ?_⟩) trivial ?_
          rotate_left
          · (intro w hSw; (try dsimp only at hSw); go_simp) <;> (try with_reducible rfl)
          try simp only [Act.put, List.getElem_toArray, List.getElem_cons_zero, List.getElem_cons_succ, List.setIfInBounds_toArray, List.set_cons_zero, List.set_cons_succ]
          refine wpAnyL_take 6 (v := ?_) rfl (by kernel_rfl) (by kernel_rfl) (by kernel_rfl) (by kernel_rfl) (fun _ _ _ h => h) (Or.inl ⟨by rfl, ?_⟩) trivial ?_
          rotate_left
          · (intro w hSw; (try dsimp only at hSw); go_simp) <;> (try with_reducible rfl)
          try simp only [Act.put, List.getElem_toArray, List.getElem_cons_zero, List.getElem_cons_succ, List.setIfInBounds_toArray, List.set_cons_zero, List.set_cons_succ]
          refine wpAnyL_take 7 (v := ?_) rfl (by kernel_rfl) (by kernel_rfl) (by kernel_rfl) (by kernel_rfl) (fun _ _ _ h => h) (Or.inl ⟨by rfl, ?_⟩) trivial ?_
          rotate_left
          · (intro w hSw; (try dsimp only at hSw); go_simp) <;> (try with_reducible rfl)
          try simp only [Act.put, List.getElem_toArray, List.getElem_cons_zero, List.getElem_cons_succ, List.setIfInBounds_toArray, List.set_cons_zero, List.set_cons_succ]
          refine wpAnyL_take 8 (v := ?_) rfl (by kernel_rfl) (by kernel_rfl) (by kernel_rfl) (by kernel_rfl) (fun _ _ _ h => h) (Or.inl ⟨by rfl, ?_⟩) trivial ?_
          rotate_left
          · (intro w hSw; (try dsimp only at hSw); go_simp) <;> (try with_reducible rfl)
          try simp only [Act.put, List.getElem_toArray, List.getElem_cons_zero, List.getElem_cons_succ, List.setIfInBounds_toArray, List.set_cons_zero, List.set_cons_succ]
          refine wpAnyL_take 9 (v := ?_) rfl (by kernel_rfl) (by kernel_rfl) (by kernel_rfl) (by kernel_rfl) (fun _ _ _ h => h) (Or.inl ⟨by rfl, ?_⟩) trivial ?_
          rotate_left
          · (intro w hSw; (try dsimp only at hSw); go_simp) <;> (try with_reducible rfl)
          try simp only [Act.put, List.getElem_toArray, List.getElem_cons_zero, List.getElem_cons_succ, List.setIfInBounds_toArray, List.set_cons_zero, List.set_cons_succ]
          refine wpAnyL_one 1 (by kernel_rfl) rfl (fun K hK => ?_)
          go_simp
          refine hK.out _ _ (fun _ => trivial) ?_
          clear hK K
          try simp only [Act.put, List.getElem_toArray, List.getElem_cons_zero, List.getElem_cons_succ, List.setIfInBounds_toArray, List.set_cons_zero, List.set_cons_succ]
          rw [← e1]
          refine wpAnyL_one 5 (by kernel_rfl) rfl (fun K hK => ?_)
          refine step_append_run (by rfl) (.tmp 22) (.tmp 25) 50 (by rfl) (by rfl) (by rfl) Hr1.out ?_
          refine hK.out _ _ (fun _ => trivial) ?_
          clear hK K
          try simp only [Act.put, List.getElem_toArray, List.getElem_cons_zero, List.getElem_cons_succ, List.setIfInBounds_toArray, List.set_cons_zero, List.set_cons_succ]
          refine wpAnyL_one 10 (by kernel_rfl) rfl (fun K hK => ?_)
          refine step_append_run (by rfl) (.tmp 26) (.tmp 30) 50 (by rfl) (by rfl) (by rfl) Hr2.out ?_
          refine hK.out _ _ (fun _ => trivial) ?_
          clear hK K
          try simp only [Act.put, List.getElem_toArray, List.getElem_cons_zero, List.getElem_cons_succ, List.setIfInBounds_toArray, List.set_cons_zero, List.set_cons_succ]
          refine wpAnyL_one 11 (by kernel_rfl) rfl (fun K hK => ?_)
          go_simp
          refine hK.out _ _ (fun _ => trivial) ?_
          clear hK K
          try simp only [Act.put, List.getElem_toArray, List.getElem_cons_zero, List.getElem_cons_succ, List.setIfInBounds_toArray, List.set_cons_zero, List.set_cons_succ]
          rw [← e4]
          refine wpAnyL_one 12 (by kernel_rfl) rfl (fun K hK => ?_)
          refine step_append_run (by rfl) (.tmp 21) (.tmp 32) 41 (by rfl) (by rfl) (by rfl) Hr3.out ?_
          refine hK.out _ _ (fun _ => trivial) ?_
          clear hK K
          try simp only [Act.put, List.getElem_toArray, List.getElem_cons_zero, List.getElem_cons_succ, List.setIfInBounds_toArray, List.set_cons_zero, List.set_cons_succ]
          refine wpAnyL_one 13 (by kernel_rfl) rfl (fun K hK => ?_)
          go_simp
          refine hK.out _ _ (fun h => absurd h (not_rem (by kernel_rfl))) ?_
          clear hK K
          try simp only [Act.put, List.getElem_toArray, List.getElem_cons_zero, List.getElem_cons_succ, List.setIfInBounds_toArray, List.set_cons_zero, List.set_cons_succ]
          refine wpAnyL_done (by kernel_rfl) ?_ _
          go_wp2
          go_roundg (n - (k + 1))
          case measure => omega
          case rel => exact ⟨k + 1, by go_num, by omega, by rw [Hcn.out, ← take_snoc' Hat.out]; exact Hn5.out, Hb.out.trans Hb5.out⟩
        · have hne : rc = J + 1 := by omega
          have hnJ : n = J + 1 := by omega
          have Hp2' := Lib.hid (show Ints wr (.slice (some ⟨rb, ro, none⟩) 0 0) (rowOf' (n - (J + 1)) (fun t => ent m k (J + 1 + t))) from by
            rw [show n - (J + 1) = 0 from by omega]
            exact ⟨[], ⟨by simp, _, 0, rfl, by simp, by simp, by simp, Or.inl rfl⟩, rfl, by simp⟩)
          clear Hp2
          have HnJ := Lib.hid hnJ
          subst hne
          clear hnJ
          have hJi : (J : Int) ≤ (J : Int) + 1 := by omega
          have hw1 : IntKind.i64.wrap ((J : Int) + 1) = (J : Int) + 1 := IntWalk.i64_in _ (by have := HnJ.out; omega)
          have hw2 : (0 : Int) ≤ (J : Int) + 1 := by omega
          have hw3 : (J : Int) + 1 ≤ (n : Int) := by have := HnJ.out; omega
          have hw4 : ((J : Int) + 1).toNat = J + 1 := by omega
          have hw5 : n - (J + 1) = 0 := by have := HnJ.out; omega
          obtain ⟨w1, e1⟩ : ∃ x, x = (wr.alloc (.cells #[] 3)).drew := ⟨_, rfl⟩
          have hb1 : Below wr.heap.size wr w1 := by rw [e1]; exact ((Below.refl wr.heap.size wr).alloc (Nat.le_refl _) _).drew
          have hn1 : New (OwnOf 3 (OValR (Value.int .i64))) wr.heap.size w1 (.slice (some ⟨wr.heap.size, 0, none⟩) 0 0) [] := by rw [e1]; exact New.empty (R := OValR (Value.int .i64)) (lo := wr.heap.size) wr (Nat.le_refl _)
          obtain ⟨v2, w2, hr1, hn2, -, hb2⟩ := run_vals (P := Try.prog) (f := Value.int .i64) (fun _ => rfl) 50 50 3 (.int .i64 0) 8 Try.underlying50 infoI rfl hn1 hb1.size (Ints.frame _ _ _ _ Hp1.out hb1) (by rw [rowOf_len]; simp; omega) (by rw [rowOf_len]; simp; omega)
          obtain ⟨xa, xn, xc, rfl⟩ := hn2.slice
          have hb2' := hb1.trans hb2
          obtain ⟨v3, w3, hr2, hn3, -, hb3⟩ := run_vals (P := Try.prog) (f := Value.int .i64) (fun _ => rfl) 50 50 3 (.int .i64 0) 8 Try.underlying50 infoI rfl hn2 hb2'.size (Ints.frame _ _ _ _ Hp2'.out hb2') (by simp only [List.length_append, rowOf_len, List.length_nil]; omega) (by simp only [List.length_append, rowOf_len, List.length_nil]; omega)
          obtain ⟨ya, yn, yc, rfl⟩ := hn3.slice
          have hb3' := hb2'.trans hb3
          have hn3' : New (OInts 3) wr.heap.size w3 (.slice ya yn yc) (rowOf' (n - 1) (fun l => ent m k (skip J l))) := by rw [← Hsp.out]; exact hn3
          obtain ⟨w4, e4⟩ : ∃ x, x = w3.alloc (.cells #[.slice ya yn yc] 50) := ⟨_, rfl⟩
          obtain ⟨v5, w5, hr3, hn5, -, hb5⟩ := run_push (P := Try.prog) (w := w4) (OInts.kept _) 41 41 50 (.slice none 0 0) 24 Try.underlying41 infoR rfl Hn.out hle (by rw [e4]; exact hb3'.alloc hb3'.size _) (New.keep (OInts.kept _) hn3' (show Below w3.heap.size w3 w4 from by rw [e4]; exact (Below.refl w3.heap.size _).alloc (Nat.le_refl _) _) (Nat.le_refl _)) (bb := w3.heap.size) (c := 1) (by rw [e4]; simp) (by have := Hlk.out; omega) (by have := Hlk.out; omega)
          have Hr1 := Lib.hid hr1
          have Hr2 := Lib.hid hr2
          have Hr3 := Lib.hid hr3
          have Hn5 := Lib.hid hn5
          have Hb5 := Lib.hid hb5
          clear hb1 hn1 hr1 hn2 hb2 hb2' hr2 hn3 hb3 hb3' hn3' hr3 hn5 hb5
          go_wp2
          refine wp_region_L (fun w' => True) (by kernel_rfl) ?_
          refine wpAnyL_take 0 (v := ?_) rfl (by kernel_rfl) (by kernel_rfl) (by kernel_rfl) (by kernel_rfl) (fun _ _ _ h => h) (Or.inl ⟨by rfl, ?_⟩) trivial ?_
          rotate_left
          · (intro w hSw; (try dsimp only at hSw); go_simp) <;> (try with_reducible rfl)
          try simp only [Act.put, List.getElem_toArray, List.getElem_cons_zero, List.getElem_cons_succ, List.setIfInBounds_toArray, List.set_cons_zero, List.set_cons_succ]
          refine wpAnyL_take 2 (v := ?_) rfl (by kernel_rfl) (by kernel_rfl) (by kernel_rfl) (by kernel_rfl) (fun _ _ _ h => h) (Or.inl ⟨by rfl, ?_⟩) trivial ?_
          rotate_left
          · (intro w hSw; (try dsimp only at hSw); go_simp) <;> (try with_reducible rfl)
          try simp only [Act.put, List.getElem_toArray, List.getElem_cons_zero, List.getElem_cons_succ, List.setIfInBounds_toArray, List.set_cons_zero, List.set_cons_succ]
          refine wpAnyL_take 3 (v := ?_) rfl (by kernel_rfl) (by kernel_rfl) (by kernel_rfl) (by kernel_rfl) (fun _ _ _ h => h) (Or.inl ⟨by rfl, ?_⟩) trivial ?_
          rotate_left
          · (intro w hSw; (try dsimp only at hSw); go_simp) <;> (try with_reducible rfl)
          try simp only [Act.put, List.getElem_toArray, List.getElem_cons_zero, List.getElem_cons_succ, List.setIfInBounds_toArray, List.set_cons_zero, List.set_cons_succ]
          refine wpAnyL_take 4 (v := ?_) rfl (by kernel_rfl) (by kernel_rfl) (by kernel_rfl) (by kernel_rfl) (fun _ _ _ h => h) (Or.inl ⟨by rfl, ?_⟩) trivial ?_
          rotate_left
          · (intro w hSw; (try dsimp only at hSw); go_simp) <;> (try with_reducible rfl)
          try simp only [Act.put, List.getElem_toArray, List.getElem_cons_zero, List.getElem_cons_succ, List.setIfInBounds_toArray, List.set_cons_zero, List.set_cons_succ]
          refine wpAnyL_take 6 (v := ?_) rfl (by kernel_rfl) (by kernel_rfl) (by kernel_rfl) (by kernel_rfl) (fun _ _ _ h => h) (Or.inl ⟨by rfl, ?_⟩) trivial ?_
          rotate_left
          · (intro w hSw; (try dsimp only at hSw); go_simp) <;> (try with_reducible rfl)
          try simp only [Act.put, List.getElem_toArray, List.getElem_cons_zero, List.getElem_cons_succ, List.setIfInBounds_toArray, List.set_cons_zero, List.set_cons_succ]
          refine wpAnyL_take 7 (v := ?_) rfl (by kernel_rfl) (by kernel_rfl) (by kernel_rfl) (by kernel_rfl) (fun _ _ _ h => h) (Or.inl ⟨by rfl, ?_⟩) trivial ?_
          rotate_left
          · (intro w hSw; (try dsimp only at hSw); go_simp) <;> (try with_reducible rfl)
          try simp only [Act.put, List.getElem_toArray, List.getElem_cons_zero, List.getElem_cons_succ, List.setIfInBounds_toArray, List.set_cons_zero, List.set_cons_succ]
          refine wpAnyL_take 8 (v := ?_) rfl (by kernel_rfl) (by kernel_rfl) (by kernel_rfl) (by kernel_rfl) (fun _ _ _ h => h) (Or.inl ⟨by rfl, ?_⟩) trivial ?_
          rotate_left
          · (intro w hSw; (try dsimp only at hSw); go_simp) <;> (try with_reducible rfl)
          try simp only [Act.put, List.getElem_toArray, List.getElem_cons_zero, List.getElem_cons_succ, List.setIfInBounds_toArray, List.set_cons_zero, List.set_cons_succ]
          refine wpAnyL_take 9 (v := ?_) rfl (by kernel_rfl) (by kernel_rfl) (by kernel_rfl) (by kernel_rfl) (fun _ _ _ h => h) (Or.inl ⟨by rfl, ?_⟩) trivial ?_
          rotate_left
          · (intro w hSw; (try dsimp only at hSw); go_simp) <;> (try with_reducible rfl)
          try simp only [Act.put, List.getElem_toArray, List.getElem_cons_zero, List.getElem_cons_succ, List.setIfInBounds_toArray, List.set_cons_zero, List.set_cons_succ]
          refine wpAnyL_one 1 (by kernel_rfl) rfl (fun K hK => ?_)
          go_simp
          refine hK.out _ _ (fun _ => trivial) ?_
          clear hK K
          try simp only [Act.put, List.getElem_toArray, List.getElem_cons_zero, List.getElem_cons_succ, List.setIfInBounds_toArray, List.set_cons_zero, List.set_cons_succ]
          rw [← e1]
          refine wpAnyL_one 5 (by kernel_rfl) rfl (fun K hK => ?_)
          refine step_append_run (by rfl) (.tmp 22) (.tmp 25) 50 (by rfl) (by rfl) (by rfl) Hr1.out ?_
          refine hK.out _ _ (fun _ => trivial) ?_
          clear hK K
          try simp only [Act.put, List.getElem_toArray, List.getElem_cons_zero, List.getElem_cons_succ, List.setIfInBounds_toArray, List.set_cons_zero, List.set_cons_succ]
          refine wpAnyL_one 10 (by kernel_rfl) rfl (fun K hK => ?_)
          refine step_append_run (by rfl) (.tmp 26) (.tmp 30) 50 (by rfl) (by rfl) (by rfl) Hr2.out ?_
          refine hK.out _ _ (fun _ => trivial) ?_
          clear hK K
          try simp only [Act.put, List.getElem_toArray, List.getElem_cons_zero, List.getElem_cons_succ, List.setIfInBounds_toArray, List.set_cons_zero, List.set_cons_succ]
          refine wpAnyL_one 11 (by kernel_rfl) rfl (fun K hK => ?_)
          go_simp
          refine hK.out _ _ (fun _ => trivial) ?_
          clear hK K
          try simp only [Act.put, List.getElem_toArray, List.getElem_cons_zero, List.getElem_cons_succ, List.setIfInBounds_toArray, List.set_cons_zero, List.set_cons_succ]
          rw [← e4]
          refine wpAnyL_one 12 (by kernel_rfl) rfl (fun K hK => ?_)
          refine step_append_run (by rfl) (.tmp 21) (.tmp 32) 41 (by rfl) (by rfl) (by rfl) Hr3.out ?_
          refine hK.out _ _ (fun _ => trivial) ?_
          clear hK K
          try simp only [Act.put, List.getElem_toArray, List.getElem_cons_zero, List.getElem_cons_succ, List.setIfInBounds_toArray, List.set_cons_zero, List.set_cons_succ]
          refine wpAnyL_one 13 (by kernel_rfl) rfl (fun K hK => ?_)
          go_simp
          refine hK.out _ _ (fun h => absurd h (not_rem (by kernel_rfl))) ?_
          clear hK K
          try simp only [Act.put, List.getElem_toArray, List.getElem_cons_zero, List.getElem_cons_succ, List.setIfInBounds_toArray, List.set_cons_zero, List.set_cons_succ]
          refine wpAnyL_done (by kernel_rfl) ?_ _
          go_wp2
          go_roundg (n - (k + 1))
          case measure => omega
          case rel => exact ⟨k + 1, by go_num, by omega, by rw [Hcn.out, ← take_snoc' Hat.out]; exact Hn5.out, Hb.out.trans Hb5.out⟩
    · have e : k = n := by omega
      subst e
      have hr := Hn.out
      rw [cnt_full hI, show (minorT m I J k).take (k - 1) = minorT m I J k from tabOf_full] at hr
      have Hr := Lib.hid hr
      clear hr
      go_wp2
      go_ret
      exact ⟨_, rfl, Hr.out, Hb.out⟩
end Go.Proofs.Ytdohepngandajaa
