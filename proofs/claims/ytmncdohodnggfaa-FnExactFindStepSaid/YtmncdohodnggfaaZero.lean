/-
  Tables of zeros, the reference's and the program's; copies of tables.
-/
import Derived.Test.YtmncdohodnggfaaRows
import Derived.Test.YtmncdohodnggfaaBase
import Derived.Test.YtmncdohodnggfaaTabs
import Derived.Test.YtmncdohodnggfaaHarn
namespace Go.Proofs.Ytmncdohodnggfaa
open Go.RowKit Go.Deep Go.Sd

theorem replicate_snoc {α : Type} (k : Nat) (x : α) : List.replicate k x ++ [x] = List.replicate (k + 1) x := by
  rw [List.replicate_succ']

set_option maxHeartbeats 400000 in
theorem l4Zero_c {w : World} {p r : Nat} (hp : p ≤ 1048576) (hr : r ≤ 1048576) :
    Calls Try.prog 67 #[.int .i64 p, .int .i64 r] w (Makes (OTab 3 46) w (List.replicate p (List.replicate r 0))) := by
  have hmk := run_make_row' (P := Try.prog) 46 3 (.int .i64 0) 8 Try.underlying46 infoI rfl .i64 .i64 r (by omega) (by omega)
  go_enter Try.func67, Try.ntmps67
  go_wp2
  go_loopg [5, 6] p (fun g v i wr => ∃ (k : Nat), i = .int .i64 k ∧ k + g = p ∧ New (OTab 3 46) w.heap.size wr v (List.replicate k (List.replicate r 0)) ∧ Below w.heap.size w wr)
  case atStart => exact ⟨0, rfl, by omega, New.empty w (Nat.le_refl _), (Below.refl _ _).alloc (Nat.le_refl _) _⟩
  case round =>
    obtain ⟨k, rfl, hk, hnew, hbel⟩ := hrel
    by_cases hlt : k < p
    · have hle := hbel.size
      have Hn := Lib.hid hnew
      have Hb := Lib.hid hbel
      have Hr := Lib.hid (show New (OInts 3) wr.heap.size ((wr.alloc (.cells (madeCells #[.int .i64 0] r) 3)).alloc (.cells #[.slice (some ⟨wr.heap.size, 0, none⟩) r r] 46)) (.slice (some ⟨wr.heap.size, 0, none⟩) r r) (List.replicate r 0) from
        New.keep (OInts.kept _) (New.made 3 wr (.int .i64 0) 0 r (Nat.le_refl _) (by omega) OIntR.zero) ((Below.refl _ _).alloc (Nat.le_refl _) _) (Nat.le_refl _))
      clear hnew hbel
      go_wp2_with (at_builtin; refine wpl_push (w0 := wr) (lo := w.heap.size) (OInts.kept _) rfl (.tmp 13) (.tmp 16) 33 rfl 46 (.slice none 0 0) 24 Try.underlying33 infoR rfl Hn.out hle (((Below.refl _ _).alloc (Nat.le_refl _) _).alloc (by simp) _) Hr.out (bb := wr.heap.size + 1) (c := 1) (by simp) rfl rfl (by simp; omega) (by simp; omega) ?_; intro v1 w1 hn1 _ _ hb1)
      go_roundg (p - (k + 1))
      case measure => omega
      case rel => exact ⟨k + 1, by go_num, by omega, by rw [← replicate_snoc]; exact hn1, Hb.out.trans hb1⟩
    · have e : k = p := by omega
      subst e
      clear hmk
      go_wp2
      go_ret
      exact ⟨_, rfl, hnew, hbel⟩
set_option maxHeartbeats 400000 in
theorem zeros_c {w : World} {p : Nat} (hp : p ≤ 1048576) :
    Calls Try.prog 68 #[.int .i64 p] w (Makes (OTab 3 46) w (List.replicate p (List.replicate p 0))) := by
  have hmk := run_make_row' (P := Try.prog) 46 3 (.int .i64 0) 8 Try.underlying46 infoI rfl .i64 .i64 p (by omega) (by omega)
  go_enter Try.func68, Try.ntmps68
  go_wp2
  go_loopg [3, 6] p (fun g v i wr => ∃ (k : Nat), i = .int .i64 k ∧ k + g = p ∧ New (OTab 3 46) w.heap.size wr v (List.replicate k (List.replicate p 0)) ∧ Below w.heap.size w wr)
  case atStart => exact ⟨0, rfl, by omega, New.empty w (Nat.le_refl _), (Below.refl _ _).alloc (Nat.le_refl _) _⟩
  case round =>
    obtain ⟨k, rfl, hk, hnew, hbel⟩ := hrel
    by_cases hlt : k < p
    · have hle := hbel.size
      have Hn := Lib.hid hnew
      have Hb := Lib.hid hbel
      have Hr := Lib.hid (show New (OInts 3) wr.heap.size ((wr.alloc (.cells (madeCells #[.int .i64 0] p) 3)).alloc (.cells #[.slice (some ⟨wr.heap.size, 0, none⟩) p p] 46)) (.slice (some ⟨wr.heap.size, 0, none⟩) p p) (List.replicate p 0) from
        New.keep (OInts.kept _) (New.made 3 wr (.int .i64 0) 0 p (Nat.le_refl _) (by omega) OIntR.zero) ((Below.refl _ _).alloc (Nat.le_refl _) _) (Nat.le_refl _))
      clear hnew hbel
      go_wp2_with (at_builtin; refine wpl_push (w0 := wr) (lo := w.heap.size) (OInts.kept _) rfl (.tmp 8) (.tmp 11) 33 rfl 46 (.slice none 0 0) 24 Try.underlying33 infoR rfl Hn.out hle (((Below.refl _ _).alloc (Nat.le_refl _) _).alloc (by simp) _) Hr.out (bb := wr.heap.size + 1) (c := 1) (by simp) rfl rfl (by simp; omega) (by simp; omega) ?_; intro v1 w1 hn1 _ _ hb1)
      go_roundg (p - (k + 1))
      case measure => omega
      case rel => exact ⟨k + 1, by go_num, by omega, by rw [← replicate_snoc]; exact hn1, Hb.out.trans hb1⟩
    · have e : k = p := by omega
      subst e
      clear hmk
      go_wp2
      go_ret
      exact ⟨_, rfl, hnew, hbel⟩
end Go.Proofs.Ytmncdohodnggfaa
