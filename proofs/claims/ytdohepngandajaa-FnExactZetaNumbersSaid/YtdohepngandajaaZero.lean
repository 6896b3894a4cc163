/-
  Tables of zeros, the reference's and the program's; copies of tables.
-/
import Derived.Test.YtdohepngandajaaRows
import Derived.Test.YtdohepngandajaaBase
import Derived.Test.YtdohepngandajaaTabs
import Derived.Test.YtdohepngandajaaHarn
namespace Go.Proofs.Ytdohepngandajaa
open Go.RowKit Go.Deep Go.Sd

theorem replicate_snoc {α : Type} (k : Nat) (x : α) : List.replicate k x ++ [x] = List.replicate (k + 1) x := by
  rw [List.replicate_succ']

set_option maxHeartbeats 400000 in
theorem l4Zero_c {w : World} {p r : Nat} (hp : p ≤ 1048576) (hr : r ≤ 1048576) :
    Calls Try.prog 174 #[.int .i64 p, .int .i64 r] w (Makes (OTab 3 50) w (List.replicate p (List.replicate r 0))) := by
  have hmk := run_make_row' (P := Try.prog) 50 3 (.int .i64 0) 8 Try.underlying50 infoI rfl .i64 .i64 r (by omega) (by omega)
  go_enter Try.func174, Try.ntmps174
  go_wp2
  go_loopg [5, 6] p (fun g v i wr => ∃ (k : Nat), i = .int .i64 k ∧ k + g = p ∧ New (OTab 3 50) w.heap.size wr v (List.replicate k (List.replicate r 0)) ∧ Below w.heap.size w wr)
  case atStart => exact ⟨0, rfl, by omega, New.empty w (Nat.le_refl _), (Below.refl _ _).alloc (Nat.le_refl _) _⟩
  case round =>
    obtain ⟨k, rfl, hk, hnew, hbel⟩ := hrel
    by_cases hlt : k < p
    · have hle := hbel.size
      have Hn := Lib.hid hnew
      have Hb := Lib.hid hbel
      have Hr := Lib.hid (show New (OInts 3) wr.heap.size ((wr.alloc (.cells (madeCells #[.int .i64 0] r) 3)).alloc (.cells #[.slice (some ⟨wr.heap.size, 0, none⟩) r r] 50)) (.slice (some ⟨wr.heap.size, 0, none⟩) r r) (List.replicate r 0) from
        New.keep (OInts.kept _) (New.made 3 wr (.int .i64 0) 0 r (Nat.le_refl _) (by omega) OIntR.zero) ((Below.refl _ _).alloc (Nat.le_refl _) _) (Nat.le_refl _))
      clear hnew hbel
      go_wp2_with (at_builtin; refine wpl_push (w0 := wr) (lo := w.heap.size) (OInts.kept _) rfl (.tmp 13) (.tmp 16) 41 rfl 50 (.slice none 0 0) 24 Try.underlying41 infoR rfl Hn.out hle (((Below.refl _ _).alloc (Nat.le_refl _) _).alloc (by simp) _) Hr.out (bb := wr.heap.size + 1) (c := 1) (by simp) rfl rfl (by simp; omega) (by simp; omega) ?_; intro v1 w1 hn1 _ _ hb1)
      go_roundg (p - (k + 1))
      case measure => omega
      case rel => exact ⟨k + 1, by go_num, by omega, by rw [← replicate_snoc]; exact hn1, Hb.out.trans hb1⟩
    · have e : k = p := by omega
      subst e
      clear hmk
      go_wp2
      go_ret
      exact ⟨_, rfl, hnew, hbel⟩
set_option maxHeartbeats 400000 in
theorem zeros_c {w : World} {p : Nat} (hp : p ≤ 1048576) :
    Calls Try.prog 177 #[.int .i64 p] w (Makes (OTab 3 50) w (List.replicate p (List.replicate p 0))) := by
  have hmk := run_make_row' (P := Try.prog) 50 3 (.int .i64 0) 8 Try.underlying50 infoI rfl .i64 .i64 p (by omega) (by omega)
  go_enter Try.func177, Try.ntmps177
  go_wp2
  go_loopg [3, 6] p (fun g v i wr => ∃ (k : Nat), i = .int .i64 k ∧ k + g = p ∧ New (OTab 3 50) w.heap.size wr v (List.replicate k (List.replicate p 0)) ∧ Below w.heap.size w wr)
  case atStart => exact ⟨0, rfl, by omega, New.empty w (Nat.le_refl _), (Below.refl _ _).alloc (Nat.le_refl _) _⟩
  case round =>
    obtain ⟨k, rfl, hk, hnew, hbel⟩ := hrel
    by_cases hlt : k < p
    · have hle := hbel.size
      have Hn := Lib.hid hnew
      have Hb := Lib.hid hbel
      have Hr := Lib.hid (show New (OInts 3) wr.heap.size ((wr.alloc (.cells (madeCells #[.int .i64 0] p) 3)).alloc (.cells #[.slice (some ⟨wr.heap.size, 0, none⟩) p p] 50)) (.slice (some ⟨wr.heap.size, 0, none⟩) p p) (List.replicate p 0) from
        New.keep (OInts.kept _) (New.made 3 wr (.int .i64 0) 0 p (Nat.le_refl _) (by omega) OIntR.zero) ((Below.refl _ _).alloc (Nat.le_refl _) _) (Nat.le_refl _))
      clear hnew hbel
      go_wp2_with (at_builtin; refine wpl_push (w0 := wr) (lo := w.heap.size) (OInts.kept _) rfl (.tmp 8) (.tmp 11) 41 rfl 50 (.slice none 0 0) 24 Try.underlying41 infoR rfl Hn.out hle (((Below.refl _ _).alloc (Nat.le_refl _) _).alloc (by simp) _) Hr.out (bb := wr.heap.size + 1) (c := 1) (by simp) rfl rfl (by simp; omega) (by simp; omega) ?_; intro v1 w1 hn1 _ _ hb1)
      go_roundg (p - (k + 1))
      case measure => omega
      case rel => exact ⟨k + 1, by go_num, by omega, by rw [← replicate_snoc]; exact hn1, Hb.out.trans hb1⟩
    · have e : k = p := by omega
      subst e
      clear hmk
      go_wp2
      go_ret
      exact ⟨_, rfl, hnew, hbel⟩
set_option maxHeartbeats 400000 in
theorem copied_c {w : World} {v : Value} {m : List (List Int)} (h : Tab w v m) (hp : m.length ≤ 1048576) (hr : ∀ r, r ∈ m → r.length ≤ 1048576) :
    Calls Try.prog 121 #[v] w (Makes (OTab 3 50) w m) := by
  obtain ⟨a, c, rfl, _, _, hcell⟩ := h.shape
  have Hsr := Lib.hid hr
  clear h hr
  go_enter Try.func121, Try.ntmps121
  go_wp2
  go_loopg [3, 9] (m.length) (fun g x i wr => ∃ (k : Nat), i = .int .i64 k ∧ k + g = m.length ∧ New (OTab 3 50) w.heap.size wr x (m.take k) ∧ Below w.heap.size w wr)
  case atStart => exact ⟨0, rfl, by omega, New.empty w (Nat.le_refl _), (Below.refl _ _).alloc (Nat.le_refl _) _⟩
  case round =>
    obtain ⟨k, rfl, hk, hnew, hbel⟩ := hrel
    by_cases hlt : k < m.length
    · obtain ⟨b, o, rfl, hb, hx0⟩ := hcell (by omega)
      obtain ⟨r, hr, _⟩ := at_lt hlt
      obtain ⟨u, hu, hru⟩ := hx0 k r hr
      have hrl := Hsr.out r (List.mem_of_getElem? hr)
      have hle := hbel.size
      have hu1 : wr.cell? ⟨b, o + k, none⟩ = some u := (hbel.cell (p := ⟨b, o + k, none⟩) hb).trans hu
      have hbr : b < wr.heap.size := by omega
      have hku : (m.take k).length = k := by simp; omega
      have Hk := Lib.hid hku
      have Hn := Lib.hid hnew
      have Hb := Lib.hid hbel
      have Hx := Lib.hid hr
      have Hsrc := Lib.hid (show SlOf (ValR (Value.int .i64)) (wr.alloc (.cells #[] 3)) u r from Ints.frame _ _ _ _ (Ints.frame _ _ _ _ hru hbel) ((Below.refl _ _).alloc (Nat.le_refl _) _))
      obtain ⟨ra, rc, rfl, _, _, _⟩ := hru.shape
      clear hnew hbel hru hr hu hx0 hcell hku
      go_wp2_with (first
        | (at_builtin; refine wpl_append_vals (f := Value.int .i64) (fun _ => rfl) rfl (.tmp 14) (.tmp 15) 50 rfl 3 (.int .i64 0) 8 Try.underlying50 infoI rfl (New.empty (R := OValR (Value.int .i64)) (lo := wr.heap.size) wr (Nat.le_refl _)) (by simp) Hsrc.out rfl rfl (by simp; omega) (by simp; omega) ?_; intro v1 w1 hn1 _ _ hb1; obtain ⟨xa, xn, xc, rfl⟩ := hn1.slice; have Hn1 := Lib.hid hn1; have Hb1 := Lib.hid (((Below.refl wr.heap.size wr).alloc (Nat.le_refl _) _).trans hb1); clear hn1 hb1)
        | (at_builtin; refine wpl_push (w0 := wr) (lo := w.heap.size) (y := r) (OInts.kept _) rfl (.tmp 13) (.tmp 17) 41 rfl 50 (.slice none 0 0) 24 Try.underlying41 infoR rfl Hn.out hle (Hb1.out.alloc Hb1.out.size _) (New.keep (OInts.kept _) (B := w1.heap.size) Hn1.out ((Below.refl _ _).alloc (Nat.le_refl _) _) (Nat.le_refl _)) (bb := w1.heap.size) (c := 1) (by simp) rfl rfl (by rw [Hk.out]; omega) (by rw [Hk.out]; omega) ?_; intro v2 w2 hn2 _ _ hb2; have Hn2 := Lib.hid hn2; have Hb2 := Lib.hid hb2; clear hn2 hb2))
      go_roundg (m.length - (k + 1))
      case measure => omega
      case rel => exact ⟨k + 1, by go_num, by omega, by rw [← take_snoc' Hx.out]; exact Hn2.out, Hb.out.trans Hb2.out⟩
    · have e : m.take k = m := List.take_of_length_le (by omega)
      rw [e] at hnew
      clear hcell e
      go_wp2
      go_ret
      exact ⟨_, rfl, hnew, hbel⟩
set_option maxHeartbeats 400000 in
theorem l4Copy_c {w : World} {v : Value} {m : List (List Int)} (h : Tab w v m) (hp : m.length ≤ 1048576) (hr : ∀ r, r ∈ m → r.length ≤ 1048576) :
    Calls Try.prog 131 #[v] w (Makes (OTab 3 50) w m) := by
  obtain ⟨a, c, rfl, _, _, hcell⟩ := h.shape
  have Hsr := Lib.hid hr
  clear h hr
  go_enter Try.func131, Try.ntmps131
  go_wp2
  go_loopg [3, 4] (m.length) (fun g x i wr => ∃ (k : Nat), i = .int .i64 k ∧ k + g = m.length ∧ New (OTab 3 50) w.heap.size wr x (m.take k) ∧ Below w.heap.size w wr)
  case atStart => exact ⟨0, rfl, by omega, New.empty w (Nat.le_refl _), (Below.refl _ _).alloc (Nat.le_refl _) _⟩
  case round =>
    obtain ⟨k, rfl, hk, hnew, hbel⟩ := hrel
    by_cases hlt : k < m.length
    · obtain ⟨b, o, rfl, hb, hx0⟩ := hcell (by omega)
      obtain ⟨r, hr, _⟩ := at_lt hlt
      obtain ⟨u, hu, hru⟩ := hx0 k r hr
      have hrl := Hsr.out r (List.mem_of_getElem? hr)
      have hle := hbel.size
      have hu1 : wr.cell? ⟨b, o + k, none⟩ = some u := (hbel.cell (p := ⟨b, o + k, none⟩) hb).trans hu
      have hbr : b < wr.heap.size := by omega
      have hku : (m.take k).length = k := by simp; omega
      have Hk := Lib.hid hku
      have Hn := Lib.hid hnew
      have Hb := Lib.hid hbel
      have Hx := Lib.hid hr
      have Hsrc := Lib.hid (show SlOf (ValR (Value.int .i64)) (wr.alloc (.cells #[] 3)) u r from Ints.frame _ _ _ _ (Ints.frame _ _ _ _ hru hbel) ((Below.refl _ _).alloc (Nat.le_refl _) _))
      obtain ⟨ra, rc, rfl, _, _, _⟩ := hru.shape
      clear hnew hbel hru hr hu hx0 hcell hku
      go_wp2_with (first
        | (at_builtin; refine wpl_append_vals (f := Value.int .i64) (fun _ => rfl) rfl (.tmp 13) (.tmp 17) 50 rfl 3 (.int .i64 0) 8 Try.underlying50 infoI rfl (New.empty (R := OValR (Value.int .i64)) (lo := wr.heap.size) wr (Nat.le_refl _)) (by simp) Hsrc.out rfl rfl (by simp; omega) (by simp; omega) ?_; intro v1 w1 hn1 _ _ hb1; obtain ⟨xa, xn, xc, rfl⟩ := hn1.slice; have Hn1 := Lib.hid hn1; have Hb1 := Lib.hid (((Below.refl wr.heap.size wr).alloc (Nat.le_refl _) _).trans hb1); clear hn1 hb1)
        | (at_builtin; refine wpl_push (w0 := wr) (lo := w.heap.size) (y := r) (OInts.kept _) rfl (.tmp 12) (.tmp 19) 41 rfl 50 (.slice none 0 0) 24 Try.underlying41 infoR rfl Hn.out hle (Hb1.out.alloc Hb1.out.size _) (New.keep (OInts.kept _) (B := w1.heap.size) Hn1.out ((Below.refl _ _).alloc (Nat.le_refl _) _) (Nat.le_refl _)) (bb := w1.heap.size) (c := 1) (by simp) rfl rfl (by rw [Hk.out]; omega) (by rw [Hk.out]; omega) ?_; intro v2 w2 hn2 _ _ hb2; have Hn2 := Lib.hid hn2; have Hb2 := Lib.hid hb2; clear hn2 hb2))
      go_roundg (m.length - (k + 1))
      case measure => omega
      case rel => exact ⟨k + 1, by go_num, by omega, by rw [← take_snoc' Hx.out]; exact Hn2.out, Hb.out.trans Hb2.out⟩
    · have e : m.take k = m := List.take_of_length_le (by omega)
      rw [e] at hnew
      clear hcell e
      go_wp2
      go_ret
      exact ⟨_, rfl, hnew, hbel⟩
end Go.Proofs.Ytdohepngandajaa
