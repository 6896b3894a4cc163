/-
  Tables with no number less than 0, both sides.
-/
import Derived.Test.YtjgiobapdkdhpaaRows
import Derived.Test.YtjgiobapdkdhpaaBase
import Derived.Test.YtjgiobapdkdhpaaHarn
namespace Go.Proofs.Ytjgiobapdkdhpaa
open Go.RowKit Go.Deep Go.Sd

def nnOk (x : Int) : Bool := decide (0 ≤ x)
def countM (m : List (List Int)) : Bool := m.all (fun r => r.all nnOk)

set_option maxHeartbeats 400000 in
theorem isCounted_c {w : World} {v : Value} {m : List (List Int)} (h : Tab w v m) :
    Calls Try.prog 143 #[v] w fun e w' => e = .returned (.bool (countM m)) ∧ w = w' := by
  have hlen := h.len
  obtain ⟨a, c, rfl, _, _, hcell⟩ := h.shape
  clear h
  have H0 := Lib.hid (show countM m = countM (m.drop 0) from rfl)
  go_enter Try.func143, Try.ntmps143
  go_wp2
  go_loopg [9] (m.length) (fun g i wr => ∃ (k : Nat), i = .int .i64 k ∧ k + g = m.length ∧ Hid (countM m = countM (m.drop k)) ∧ w = wr)
  case atStart => exact ⟨0, rfl, by omega, H0, rfl⟩
  case round =>
    obtain ⟨k, rfl, hk, H, rfl⟩ := hrel
    by_cases hlt : k < m.length
    · obtain ⟨b, o, rfl, hb, hx0⟩ := hcell (by omega)
      obtain ⟨r, hr, hd⟩ := at_lt hlt
      obtain ⟨u, hu, hru⟩ := hx0 k r hr
      have hrl := hru.len
      obtain ⟨ra, rc, rfl, _, _, hrc⟩ := hru.shape
      have H2 := Lib.hid (show countM m = ((r.drop 0).all nnOk && countM (m.drop (k + 1))) from by rw [H.out, hd]; rfl)
      clear H hr hd hx0 hcell hru H0
      go_wp2
      go_loopg [15] (r.length) (fun g i wr => ∃ (j : Nat), i = .int .i64 j ∧ j + g = r.length ∧ Hid (countM m = ((r.drop j).all nnOk && countM (m.drop (k + 1)))) ∧ w = wr)
      case atStart => exact ⟨0, rfl, by omega, H2, rfl⟩
      case round =>
        obtain ⟨j, rfl, hj, H, rfl⟩ := hrel
        clear H2
        by_cases hlt2 : j < r.length
        · obtain ⟨b2, o2, rfl, hb2, hx2⟩ := hrc (by omega)
          obtain ⟨x, hx, hdx⟩ := at_lt hlt2
          obtain ⟨u2, hu2, rfl⟩ := hx2 j x hx
          have H1 := Lib.hid (show countM m = (nnOk x && (r.drop (j + 1)).all nnOk && countM (m.drop (k + 1))) from by rw [H.out, hdx]; rfl)
          clear H hx hdx hx2 hrc
          by_cases hx1 : x < 0
          · have H3 := Lib.hid (show countM m = false from by rw [H1.out, show nnOk x = false from by unfold nnOk; simp; omega]; rfl)
            clear H1
            go_wp2
            go_ret
            exact ⟨by rw [H3.out]; rfl, rfl⟩
          have H3 := Lib.hid (show countM m = ((r.drop (j + 1)).all nnOk && countM (m.drop (k + 1))) from by rw [H1.out, show nnOk x = true from by unfold nnOk; simp; omega]; rfl)
          clear H1
          go_wp2
          go_roundg (r.length - (j + 1))
          case measure => omega
          case rel => exact ⟨j + 1, by go_num, by omega, H3, rfl⟩
        · have H1 := Lib.hid (show countM m = countM (m.drop (k + 1)) from by rw [H.out, drop_len hlt2]; rfl)
          clear H
          go_wp2
          go_roundg (m.length - (k + 1))
          case measure => omega
          case rel => exact ⟨k + 1, by go_num, by omega, H1, rfl⟩
    · have H1 := Lib.hid (show countM m = true from by rw [H.out, drop_len hlt]; rfl)
      clear H
      go_wp2
      go_ret
      exact ⟨by rw [H1.out]; rfl, rfl⟩
set_option maxHeartbeats 400000 in
theorem l19Rows_c {w : World} {v : Value} {m : List (List Int)} (h : Tab w v m) :
    Calls Try.prog 140 #[v] w fun e w' => e = .returned (.bool (countM m)) ∧ w = w' := by
  have hlen := h.len
  obtain ⟨a, c, rfl, _, _, hcell⟩ := h.shape
  clear h
  have H0 := Lib.hid (show countM m = countM (m.drop 0) from rfl)
  go_enter Try.func140, Try.ntmps140
  go_wp2
  go_loopg [3] (m.length) (fun g i wr => ∃ (k : Nat), i = .int .i64 k ∧ k + g = m.length ∧ Hid (countM m = countM (m.drop k)) ∧ w = wr)
  case atStart => exact ⟨0, rfl, by omega, H0, rfl⟩
  case round =>
    obtain ⟨k, rfl, hk, H, rfl⟩ := hrel
    by_cases hlt : k < m.length
    · obtain ⟨b, o, rfl, hb, hx0⟩ := hcell (by omega)
      obtain ⟨r, hr, hd⟩ := at_lt hlt
      obtain ⟨u, hu, hru⟩ := hx0 k r hr
      have hrl := hru.len
      obtain ⟨ra, rc, rfl, _, _, hrc⟩ := hru.shape
      have H2 := Lib.hid (show countM m = ((r.drop 0).all nnOk && countM (m.drop (k + 1))) from by rw [H.out, hd]; rfl)
      have hi1 : (k : Int) < (m.length : Int) := by omega
      clear H hr hd hx0 hcell hru H0
      go_wp2
      go_loopg [4] (r.length) (fun g i wr => ∃ (j : Nat), i = .int .i64 j ∧ j + g = r.length ∧ Hid (countM m = ((r.drop j).all nnOk && countM (m.drop (k + 1)))) ∧ w = wr)
      case atStart => exact ⟨0, rfl, by omega, H2, rfl⟩
      case round =>
        obtain ⟨j, rfl, hj, H, rfl⟩ := hrel
        clear H2
        by_cases hlt2 : j < r.length
        · obtain ⟨b2, o2, rfl, hb2, hx2⟩ := hrc (by omega)
          obtain ⟨x, hx, hdx⟩ := at_lt hlt2
          obtain ⟨u2, hu2, rfl⟩ := hx2 j x hx
          have H1 := Lib.hid (show countM m = (nnOk x && (r.drop (j + 1)).all nnOk && countM (m.drop (k + 1))) from by rw [H.out, hdx]; rfl)
          clear H hx hdx hx2 hrc
          by_cases hx1 : x < 0
          · have H3 := Lib.hid (show countM m = false from by rw [H1.out, show nnOk x = false from by unfold nnOk; simp; omega]; rfl)
            clear H1
            go_wp2
            go_ret
            exact ⟨by rw [H3.out]; rfl, rfl⟩
          have H3 := Lib.hid (show countM m = ((r.drop (j + 1)).all nnOk && countM (m.drop (k + 1))) from by rw [H1.out, show nnOk x = true from by unfold nnOk; simp; omega]; rfl)
          clear H1
          go_wp2
          go_roundg (r.length - (j + 1))
          case measure => omega
          case rel => exact ⟨j + 1, by go_num, by omega, H3, rfl⟩
        · have H1 := Lib.hid (show countM m = countM (m.drop (k + 1)) from by rw [H.out, drop_len hlt2]; rfl)
          clear H
          go_wp2
          go_roundg (m.length - (k + 1))
          case measure => omega
          case rel => exact ⟨k + 1, by go_num, by omega, H1, rfl⟩
    · have H1 := Lib.hid (show countM m = true from by rw [H.out, drop_len hlt]; rfl)
      clear H
      go_wp2
      go_ret
      exact ⟨by rw [H1.out]; rfl, rfl⟩
end Go.Proofs.Ytjgiobapdkdhpaa
