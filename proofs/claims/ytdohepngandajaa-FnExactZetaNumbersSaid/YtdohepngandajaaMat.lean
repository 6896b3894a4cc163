/-
  What a matrix is, by the program's IsMatrix and by the reference's.
-/
import Derived.Test.YtdohepngandajaaRows
import Derived.Test.YtdohepngandajaaBase
import Derived.Test.YtdohepngandajaaMoeb
namespace Go.Proofs.Ytdohepngandajaa
open Go.RowKit Go.Deep Go.Sd

def entOk (x : Int) : Bool := decide (0 ≤ x ∧ x ≤ 1000000)
def rowOk (n : Nat) (r : List Int) : Bool := decide (r.length = n) && r.all entOk
def isMat (m : List (List Int)) : Bool := decide (1 ≤ m.length ∧ m.length ≤ 9) && m.all (rowOk m.length)

theorem rowOk_no {n : Nat} {r : List Int} (h : r.length ≠ n) : rowOk n r = false := by unfold rowOk; simp [h]
theorem rowOk_yes {n : Nat} {r : List Int} (h : r.length = n) : rowOk n r = r.all entOk := by unfold rowOk; simp [h]

set_option maxHeartbeats 400000 in
theorem impl_IsMatrix_c {w : World} {v : Value} {m : List (List Int)} (h : Tab w v m) :
    Calls Try.prog 93 #[v] w fun e w' => e = .returned (.bool (isMat m)) ∧ w = w' := by
  have hlen := h.len
  obtain ⟨a, c, rfl, _, _, hcell⟩ := h.shape
  clear h
  by_cases hs : 1 ≤ m.length ∧ m.length ≤ 9
  · obtain ⟨hs1, hs2⟩ := hs
    have H0 := Lib.hid (show isMat m = (m.drop 0).all (rowOk m.length) from by unfold isMat; simp [hs1, hs2])
    go_enter Try.func93, Try.ntmps93
    go_wp2
    go_loopg [17] (m.length) (fun g i wr => ∃ (k : Nat), i = .int .i64 k ∧ k + g = m.length ∧ Hid (isMat m = (m.drop k).all (rowOk m.length)) ∧ w = wr)
    case atStart => exact ⟨0, rfl, by omega, H0, rfl⟩
    case round =>
      obtain ⟨k, rfl, hk, H, rfl⟩ := hrel
      by_cases hlt : k < m.length
      · obtain ⟨b, o, rfl, hb, hx0⟩ := hcell (by omega)
        obtain ⟨r, hr, hd⟩ := at_lt hlt
        obtain ⟨u, hu, hru⟩ := hx0 k r hr
        have hrl := hru.len
        obtain ⟨ra, rc, rfl, _, _, hrc⟩ := hru.shape
        have H1 := Lib.hid (show isMat m = (rowOk m.length r && (m.drop (k + 1)).all (rowOk m.length)) from by rw [H.out, hd]; rfl)
        clear H hr hd hx0 hcell hru H0
        by_cases hl : r.length = m.length
        · have H2 := Lib.hid (show isMat m = ((r.drop 0).all entOk && (m.drop (k + 1)).all (rowOk m.length)) from by rw [H1.out, rowOk_yes hl]; rfl)
          have t1 : ((r.length : Int) != (m.length : Int)) = false := by simp [hl]
          clear H1 hl
          go_wp2
          go_loopg [28] (r.length) (fun g i wr => ∃ (j : Nat), i = .int .i64 j ∧ j + g = r.length ∧ Hid (isMat m = ((r.drop j).all entOk && (m.drop (k + 1)).all (rowOk m.length))) ∧ w = wr)
          case atStart => exact ⟨0, rfl, by omega, H2, rfl⟩
          case round =>
            obtain ⟨j, rfl, hj, H, rfl⟩ := hrel
            clear H2
            by_cases hlt2 : j < r.length
            · obtain ⟨b2, o2, rfl, hb2, hx2⟩ := hrc (by omega)
              obtain ⟨x, hx, hdx⟩ := at_lt hlt2
              obtain ⟨u2, hu2, rfl⟩ := hx2 j x hx
              have H1 := Lib.hid (show isMat m = (entOk x && (r.drop (j + 1)).all entOk && (m.drop (k + 1)).all (rowOk m.length)) from by rw [H.out, hdx]; rfl)
              clear H hx hdx hx2 hrc
              by_cases hx1 : x < 0
              · have H3 := Lib.hid (show isMat m = false from by rw [H1.out, show entOk x = false from by unfold entOk; simp; omega]; rfl)
                clear H1
                go_wp2
                go_ret
                exact ⟨by rw [H3.out]; rfl, rfl⟩
              by_cases hx2 : 1000000 < x
              · have H3 := Lib.hid (show isMat m = false from by rw [H1.out, show entOk x = false from by unfold entOk; simp; omega]; rfl)
                clear H1
                go_wp2
                go_ret
                exact ⟨by rw [H3.out]; rfl, rfl⟩
              have H3 := Lib.hid (show isMat m = ((r.drop (j + 1)).all entOk && (m.drop (k + 1)).all (rowOk m.length)) from by rw [H1.out, show entOk x = true from by unfold entOk; simp; omega]; rfl)
              clear H1
              go_wp2
              go_roundg (r.length - (j + 1))
              case measure => omega
              case rel => exact ⟨j + 1, by go_num, by omega, H3, rfl⟩
            · have H1 := Lib.hid (show isMat m = (m.drop (k + 1)).all (rowOk m.length) from by rw [H.out, drop_len hlt2]; rfl)
              clear H
              go_wp2
              go_roundg (m.length - (k + 1))
              case measure => omega
              case rel => exact ⟨k + 1, by go_num, by omega, H1, rfl⟩
        · have H2 := Lib.hid (show isMat m = false from by rw [H1.out, rowOk_no hl]; rfl)
          have t1 : ((r.length : Int) != (m.length : Int)) = true := by simp; omega
          clear H1
          go_wp2
          go_ret
          exact ⟨by rw [H2.out]; rfl, rfl⟩
      · have H1 := Lib.hid (show isMat m = true from by rw [H.out, drop_len hlt]; rfl)
        clear H
        go_wp2
        go_ret
        exact ⟨by rw [H1.out]; rfl, rfl⟩
  · have H := Lib.hid (show isMat m = false from by unfold isMat; simp [hs])
    by_cases h1 : m.length < 1
    · go_enter Try.func93, Try.ntmps93
      go_wp2
      go_ret
      exact ⟨by rw [H.out]; rfl, rfl⟩
    · have h2 : 9 < m.length := by omega
      go_enter Try.func93, Try.ntmps93
      go_wp2
      go_ret
      exact ⟨by rw [H.out]; rfl, rfl⟩

set_option maxHeartbeats 800000 in
theorem spec_IsMatrix_c {w : World} {v : Value} {m : List (List Int)} (h : Tab w v m) :
    Calls Try.prog 89 #[v] w fun e w' => e = .returned (.bool (isMat m)) ∧ w = w' := by
  have hlen := h.len
  obtain ⟨a, c, rfl, _, _, hcell⟩ := h.shape
  clear h
  have H0 := Lib.hid (show isMat m = (decide (1 ≤ m.length ∧ m.length ≤ 9) && (m.drop 0).all (rowOk m.length)) from rfl)
  go_enter Try.func89, Try.ntmps89
  go_wp2
  go_loopg [3] (m.length) (fun g i wr => ∃ (k : Nat), i = .int .i64 k ∧ k + g = m.length ∧ Hid (isMat m = (decide (1 ≤ m.length ∧ m.length ≤ 9) && (m.drop k).all (rowOk m.length))) ∧ w = wr)
  case atStart => exact ⟨0, rfl, by omega, H0, rfl⟩
  case round =>
    obtain ⟨k, rfl, hk, H, rfl⟩ := hrel
    by_cases hlt : k < m.length
    · obtain ⟨b, o, rfl, hb, hx0⟩ := hcell (by omega)
      obtain ⟨r, hr, hd⟩ := at_lt hlt
      obtain ⟨u, hu, hru⟩ := hx0 k r hr
      have hrl := hru.len
      obtain ⟨ra, rc, rfl, _, _, hrc⟩ := hru.shape
      have H1 := Lib.hid (show isMat m = (decide (1 ≤ m.length ∧ m.length ≤ 9) && (rowOk m.length r && (m.drop (k + 1)).all (rowOk m.length))) from by rw [H.out, hd]; rfl)
      clear H hr hd hx0 hcell hru H0
      by_cases hl : r.length = m.length
      · have H2 := Lib.hid (show isMat m = (decide (1 ≤ m.length ∧ m.length ≤ 9) && ((r.drop 0).all entOk && (m.drop (k + 1)).all (rowOk m.length))) from by rw [H1.out, rowOk_yes hl]; rfl)
        have t1 : ((r.length : Int) != (m.length : Int)) = false := by simp [hl]
        have Hl := Lib.hid hl
        have hle : m.length ≤ r.length := by omega
        clear H1 hl
        go_wp2
        go_loopg [4] (m.length) (fun g i wr => ∃ (j : Nat), i = .int .i64 j ∧ j + g = m.length ∧ Hid (isMat m = (decide (1 ≤ m.length ∧ m.length ≤ 9) && ((r.drop j).all entOk && (m.drop (k + 1)).all (rowOk m.length)))) ∧ w = wr)
        case atStart => exact ⟨0, rfl, by omega, H2, rfl⟩
        case round =>
          obtain ⟨j, rfl, hj, H, rfl⟩ := hrel
          clear H2
          by_cases hlt2 : j < m.length
          · obtain ⟨b2, o2, rfl, hb2, hx2⟩ := hrc (by omega)
            obtain ⟨x, hx, hdx⟩ := at_lt (xs := r) (k := j) (by omega)
            obtain ⟨u2, hu2, rfl⟩ := hx2 j x hx
            have H1 := Lib.hid (show isMat m = (decide (1 ≤ m.length ∧ m.length ≤ 9) && (entOk x && (r.drop (j + 1)).all entOk && (m.drop (k + 1)).all (rowOk m.length))) from by rw [H.out, hdx]; rfl)
            clear H hx hdx hx2 hrc
            by_cases hx1 : 0 ≤ x ∧ x ≤ 1000000
            · have H3 := Lib.hid (show isMat m = (decide (1 ≤ m.length ∧ m.length ≤ 9) && ((r.drop (j + 1)).all entOk && (m.drop (k + 1)).all (rowOk m.length))) from by rw [H1.out, show entOk x = true from by unfold entOk; simp [hx1]]; rfl)
              have Hc := Lib.hid (l1In_yes w hx1.1 hx1.2)
              clear H1 hx1
              go_wp2_with (go_at_call 75; refine Hc.out.mono ?_; rintro e w' ⟨rfl, rfl⟩)
              go_roundg (m.length - (j + 1))
              case measure => omega
              case rel => exact ⟨j + 1, by go_num, by omega, H3, rfl⟩
            · have H3 := Lib.hid (show isMat m = false from by rw [H1.out, show entOk x = false from by unfold entOk; simp [hx1]]; simp)
              have Hc := Lib.hid (l1In_no (a := x) (b := 0) (c := 1000000) w (by omega))
              clear H1 hx1
              go_wp2_with (go_at_call 75; refine Hc.out.mono ?_; rintro e w' ⟨rfl, rfl⟩)
              go_ret
              exact ⟨by rw [H3.out]; rfl, rfl⟩
          · have H1 := Lib.hid (show isMat m = (decide (1 ≤ m.length ∧ m.length ≤ 9) && (m.drop (k + 1)).all (rowOk m.length)) from by rw [H.out, drop_len (by have := Hl.out; omega)]; rfl)
            clear H
            go_wp2
            go_roundg (m.length - (k + 1))
            case measure => omega
            case rel => exact ⟨k + 1, by go_num, by omega, H1, rfl⟩
      · have H2 := Lib.hid (show isMat m = false from by rw [H1.out, rowOk_no hl]; simp)
        have t1 : ((r.length : Int) != (m.length : Int)) = true := by simp; omega
        clear H1
        go_wp2
        go_ret
        exact ⟨by rw [H2.out]; rfl, rfl⟩
    · have H1 := Lib.hid (show isMat m = (decide (1 ≤ (m.length : Int)) && decide ((m.length : Int) ≤ 9)) from by rw [H.out, drop_len hlt]; simp; by_cases h1 : 1 ≤ m.length <;> by_cases h2 : m.length ≤ 9 <;> simp [h1, h2] <;> omega)
      have Hc := Lib.hid (l1In_c (m.length : Int) 1 9 w)
      clear H
      go_wp2_with (go_at_call 75; refine Hc.out.mono ?_; rintro e w' ⟨rfl, rfl⟩)
      go_ret
      exact ⟨by rw [H1.out]; rfl, rfl⟩
end Go.Proofs.Ytdohepngandajaa
