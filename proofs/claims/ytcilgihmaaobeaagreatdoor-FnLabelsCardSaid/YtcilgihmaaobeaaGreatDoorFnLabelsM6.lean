/-
  Laws for this claim's walks, contracts of the functions that it reaches.
-/
import Derived.Test.YtcilgihmaaobeaaGreatDoorFnLabelsM3
set_option linter.unusedVariables false
set_option linter.unusedSimpArgs false
section
namespace Go.Sd
open Go.RowKit Go.Deep
theorem boxA3_ex (w : World) (ty : TypeId) (v1 v2 v3 : Value) : ∃ w', w.alloc (.cells #[v1, v2, v3] ty) = w' ∧ Below w.heap.size w w' ∧ w'.cell? ⟨w.heap.size, 0, none⟩ = some v1 ∧ w'.cell? ⟨w.heap.size, 1, none⟩ = some v2 ∧ w'.cell? ⟨w.heap.size, 2, none⟩ = some v3 ∧ w.heap.size < w'.heap.size :=
  ⟨_, rfl, (Below.refl w.heap.size w).alloc (Nat.le_refl _) _, by simp, by simp, by simp, by simp⟩
theorem Ints.three {w : World} {b : Nat} {x y z : Int} (hb : b < w.heap.size) (h0 : w.cell? ⟨b, 0, none⟩ = some (.int .i64 x)) (h1 : w.cell? ⟨b, 1, none⟩ = some (.int .i64 y)) (h2 : w.cell? ⟨b, 2, none⟩ = some (.int .i64 z)) : Ints w (.slice (some ⟨b, 0, none⟩) 3 3) [x, y, z] := by
  refine ⟨[.int .i64 x, .int .i64 y, .int .i64 z], ⟨by simp, _, 3, rfl, by simp, by simp, by simp, Or.inr ⟨b, 0, rfl, hb, fun i u hu => ?_⟩⟩, rfl, fun i u v hu hv => ?_⟩
  · match i, hu with
    | 0, hu => simp at hu; subst hu; exact h0
    | 1, hu => simp at hu; subst hu; exact h1
    | 2, hu => simp at hu; subst hu; exact h2
    | i + 3, hu => simp at hu
  · match i, hu, hv with
    | 0, hu, hv => simp at hu hv; subst hu; subst hv; rfl
    | 1, hu, hv => simp at hu hv; subst hu; subst hv; rfl
    | 2, hu, hv => simp at hu hv; subst hu; subst hv; rfl
    | i + 3, hu, hv => simp at hu
end Go.Sd
namespace Go.Proofs.YtcilgihmaaobeaaGreatDoor
open Go.RowKit Go.Deep Go.Sd

def cmpI (a b : Int) : Int := if a < b then -1 else if b < a then 1 else 0
def orL : List Int → Int
  | [] => 0
  | x :: xs => if x ≠ 0 then x else orL xs
def cmpA (a b : Arc3) : Int := orL [cmpI a.1 b.1, cmpI a.2.2 b.2.2, cmpI a.2.1 b.2.1]
def before (a b : Arc3) : Bool := if a.1 ≠ b.1 then decide (a.1 < b.1) else if a.2.2 ≠ b.2.2 then decide (a.2.2 < b.2.2) else decide (a.2.1 < b.2.1)
theorem cmpA_nn (a b : Arc3) : (0 ≤ cmpA a b) ↔ before a b = false := by
  obtain ⟨a0, a1, a2⟩ := a
  obtain ⟨b0, b1, b2⟩ := b
  simp only [cmpA, before, orL, cmpI]
  repeat' split
  all_goals simp
  all_goals omega

theorem isNaN_c (x : Int) (w : World) : Calls Tryz.prog 115 #[.int .i64 x] w fun e w' => e = .returned (.bool false) ∧ w = w' := by
  have t1 : (x != x) = false := by simp
  go_enter Tryz.func115, Tryz.ntmps115
  go_wp2
  go_ret
  exact ⟨rfl, rfl⟩
theorem Compare_c (a b : Int) (w : World) : Calls Tryz.prog 86 #[.int .i64 a, .int .i64 b] w fun e w' => e = .returned (.int .i64 (cmpI a b)) ∧ w = w' := by
  have H1 := Lib.hid (isNaN_c a w)
  have H2 := Lib.hid (isNaN_c b w)
  by_cases h1 : a < b
  · have H := Lib.hid (show cmpI a b = -1 from by unfold cmpI; rw [if_pos h1])
    go_enter Tryz.func86, Tryz.ntmps86
    go_wp2_with fail
    refine H1.out.mono ?_
    rintro e w' ⟨rfl, rfl⟩
    go_wp2_with fail
    refine H2.out.mono ?_
    rintro e w' ⟨rfl, rfl⟩
    go_wp2
    go_ret
    exact ⟨by rw [H.out]; rfl, rfl⟩
  by_cases h2 : b < a
  · have H := Lib.hid (show cmpI a b = 1 from by unfold cmpI; rw [if_neg h1, if_pos h2])
    go_enter Tryz.func86, Tryz.ntmps86
    go_wp2_with fail
    refine H1.out.mono ?_
    rintro e w' ⟨rfl, rfl⟩
    go_wp2_with fail
    refine H2.out.mono ?_
    rintro e w' ⟨rfl, rfl⟩
    go_wp2
    go_ret
    exact ⟨by rw [H.out]; rfl, rfl⟩
  have H := Lib.hid (show cmpI a b = 0 from by unfold cmpI; rw [if_neg h1, if_neg h2])
  go_enter Tryz.func86, Tryz.ntmps86
  go_wp2_with fail
  refine H1.out.mono ?_
  rintro e w' ⟨rfl, rfl⟩
  go_wp2_with fail
  refine H2.out.mono ?_
  rintro e w' ⟨rfl, rfl⟩
  go_wp2
  go_ret
  exact ⟨by rw [H.out]; rfl, rfl⟩
set_option maxHeartbeats 400000 in
theorem Or_c {w : World} {v : Value} {xs : List Int} (h : Ints w v xs) : Calls Tryz.prog 85 #[v] w fun e w' => e = .returned (.int .i64 (orL xs)) ∧ w = w' := by
  have hlen := h.len
  obtain ⟨a, c, rfl, _, _, hcell⟩ := h.shape
  clear h
  have H0 := Lib.hid (show orL xs = orL (xs.drop 0) from rfl)
  go_enter Tryz.func85, Tryz.ntmps85
  go_wp2
  go_loopg [8] (xs.length) (fun g i wr => ∃ (k : Nat), i = .int .i64 k ∧ k + g = xs.length ∧ Hid (orL xs = orL (xs.drop k)) ∧ w = wr)
  case atStart => exact ⟨0, rfl, by omega, H0, rfl⟩
  case round =>
    obtain ⟨k, rfl, hk, H, rfl⟩ := hrel
    by_cases hlt : k < xs.length
    · obtain ⟨b, o, rfl, hb, hx0⟩ := hcell (by omega)
      obtain ⟨x, hx, hd⟩ := at_lt hlt
      obtain ⟨u, hu, rfl⟩ := hx0 k x hx
      have H1 := Lib.hid (show orL xs = if x ≠ 0 then x else orL (xs.drop (k + 1)) from by rw [H.out, hd]; rfl)
      clear H hx hd hx0 hcell H0
      by_cases hz : x = 0
      · have H2 := Lib.hid (show orL xs = orL (xs.drop (k + 1)) from by rw [H1.out, if_neg (by simp [hz])])
        have t1 : (x != 0) = false := by simp [hz]
        clear H1 hz
        go_wp2
        go_roundg (xs.length - (k + 1))
        case measure => omega
        case rel => exact ⟨k + 1, by go_num, by omega, H2, rfl⟩
      · have H2 := Lib.hid (show orL xs = x from by rw [H1.out, if_pos hz])
        have t1 : (x != 0) = true := by simp [hz]
        clear H1 hz
        go_wp2
        go_ret
        exact ⟨by rw [H2.out]; rfl, rfl⟩
    · have H1 := Lib.hid (show orL xs = 0 from by rw [H.out, drop_len hlt]; rfl)
      clear H
      go_wp2
      go_ret
      exact ⟨by rw [H1.out]; rfl, rfl⟩
set_option maxHeartbeats 400000 in
theorem l14Before_c (a b : Arc3) (w : World) : Calls Tryz.prog 65 #[.agg #[.int .i64 a.1, .int .i64 a.2.1, .int .i64 a.2.2], .agg #[.int .i64 b.1, .int .i64 b.2.1, .int .i64 b.2.2]] w fun e w' => e = .returned (.bool (before a b)) ∧ Below w.heap.size w w' := by
  obtain ⟨a0, a1, a2⟩ := a
  obtain ⟨b0, b1, b2⟩ := b
  have Hb := Lib.hid (fun (u u' : Obj) => ((Below.refl w.heap.size w).alloc (Nat.le_refl _) u).alloc (by simp) u')
  by_cases h0 : a0 = b0
  · have t0 : (a0 != b0) = false := by simp [h0]
    by_cases h2 : a2 = b2
    · have t2 : (a2 != b2) = false := by simp [h2]
      have H := Lib.hid (show before (a0, a1, a2) (b0, b1, b2) = decide (a1 < b1) from by unfold before; rw [if_neg (by simp [h0]), if_neg (by simp [h2])])
      clear h0 h2
      go_enter Tryz.func65, Tryz.ntmps65
      go_wp2
      go_ret
      exact ⟨by rw [H.out]; rfl, Hb.out _ _⟩
    · have t2 : (a2 != b2) = true := by simp [h2]
      have H := Lib.hid (show before (a0, a1, a2) (b0, b1, b2) = decide (a2 < b2) from by unfold before; rw [if_neg (by simp [h0]), if_pos (by simp [h2])])
      clear h0 h2
      go_enter Tryz.func65, Tryz.ntmps65
      go_wp2
      go_ret
      exact ⟨by rw [H.out]; rfl, Hb.out _ _⟩
  · have t0 : (a0 != b0) = true := by simp [h0]
    have H := Lib.hid (show before (a0, a1, a2) (b0, b1, b2) = decide (a0 < b0) from by unfold before; rw [if_pos (by simp [h0])])
    clear h0
    go_enter Tryz.func65, Tryz.ntmps65
    go_wp2
    go_ret
    exact ⟨by rw [H.out]; rfl, Hb.out _ _⟩
set_option maxHeartbeats 1000000 in
theorem compareArcs_c (a b : Arc3) (w : World) : Calls Tryz.prog 49 #[.agg #[.int .i64 a.1, .int .i64 a.2.1, .int .i64 a.2.2], .agg #[.int .i64 b.1, .int .i64 b.2.1, .int .i64 b.2.2]] w fun e w' => e = .returned (.int .i64 (cmpA a b)) ∧ Below w.heap.size w w' := by
  obtain ⟨a0, a1, a2⟩ := a
  obtain ⟨b0, b1, b2⟩ := b
  have H := Lib.hid (show cmpA (a0, a1, a2) (b0, b1, b2) = orL [cmpI a0 b0, cmpI a2 b2, cmpI a1 b1] from rfl)
  generalize cmpA (a0, a1, a2) (b0, b1, b2) = T at H ⊢
  have H0 := Lib.hid (fun w => Compare_c a0 b0 w)
  have H2 := Lib.hid (fun w => Compare_c a2 b2 w)
  have H1 := Lib.hid (fun w => Compare_c a1 b1 w)
  generalize cmpI a0 b0 = c0 at *
  generalize cmpI a2 b2 = c2 at *
  generalize cmpI a1 b1 = c1 at *
  go_enter Tryz.func49, Tryz.ntmps49
  go_wp2
  obtain ⟨w1, e1, hb1, p0, p1, p2, m1⟩ := boxA3_ex w 68 (.int .i64 a0) (.int .i64 a1) (.int .i64 a2)
  have z1 : w1.heap.size = w.heap.size + 1 := by rw [← e1]; simp
  obtain ⟨w2, e2, hb2, q0, q1, q2, m2⟩ := boxA3_ex w1 68 (.int .i64 b0) (.int .i64 b1) (.int .i64 b2)
  have z2 : w2.heap.size = w.heap.size + 1 + 1 := by rw [← e2]; simp [z1]
  rw [e1, e2]
  rw [z1] at q0 q1 q2
  have hb3 := hb1.trans (hb2.mono (by omega))
  replace p0 := (hb2.cell (p := ⟨w.heap.size, 0, none⟩) m1).trans p0
  replace p1 := (hb2.cell (p := ⟨w.heap.size, 1, none⟩) m1).trans p1
  replace p2 := (hb2.cell (p := ⟨w.heap.size, 2, none⟩) m1).trans p2
  clear e1 e2 hb1 hb2 m1 m2 z1 w1
  have hS0 : w2.cell? ⟨w.heap.size, 0, none⟩ = some (.int .i64 a0) ∧ w2.cell? ⟨w.heap.size, 1, none⟩ = some (.int .i64 a1) ∧ w2.cell? ⟨w.heap.size, 2, none⟩ = some (.int .i64 a2) ∧ w2.cell? ⟨w.heap.size + 1, 0, none⟩ = some (.int .i64 b0) ∧ w2.cell? ⟨w.heap.size + 1, 1, none⟩ = some (.int .i64 b1) ∧ w2.cell? ⟨w.heap.size + 1, 2, none⟩ = some (.int .i64 b2) := ⟨p0, p1, p2, q0, q1, q2⟩
  have hSd : w2.drew.cell? ⟨w.heap.size, 0, none⟩ = some (.int .i64 a0) ∧ w2.drew.cell? ⟨w.heap.size, 1, none⟩ = some (.int .i64 a1) ∧ w2.drew.cell? ⟨w.heap.size, 2, none⟩ = some (.int .i64 a2) ∧ w2.drew.cell? ⟨w.heap.size + 1, 0, none⟩ = some (.int .i64 b0) ∧ w2.drew.cell? ⟨w.heap.size + 1, 1, none⟩ = some (.int .i64 b1) ∧ w2.drew.cell? ⟨w.heap.size + 1, 2, none⟩ = some (.int .i64 b2) := hS0
  have hSa : (w2.drew.alloc (.cells #[.int .i64 c0, .int .i64 c2, .int .i64 c1] 3)).cell? ⟨w.heap.size, 0, none⟩ = some (.int .i64 a0) ∧ (w2.drew.alloc (.cells #[.int .i64 c0, .int .i64 c2, .int .i64 c1] 3)).cell? ⟨w.heap.size, 1, none⟩ = some (.int .i64 a1) ∧ (w2.drew.alloc (.cells #[.int .i64 c0, .int .i64 c2, .int .i64 c1] 3)).cell? ⟨w.heap.size, 2, none⟩ = some (.int .i64 a2) ∧ (w2.drew.alloc (.cells #[.int .i64 c0, .int .i64 c2, .int .i64 c1] 3)).cell? ⟨w.heap.size + 1, 0, none⟩ = some (.int .i64 b0) ∧ (w2.drew.alloc (.cells #[.int .i64 c0, .int .i64 c2, .int .i64 c1] 3)).cell? ⟨w.heap.size + 1, 1, none⟩ = some (.int .i64 b1) ∧ (w2.drew.alloc (.cells #[.int .i64 c0, .int .i64 c2, .int .i64 c1] 3)).cell? ⟨w.heap.size + 1, 2, none⟩ = some (.int .i64 b2) := ⟨(World.cell?_alloc_past _ _ _ (show w.heap.size < w2.heap.size by omega)).trans p0, (World.cell?_alloc_past _ _ _ (show w.heap.size < w2.heap.size by omega)).trans p1, (World.cell?_alloc_past _ _ _ (show w.heap.size < w2.heap.size by omega)).trans p2, (World.cell?_alloc_past _ _ _ (show w.heap.size + 1 < w2.heap.size by omega)).trans q0, (World.cell?_alloc_past _ _ _ (show w.heap.size + 1 < w2.heap.size by omega)).trans q1, (World.cell?_alloc_past _ _ _ (show w.heap.size + 1 < w2.heap.size by omega)).trans q2⟩
  have hSb : (w2.alloc (.cells #[.int .i64 c0, .int .i64 c2, .int .i64 c1] 3)).drew.cell? ⟨w.heap.size, 0, none⟩ = some (.int .i64 a0) ∧ (w2.alloc (.cells #[.int .i64 c0, .int .i64 c2, .int .i64 c1] 3)).drew.cell? ⟨w.heap.size, 1, none⟩ = some (.int .i64 a1) ∧ (w2.alloc (.cells #[.int .i64 c0, .int .i64 c2, .int .i64 c1] 3)).drew.cell? ⟨w.heap.size, 2, none⟩ = some (.int .i64 a2) ∧ (w2.alloc (.cells #[.int .i64 c0, .int .i64 c2, .int .i64 c1] 3)).drew.cell? ⟨w.heap.size + 1, 0, none⟩ = some (.int .i64 b0) ∧ (w2.alloc (.cells #[.int .i64 c0, .int .i64 c2, .int .i64 c1] 3)).drew.cell? ⟨w.heap.size + 1, 1, none⟩ = some (.int .i64 b1) ∧ (w2.alloc (.cells #[.int .i64 c0, .int .i64 c2, .int .i64 c1] 3)).drew.cell? ⟨w.heap.size + 1, 2, none⟩ = some (.int .i64 b2) := ⟨(World.cell?_alloc_past _ _ _ (show w.heap.size < w2.heap.size by omega)).trans p0, (World.cell?_alloc_past _ _ _ (show w.heap.size < w2.heap.size by omega)).trans p1, (World.cell?_alloc_past _ _ _ (show w.heap.size < w2.heap.size by omega)).trans p2, (World.cell?_alloc_past _ _ _ (show w.heap.size + 1 < w2.heap.size by omega)).trans q0, (World.cell?_alloc_past _ _ _ (show w.heap.size + 1 < w2.heap.size by omega)).trans q1, (World.cell?_alloc_past _ _ _ (show w.heap.size + 1 < w2.heap.size by omega)).trans q2⟩
  have HI := Lib.hid (Ints.three (w := w2.drew.alloc (.cells #[.int .i64 c0, .int .i64 c2, .int .i64 c1] 3)) (b := w2.heap.size) (x := c0) (y := c2) (z := c1) (by simp) (World.cell?_alloc_at _ _ _ 0 rfl) (World.cell?_alloc_at _ _ _ 1 rfl) (World.cell?_alloc_at _ _ _ 2 rfl))
  have HI2 := Lib.hid (Ints.three (w := (w2.alloc (.cells #[.int .i64 c0, .int .i64 c2, .int .i64 c1] 3)).drew) (b := w2.heap.size) (x := c0) (y := c2) (z := c1) (by simp) (World.cell?_alloc_at _ _ _ 0 rfl) (World.cell?_alloc_at _ _ _ 1 rfl) (World.cell?_alloc_at _ _ _ 2 rfl))
  have Hbf2 := Lib.hid ((hb3.alloc (show w.heap.size ≤ w2.heap.size by omega) (.cells #[.int .i64 c0, .int .i64 c2, .int .i64 c1] 3)).drew)
  have Hbf := Lib.hid ((hb3.drew).alloc (show w.heap.size ≤ w2.heap.size by omega) (.cells #[.int .i64 c0, .int .i64 c2, .int .i64 c1] 3))
  clear hb3 z2 p0 p1 p2 q0 q1 q2
  go_region_held3 (fun w' => w'.cell? ⟨w.heap.size, 0, none⟩ = some (.int .i64 a0) ∧ w'.cell? ⟨w.heap.size, 1, none⟩ = some (.int .i64 a1) ∧ w'.cell? ⟨w.heap.size, 2, none⟩ = some (.int .i64 a2) ∧ w'.cell? ⟨w.heap.size + 1, 0, none⟩ = some (.int .i64 b0) ∧ w'.cell? ⟨w.heap.size + 1, 1, none⟩ = some (.int .i64 b1) ∧ w'.cell? ⟨w.heap.size + 1, 2, none⟩ = some (.int .i64 b2))
    (first | with_reducible exact hSd | with_reducible exact hSa | with_reducible exact hSb | with_reducible exact hS0 | go_keep)
    ((first
      | (go_at_call 86; with_reducible refine (H0.out _).mono ?_; rintro e w' ⟨rfl, rfl⟩)
      | (go_at_call 86; with_reducible refine (H2.out _).mono ?_; rintro e w' ⟨rfl, rfl⟩)
      | (go_at_call 86; with_reducible refine (H1.out _).mono ?_; rintro e w' ⟨rfl, rfl⟩)
      | (go_at_call 85; with_reducible refine (Or_c HI.out).mono ?_; rintro e w' ⟨rfl, rfl⟩; have Hbz := Hbf)
      | (go_at_call 85; with_reducible refine (Or_c HI2.out).mono ?_; rintro e w' ⟨rfl, rfl⟩; have Hbz := Hbf2)
      | fail))
  all_goals (go_wp2; go_ret; exact ⟨by rw [H.out]; rfl, Hbz.out⟩)
end Go.Proofs.YtcilgihmaaobeaaGreatDoor
end
