/-
  Texts of this claim joined: laws for its walks, contracts of the functions that the law reaches.
-/
import Derived.Test.YtdohepngandajaaRows
import Derived.Test.YtdohepngandajaaFnPureM1
import Derived.Test.YtdohepngandajaaFnPureM2
import Derived.Deep.RegionHeld3
import Derived.Deep.DeepCutAuto
import Derived.Laws.BitsLemmas
import Derived.Deep.OwnRows
import Derived.OwnWalk
import Derived.Handy
section
/-
  Arcs compared, both sides.
-/
namespace Go.Sd
open Go.RowKit Go.Deep
theorem boxA3_ex (w : World) (ty : TypeId) (v1 v2 v3 : Value) : ∃ w', w.alloc (.cells #[v1, v2, v3] ty) = w' ∧ Below w.heap.size w w' ∧ w'.cell? ⟨w.heap.size, 0, none⟩ = some v1 ∧ w'.cell? ⟨w.heap.size, 1, none⟩ = some v2 ∧ w'.cell? ⟨w.heap.size, 2, none⟩ = some v3 ∧ w.heap.size < w'.heap.size :=
  ⟨_, rfl, (Below.refl w.heap.size w).alloc (Nat.le_refl _) _, by simp, by simp, by simp, by simp⟩
theorem Ints.three {w : World} {b : Nat} {x y z : Int} (hb : b < w.heap.size) (h0 : w.cell? ⟨b, 0, none⟩ = some (.int .i64 x)) (h1 : w.cell? ⟨b, 1, none⟩ = some (.int .i64 y)) (h2 : w.cell? ⟨b, 2, none⟩ = some (.int .i64 z)) : Ints w (.slice (some ⟨b, 0, none⟩) 3 3) [x, y, z] := by
  refine ⟨[.int .i64 x, .int .i64 y, .int .i64 z], ⟨by simp, _, 3, rfl, by simp, by simp, by simp, Or.inr ⟨b, 0, rfl, hb, fun i u hu => ?_⟩⟩, rfl, fun i u v hu hv => ?_⟩
  · match i, hu with
    | 0, hu => simp at hu; subst hu; exact h0
    | 1, hu => simp at hu; subst hu; exact h1
    | 2, hu => simp at hu; subst hu; exact h2
    | i + 3, hu => simp at hu
  · match i, hu, hv with
    | 0, hu, hv => simp at hu hv; subst hu; subst hv; rfl
    | 1, hu, hv => simp at hu hv; subst hu; subst hv; rfl
    | 2, hu, hv => simp at hu hv; subst hu; subst hv; rfl
    | i + 3, hu, hv => simp at hu
end Go.Sd
namespace Go.Proofs.Ytdohepngandajaa
open Go.RowKit Go.Deep Go.Sd

def cmpI (a b : Int) : Int := if a < b then -1 else if b < a then 1 else 0
def orL : List Int → Int
  | [] => 0
  | x :: xs => if x ≠ 0 then x else orL xs
def cmpA (a b : Arc3) : Int := orL [cmpI a.1 b.1, cmpI a.2.2 b.2.2, cmpI a.2.1 b.2.1]
def before (a b : Arc3) : Bool := if a.1 ≠ b.1 then decide (a.1 < b.1) else if a.2.2 ≠ b.2.2 then decide (a.2.2 < b.2.2) else decide (a.2.1 < b.2.1)
theorem cmpA_nn (a b : Arc3) : (0 ≤ cmpA a b) ↔ before a b = false := by
  obtain ⟨a0, a1, a2⟩ := a
  obtain ⟨b0, b1, b2⟩ := b
  simp only [cmpA, before, orL, cmpI]
  repeat' split
  all_goals simp
  all_goals omega

theorem isNaN_c (x : Int) (w : World) : Calls Try.prog 223 #[.int .i64 x] w fun e w' => e = .returned (.bool false) ∧ w = w' := by
  have t1 : (x != x) = false := by simp
  go_enter Try.func223, Try.ntmps223
  go_wp2
  go_ret
  exact ⟨rfl, rfl⟩
theorem Compare_c (a b : Int) (w : World) : Calls Try.prog 183 #[.int .i64 a, .int .i64 b] w fun e w' => e = .returned (.int .i64 (cmpI a b)) ∧ w = w' := by
  have H1 := Lib.hid (isNaN_c a w)
  have H2 := Lib.hid (isNaN_c b w)
  by_cases h1 : a < b
  · have H := Lib.hid (show cmpI a b = -1 from by unfold cmpI; rw [if_pos h1])
    go_enter Try.func183, Try.ntmps183
    go_wp2_with fail
    refine H1.out.mono ?_
    rintro e w' ⟨rfl, rfl⟩
    go_wp2_with fail
    refine H2.out.mono ?_
    rintro e w' ⟨rfl, rfl⟩
    go_wp2
    go_ret
    exact ⟨by rw [H.out]; rfl, rfl⟩
  by_cases h2 : b < a
  · have H := Lib.hid (show cmpI a b = 1 from by unfold cmpI; rw [if_neg h1, if_pos h2])
    go_enter Try.func183, Try.ntmps183
    go_wp2_with fail
    refine H1.out.mono ?_
    rintro e w' ⟨rfl, rfl⟩
    go_wp2_with fail
    refine H2.out.mono ?_
    rintro e w' ⟨rfl, rfl⟩
    go_wp2
    go_ret
    exact ⟨by rw [H.out]; rfl, rfl⟩
  have H := Lib.hid (show cmpI a b = 0 from by unfold cmpI; rw [if_neg h1, if_neg h2])
  go_enter Try.func183, Try.ntmps183
  go_wp2_with fail
  refine H1.out.mono ?_
  rintro e w' ⟨rfl, rfl⟩
  go_wp2_with fail
  refine H2.out.mono ?_
  rintro e w' ⟨rfl, rfl⟩
  go_wp2
  go_ret
  exact ⟨by rw [H.out]; rfl, rfl⟩
set_option maxHeartbeats 400000 in
theorem Or_c {w : World} {v : Value} {xs : List Int} (h : Ints w v xs) : Calls Try.prog 182 #[v] w fun e w' => e = .returned (.int .i64 (orL xs)) ∧ w = w' := by
  have hlen := h.len
  obtain ⟨a, c, rfl, _, _, hcell⟩ := h.shape
  clear h
  have H0 := Lib.hid (show orL xs = orL (xs.drop 0) from rfl)
  go_enter Try.func182, Try.ntmps182
  go_wp2
  go_loopg [8] (xs.length) (fun g i wr => ∃ (k : Nat), i = .int .i64 k ∧ k + g = xs.length ∧ Hid (orL xs = orL (xs.drop k)) ∧ w = wr)
  case atStart => exact ⟨0, rfl, by omega, H0, rfl⟩
  case round =>
    obtain ⟨k, rfl, hk, H, rfl⟩ := hrel
    by_cases hlt : k < xs.length
    · obtain ⟨b, o, rfl, hb, hx0⟩ := hcell (by omega)
      obtain ⟨x, hx, hd⟩ := at_lt hlt
      obtain ⟨u, hu, rfl⟩ := hx0 k x hx
      have H1 := Lib.hid (show orL xs = if x ≠ 0 then x else orL (xs.drop (k + 1)) from by rw [H.out, hd]; rfl)
      clear H hx hd hx0 hcell H0
      by_cases hz : x = 0
      · have H2 := Lib.hid (show orL xs = orL (xs.drop (k + 1)) from by rw [H1.out, if_neg (by simp [hz])])
        have t1 : (x != 0) = false := by simp [hz]
        clear H1 hz
        go_wp2
        go_roundg (xs.length - (k + 1))
        case measure => omega
        case rel => exact ⟨k + 1, by go_num, by omega, H2, rfl⟩
      · have H2 := Lib.hid (show orL xs = x from by rw [H1.out, if_pos hz])
        have t1 : (x != 0) = true := by simp [hz]
        clear H1 hz
        go_wp2
        go_ret
        exact ⟨by rw [H2.out]; rfl, rfl⟩
    · have H1 := Lib.hid (show orL xs = 0 from by rw [H.out, drop_len hlt]; rfl)
      clear H
      go_wp2
      go_ret
      exact ⟨by rw [H1.out]; rfl, rfl⟩
set_option maxHeartbeats 400000 in
theorem l14Before_c (a b : Arc3) (w : World) : Calls Try.prog 141 #[.agg #[.int .i64 a.1, .int .i64 a.2.1, .int .i64 a.2.2], .agg #[.int .i64 b.1, .int .i64 b.2.1, .int .i64 b.2.2]] w fun e w' => e = .returned (.bool (before a b)) ∧ Below w.heap.size w w' := by
  obtain ⟨a0, a1, a2⟩ := a
  obtain ⟨b0, b1, b2⟩ := b
  have Hb := Lib.hid (fun (u u' : Obj) => ((Below.refl w.heap.size w).alloc (Nat.le_refl _) u).alloc (by simp) u')
  by_cases h0 : a0 = b0
  · have t0 : (a0 != b0) = false := by simp [h0]
    by_cases h2 : a2 = b2
    · have t2 : (a2 != b2) = false := by simp [h2]
      have H := Lib.hid (show before (a0, a1, a2) (b0, b1, b2) = decide (a1 < b1) from by unfold before; rw [if_neg (by simp [h0]), if_neg (by simp [h2])])
      clear h0 h2
      go_enter Try.func141, Try.ntmps141
      go_wp2
      go_ret
      exact ⟨by rw [H.out]; rfl, Hb.out _ _⟩
    · have t2 : (a2 != b2) = true := by simp [h2]
      have H := Lib.hid (show before (a0, a1, a2) (b0, b1, b2) = decide (a2 < b2) from by unfold before; rw [if_neg (by simp [h0]), if_pos (by simp [h2])])
      clear h0 h2
      go_enter Try.func141, Try.ntmps141
      go_wp2
      go_ret
      exact ⟨by rw [H.out]; rfl, Hb.out _ _⟩
  · have t0 : (a0 != b0) = true := by simp [h0]
    have H := Lib.hid (show before (a0, a1, a2) (b0, b1, b2) = decide (a0 < b0) from by unfold before; rw [if_pos (by simp [h0])])
    clear h0
    go_enter Try.func141, Try.ntmps141
    go_wp2
    go_ret
    exact ⟨by rw [H.out]; rfl, Hb.out _ _⟩
set_option maxHeartbeats 1000000 in
theorem compareArcs_c (a b : Arc3) (w : World) : Calls Try.prog 118 #[.agg #[.int .i64 a.1, .int .i64 a.2.1, .int .i64 a.2.2], .agg #[.int .i64 b.1, .int .i64 b.2.1, .int .i64 b.2.2]] w fun e w' => e = .returned (.int .i64 (cmpA a b)) ∧ Below w.heap.size w w' := by
  obtain ⟨a0, a1, a2⟩ := a
  obtain ⟨b0, b1, b2⟩ := b
  have H := Lib.hid (show cmpA (a0, a1, a2) (b0, b1, b2) = orL [cmpI a0 b0, cmpI a2 b2, cmpI a1 b1] from rfl)
  generalize cmpA (a0, a1, a2) (b0, b1, b2) = T at H ⊢
  have H0 := Lib.hid (fun w => Compare_c a0 b0 w)
  have H2 := Lib.hid (fun w => Compare_c a2 b2 w)
  have H1 := Lib.hid (fun w => Compare_c a1 b1 w)
  generalize cmpI a0 b0 = c0 at *
  generalize cmpI a2 b2 = c2 at *
  generalize cmpI a1 b1 = c1 at *
  go_enter Try.func118, Try.ntmps118
  go_wp2
  obtain ⟨w1, e1, hb1, p0, p1, p2, m1⟩ := boxA3_ex w 72 (.int .i64 a0) (.int .i64 a1) (.int .i64 a2)
  have z1 : w1.heap.size = w.heap.size + 1 := by rw [← e1]; simp
  obtain ⟨w2, e2, hb2, q0, q1, q2, m2⟩ := boxA3_ex w1 72 (.int .i64 b0) (.int .i64 b1) (.int .i64 b2)
  have z2 : w2.heap.size = w.heap.size + 1 + 1 := by rw [← e2]; simp [z1]
  rw [e1, e2]
  rw [z1] at q0 q1 q2
  have hb3 := hb1.trans (hb2.mono (by omega))
  replace p0 := (hb2.cell (p := ⟨w.heap.size, 0, none⟩) m1).trans p0
  replace p1 := (hb2.cell (p := ⟨w.heap.size, 1, none⟩) m1).trans p1
  replace p2 := (hb2.cell (p := ⟨w.heap.size, 2, none⟩) m1).trans p2
  clear e1 e2 hb1 hb2 m1 m2 z1 w1
  have hS0 : w2.cell? ⟨w.heap.size, 0, none⟩ = some (.int .i64 a0) ∧ w2.cell? ⟨w.heap.size, 1, none⟩ = some (.int .i64 a1) ∧ w2.cell? ⟨w.heap.size, 2, none⟩ = some (.int .i64 a2) ∧ w2.cell? ⟨w.heap.size + 1, 0, none⟩ = some (.int .i64 b0) ∧ w2.cell? ⟨w.heap.size + 1, 1, none⟩ = some (.int .i64 b1) ∧ w2.cell? ⟨w.heap.size + 1, 2, none⟩ = some (.int .i64 b2) := ⟨p0, p1, p2, q0, q1, q2⟩
  have hSd : w2.drew.cell? ⟨w.heap.size, 0, none⟩ = some (.int .i64 a0) ∧ w2.drew.cell? ⟨w.heap.size, 1, none⟩ = some (.int .i64 a1) ∧ w2.drew.cell? ⟨w.heap.size, 2, none⟩ = some (.int .i64 a2) ∧ w2.drew.cell? ⟨w.heap.size + 1, 0, none⟩ = some (.int .i64 b0) ∧ w2.drew.cell? ⟨w.heap.size + 1, 1, none⟩ = some (.int .i64 b1) ∧ w2.drew.cell? ⟨w.heap.size + 1, 2, none⟩ = some (.int .i64 b2) := hS0
  have hSa : (w2.drew.alloc (.cells #[.int .i64 c0, .int .i64 c2, .int .i64 c1] 3)).cell? ⟨w.heap.size, 0, none⟩ = some (.int .i64 a0) ∧ (w2.drew.alloc (.cells #[.int .i64 c0, .int .i64 c2, .int .i64 c1] 3)).cell? ⟨w.heap.size, 1, none⟩ = some (.int .i64 a1) ∧ (w2.drew.alloc (.cells #[.int .i64 c0, .int .i64 c2, .int .i64 c1] 3)).cell? ⟨w.heap.size, 2, none⟩ = some (.int .i64 a2) ∧ (w2.drew.alloc (.cells #[.int .i64 c0, .int .i64 c2, .int .i64 c1] 3)).cell? ⟨w.heap.size + 1, 0, none⟩ = some (.int .i64 b0) ∧ (w2.drew.alloc (.cells #[.int .i64 c0, .int .i64 c2, .int .i64 c1] 3)).cell? ⟨w.heap.size + 1, 1, none⟩ = some (.int .i64 b1) ∧ (w2.drew.alloc (.cells #[.int .i64 c0, .int .i64 c2, .int .i64 c1] 3)).cell? ⟨w.heap.size + 1, 2, none⟩ = some (.int .i64 b2) := ⟨(World.cell?_alloc_past _ _ _ (show w.heap.size < w2.heap.size by omega)).trans p0, (World.cell?_alloc_past _ _ _ (show w.heap.size < w2.heap.size by omega)).trans p1, (World.cell?_alloc_past _ _ _ (show w.heap.size < w2.heap.size by omega)).trans p2, (World.cell?_alloc_past _ _ _ (show w.heap.size + 1 < w2.heap.size by omega)).trans q0, (World.cell?_alloc_past _ _ _ (show w.heap.size + 1 < w2.heap.size by omega)).trans q1, (World.cell?_alloc_past _ _ _ (show w.heap.size + 1 < w2.heap.size by omega)).trans q2⟩
  have hSb : (w2.alloc (.cells #[.int .i64 c0, .int .i64 c2, .int .i64 c1] 3)).drew.cell? ⟨w.heap.size, 0, none⟩ = some (.int .i64 a0) ∧ (w2.alloc (.cells #[.int .i64 c0, .int .i64 c2, .int .i64 c1] 3)).drew.cell? ⟨w.heap.size, 1, none⟩ = some (.int .i64 a1) ∧ (w2.alloc (.cells #[.int .i64 c0, .int .i64 c2, .int .i64 c1] 3)).drew.cell? ⟨w.heap.size, 2, none⟩ = some (.int .i64 a2) ∧ (w2.alloc (.cells #[.int .i64 c0, .int .i64 c2, .int .i64 c1] 3)).drew.cell? ⟨w.heap.size + 1, 0, none⟩ = some (.int .i64 b0) ∧ (w2.alloc (.cells #[.int .i64 c0, .int .i64 c2, .int .i64 c1] 3)).drew.cell? ⟨w.heap.size + 1, 1, none⟩ = some (.int .i64 b1) ∧ (w2.alloc (.cells #[.int .i64 c0, .int .i64 c2, .int .i64 c1] 3)).drew.cell? ⟨w.heap.size + 1, 2, none⟩ = some (.int .i64 b2) := ⟨(World.cell?_alloc_past _ _ _ (show w.heap.size < w2.heap.size by omega)).trans p0, (World.cell?_alloc_past _ _ _ (show w.heap.size < w2.heap.size by omega)).trans p1, (World.cell?_alloc_past _ _ _ (show w.heap.size < w2.heap.size by omega)).trans p2, (World.cell?_alloc_past _ _ _ (show w.heap.size + 1 < w2.heap.size by omega)).trans q0, (World.cell?_alloc_past _ _ _ (show w.heap.size + 1 < w2.heap.size by omega)).trans q1, (World.cell?_alloc_past _ _ _ (show w.heap.size + 1 < w2.heap.size by omega)).trans q2⟩
  have HI := Lib.hid (Ints.three (w := w2.drew.alloc (.cells #[.int .i64 c0, .int .i64 c2, .int .i64 c1] 3)) (b := w2.heap.size) (x := c0) (y := c2) (z := c1) (by simp) (World.cell?_alloc_at _ _ _ 0 rfl) (World.cell?_alloc_at _ _ _ 1 rfl) (World.cell?_alloc_at _ _ _ 2 rfl))
  have HI2 := Lib.hid (Ints.three (w := (w2.alloc (.cells #[.int .i64 c0, .int .i64 c2, .int .i64 c1] 3)).drew) (b := w2.heap.size) (x := c0) (y := c2) (z := c1) (by simp) (World.cell?_alloc_at _ _ _ 0 rfl) (World.cell?_alloc_at _ _ _ 1 rfl) (World.cell?_alloc_at _ _ _ 2 rfl))
  have Hbf2 := Lib.hid ((hb3.alloc (show w.heap.size ≤ w2.heap.size by omega) (.cells #[.int .i64 c0, .int .i64 c2, .int .i64 c1] 3)).drew)
  have Hbf := Lib.hid ((hb3.drew).alloc (show w.heap.size ≤ w2.heap.size by omega) (.cells #[.int .i64 c0, .int .i64 c2, .int .i64 c1] 3))
  clear hb3 z2 p0 p1 p2 q0 q1 q2
  go_region_held3 (fun w' => w'.cell? ⟨w.heap.size, 0, none⟩ = some (.int .i64 a0) ∧ w'.cell? ⟨w.heap.size, 1, none⟩ = some (.int .i64 a1) ∧ w'.cell? ⟨w.heap.size, 2, none⟩ = some (.int .i64 a2) ∧ w'.cell? ⟨w.heap.size + 1, 0, none⟩ = some (.int .i64 b0) ∧ w'.cell? ⟨w.heap.size + 1, 1, none⟩ = some (.int .i64 b1) ∧ w'.cell? ⟨w.heap.size + 1, 2, none⟩ = some (.int .i64 b2))
    (first | with_reducible exact hSd | with_reducible exact hSa | with_reducible exact hSb | with_reducible exact hS0 | go_keep)
    ((first
      | (go_at_call 183; with_reducible refine (H0.out _).mono ?_; rintro e w' ⟨rfl, rfl⟩)
      | (go_at_call 183; with_reducible refine (H2.out _).mono ?_; rintro e w' ⟨rfl, rfl⟩)
      | (go_at_call 183; with_reducible refine (H1.out _).mono ?_; rintro e w' ⟨rfl, rfl⟩)
      | (go_at_call 182; with_reducible refine (Or_c HI.out).mono ?_; rintro e w' ⟨rfl, rfl⟩; have Hbz := Hbf)
      | (go_at_call 182; with_reducible refine (Or_c HI2.out).mono ?_; rintro e w' ⟨rfl, rfl⟩; have Hbz := Hbf2)
      | fail))
  all_goals (go_wp2; go_ret; exact ⟨by rw [H.out]; rfl, Hbz.out⟩)
end Go.Proofs.Ytdohepngandajaa
end

section
/-
  A Bool holds of all numbers from one on.
-/
namespace Go.Proofs.Ytdohepngandajaa
open Go.RowKit Go.Deep Go.Sd
/-- All of the next g numbers from k on. -/
def allF (h : Nat → Bool) : Nat → Nat → Bool
  | 0, _ => true
  | g + 1, k => if h k = true then allF h g (k + 1) else false
end Go.Proofs.Ytdohepngandajaa
end

section
/-
  Which labelled graphs are valid: the model.
-/
namespace Go.Proofs.Ytdohepngandajaa
open Go.RowKit Go.Deep Go.Sd

def at3 (xs : List Arc3) (k : Nat) : Arc3 := xs.getD k (0, 0, 0)
theorem at3_of {xs : List Arc3} {k : Nat} {x : Arc3} (h : xs[k]? = some x) : at3 xs k = x := by simp [at3, List.getD, h]
def arcOk (L S : Int) (x : Arc3) : Bool := decide (0 ≤ x.1 ∧ x.1 < S ∧ 0 ≤ x.2.1 ∧ x.2.1 < S ∧ 0 ≤ x.2.2 ∧ x.2.2 < L)
def arcB (L S : Int) (xs : List Arc3) (k : Nat) : Bool := arcOk L S (at3 xs k) && (decide (k = 0) || before (at3 xs (k - 1)) (at3 xs k))
def isLab (l : Lb) : Bool := decide (1 ≤ l.1 ∧ l.1 ≤ 3) && (decide (1 ≤ l.2.1 ∧ l.2.1 ≤ 12) && allF (arcB l.1 l.2.1 l.2.2) l.2.2.length 0)

end Go.Proofs.Ytdohepngandajaa
end

section
/-
  Labelled graphs: the sets of states to which letters and words lead: the model.
-/
namespace Go.Proofs.Ytdohepngandajaa
open Go.RowKit Go.Deep Go.Sd

theorem i64_and1 (n : Int) : bits .and .i64 n 1 = n % 2 := by
  have h1 : (BitVec.ofInt 64 1).toNat = 2 ^ 1 - 1 := by decide
  have key : (BitVec.ofInt 64 n &&& BitVec.ofInt 64 1).toNat = (n % ((2 ^ 64 : Nat) : Int)).toNat % 2 ^ 1 := by
    rw [BitVec.toNat_and, BitVec.toNat_ofInt, h1, Nat.and_two_pow_sub_one_eq_mod]
  show IntKind.i64.wrap ((BitVec.ofInt 64 n &&& BitVec.ofInt 64 1).toNat : Nat) = n % 2
  rw [key, IntKind.wrap_i64]
  omega
theorem ofInt_i64 (a : Nat) (ha : a < 9223372036854775808) : (BitVec.ofInt 64 (a : Int)).toNat = a := by
  rw [BitVec.ofInt_natCast, BitVec.toNat_ofNat]; exact Nat.mod_eq_of_lt (by omega)
theorem i64_or (a b : Nat) (ha : a < 9223372036854775808) (hb : b < 9223372036854775808) : bits .or .i64 (a : Int) (b : Int) = ((a ||| b : Nat) : Int) := by
  have hx : a ||| b < 2 ^ 63 := Nat.or_lt_two_pow (by omega) (by omega)
  show IntKind.i64.wrap ((BitVec.ofInt 64 (a : Int) ||| BitVec.ofInt 64 (b : Int)).toNat : Nat) = _
  rw [BitVec.toNat_or, ofInt_i64 a ha, ofInt_i64 b hb, IntKind.wrap_i64]
  omega

/-- An arc leads on from a set, with a letter. -/
def hit (s : Nat) (x : Int) (a : Arc3) : Bool := decide (a.2.2 = x) && s.testBit a.1.toNat
def stepL (s : Nat) (x : Int) : List Arc3 → Nat → Nat
  | [], out => out
  | a :: ys, out => stepL s x ys (if hit s x a = true then out ||| 2 ^ a.2.1.toNat else out)
def stepN (xs : List Arc3) (s : Nat) (x : Int) : Nat := stepL s x xs 0
def readL (xs : List Arc3) : List Int → Nat → Nat
  | [], s => s
  | x :: w, s => readL xs w (stepN xs s x)

def okArcs (S : Int) (xs : List Arc3) : Prop := ∀ a, a ∈ xs → 0 ≤ a.1 ∧ a.1 < S ∧ 0 ≤ a.2.1 ∧ a.2.1 < S
theorem allF_at {f : Nat → Bool} : ∀ {m k : Nat}, allF f m k = true → ∀ j, j < m → f (k + j) = true
  | 0, _, _, j, hj => by omega
  | m + 1, k, h, j, hj => by
    have h1 : (if f k = true then allF f m (k + 1) else false) = true := h
    by_cases hk : f k = true
    · rw [if_pos hk] at h1
      cases j with
      | zero => exact hk
      | succ j => rw [show k + (j + 1) = k + 1 + j by omega]; exact allF_at h1 j (by omega)
    · rw [if_neg hk] at h1; cases h1
theorem isLab_ok {l : Lb} (h : isLab l = true) : okArcs l.2.1 l.2.2 ∧ 1 ≤ l.2.1 ∧ l.2.1 ≤ 12 ∧ 1 ≤ l.1 ∧ l.1 ≤ 3 := by
  unfold isLab at h
  rw [Bool.and_eq_true, Bool.and_eq_true, decide_eq_true_eq, decide_eq_true_eq] at h
  refine ⟨fun a ha => ?_, h.2.1.1, h.2.1.2, h.1.1, h.1.2⟩
  obtain ⟨k, hk⟩ := List.getElem?_of_mem ha
  have h1 := allF_at h.2.2 k (List.getElem?_eq_some_iff.1 hk).1
  rw [Nat.zero_add] at h1
  unfold arcB at h1
  rw [Bool.and_eq_true, at3_of hk] at h1
  have h2 := h1.1
  unfold arcOk at h2
  rw [decide_eq_true_eq] at h2
  exact ⟨h2.1, h2.2.1, h2.2.2.1, h2.2.2.2.1⟩
theorem stepL_lt {S : Int} {N : Nat} (hN : S.toNat ≤ N) : ∀ {xs : List Arc3}, okArcs S xs → ∀ (s : Nat) (x : Int) (out : Nat), out < 2 ^ N → stepL s x xs out < 2 ^ N
  | [], _, _, _, _, h => h
  | a :: ys, ha, s, x, out, h => by
    unfold stepL
    refine stepL_lt hN (fun b hb => ha b (List.mem_cons_of_mem _ hb)) s x _ ?_
    split
    · have := ha a (by simp)
      exact Nat.or_lt_two_pow h (Nat.pow_lt_pow_right (by omega) (by omega))
    · exact h
theorem stepN_lt {S : Int} {xs : List Arc3} (h : okArcs S xs) (hS : S ≤ 12) (s : Nat) (x : Int) : stepN xs s x < 4096 :=
  stepL_lt (N := 12) (by omega) h s x 0 (by decide)
theorem readL_lt {S : Int} {xs : List Arc3} (h : okArcs S xs) (hS : S ≤ 12) : ∀ (w : List Int) (s : Nat), s < 4096 → readL xs w s < 4096
  | [], _, hs => hs
  | x :: w, s, _ => readL_lt h hS w _ (stepN_lt h hS s x)
theorem okArcs_at {S : Int} {xs : List Arc3} (h : okArcs S xs) {k : Nat} {x : Arc3} (hx : xs[k]? = some x) : 0 ≤ x.1 ∧ x.1 < S ∧ 0 ≤ x.2.1 ∧ x.2.1 < S := h x (List.mem_of_getElem? hx)

end Go.Proofs.Ytdohepngandajaa
end

section
/-
  append by footprints: the slice and the element's own blocks named; two things of the call's own that share no block.
-/
namespace Go.Sd
open Go.RowKit Go.Deep

/-- 'append(v, u)' by footprints, as a run of the builtin. -/
theorem push_run {P : Program} {w : World} {α : Type} {R : OwnRel α} (hR : Kept R) (t ty e : TypeId) (z : Value) (bytes : Nat) (ht : P.underlying t = some (.slice e)) (hinfo : (P.info? e).map (fun i => (i.zero, i.size, i.bytes)) = some (some z, 1, bytes)) (hz1 : z.cells = #[z])
    {v : Value} {xs : List α} {F : List Nat} (h0 : OwnOf e R w v xs F) (hnd : F.Nodup) {u : Value} {y : α} {G : List Nat} (hG : R w u y G) (hGn : G.Nodup) (hd : ∀ b, b ∈ F → b ∉ G)
    {bb c : Nat} (hcell : w.cell? ⟨bb, 0, none⟩ = some u) (hbytes : (xs.length + 1) * bytes ≤ 140737488355328) (h63 : xs.length + 1 ≤ 9223372036854775807) :
    ∃ v' w' F', (Builtin.append_ #[t, t] ty #[v, .slice (some ⟨bb, 0, none⟩) 1 c]).run P w = .ok v' w' ∧ OwnOf e R w' v' (xs ++ [y]) F' ∧ F'.Nodup ∧ (∀ b, b ∈ F' → b ∈ F ∨ b ∈ G ∨ w.heap.size ≤ b) ∧ w.grownBy w' v.ownBlock ∧ (∀ k, v.ownBlock = some k → k ∈ F) := by
  obtain ⟨i, hi, hzz⟩ := Option.map_eq_some_iff.1 hinfo
  simp only [Prod.mk.injEq] at hzz
  obtain ⟨hz, hsz, hby⟩ := hzz
  have hltF := (OwnOf.kept (e := e) hR).lt _ _ _ _ h0
  obtain ⟨us, Fs, how, hl, hr, rfl⟩ := h0
  have hul : us.length = xs.length := by simpa using how.1
  have hvF : ∀ k, v.ownBlock = some k → k ∈ v.ownBlock.toList ++ Fs.flatten := fun k hk => by simp [hk]
  obtain ⟨v', w', hrun, how', hg, _, hat⟩ := run_append_own_at (P := P) w 0 t ty e i z 1 bytes ht hi hz hsz hby (by rw [hz1]; rfl) (by decide) v xs.length us how ⟨bb, 0, none⟩ 1 c [u] (by simp)
    (by
      intro j u' hj
      match j, hj with
      | 0, hj =>
        simp at hj
        subst hj
        simpa [Addr.add] using hcell)
    (by
      intro u' hu'
      simp at hu'
      subst hu'
      exact hR.one _ _ _ _ hG) h63 hbytes (Nat.zero_le _)
  have hGlt : ∀ b, b ∈ G → b < w.heap.size := hR.lt _ _ _ _ hG
  have hnd' := List.nodup_append.1 hnd
  have hnv : ∀ k, v.ownBlock = some k → k ∉ Fs.flatten := fun k hk hm => hnd'.2.2 k (by simp [hk]) k hm rfl
  have hat' : ∀ k, v'.ownBlock = some k → v.ownBlock = some k ∨ w.heap.size ≤ k := by
    intro k hk
    rcases hat with hat | hat
    · rw [hat] at hk; exact Or.inl hk
    · rw [hat] at hk; simp at hk; exact Or.inr (by omega)
  refine ⟨v', w', v'.ownBlock.toList ++ (Fs ++ [G]).flatten, hrun, ⟨us ++ [u], Fs ++ [G], by simpa using how', by simp [hl], ?_, rfl⟩, ?_, ?_, hg, hvF⟩
  · intro j u' x' G' hu' hx' hG'
    by_cases hj : j < xs.length
    · rw [List.getElem?_append_left (by omega)] at hu' hx' hG'
      refine hR.keep _ _ _ _ _ (hr j u' x' G' hu' hx' hG') fun b hb' => ?_
      have hm : b ∈ Fs.flatten := List.mem_flatten_of_mem (List.mem_of_getElem? hG') hb'
      exact hg.block b (hltF b (List.mem_append_right _ hm)) (fun e => hnv b e.symm hm)
    · have hj2 : j = xs.length := by
        have := (List.getElem?_eq_some_iff.1 hx').1
        simp at this; omega
      subst hj2
      rw [List.getElem?_append_right (by omega)] at hu' hx' hG'
      simp [hul, hl] at hu' hx' hG'
      subst hu' hx' hG'
      exact hR.keep _ _ _ _ _ hG fun b hb' => hg.block b (hGlt b hb') fun e => hd b (hvF b e.symm) hb'
  · simp only [List.flatten_append, List.flatten_cons, List.flatten_nil, List.append_nil]
    refine List.nodup_append.2 ⟨by cases v'.ownBlock <;> simp, List.nodup_append.2 ⟨hnd'.2.1, hGn, ?_⟩, ?_⟩
    · intro p hp q hq e
      subst e
      exact hd p (List.mem_append_right _ hp) hq
    · intro p hp q hq e
      subst e
      simp at hp
      rcases hat' p hp with hk | hk
      · rcases List.mem_append.1 hq with hq | hq
        · exact hnv p hk hq
        · exact hd p (hvF p hk) hq
      · rcases List.mem_append.1 hq with hq | hq
        · have := hltF p (List.mem_append_right _ hq); omega
        · have := hGlt p hq; omega
  · intro b hb'
    rcases List.mem_append.1 hb' with hb' | hb'
    · simp at hb'
      rcases hat' b hb' with hk | hk
      · exact Or.inl (hvF b hk)
      · exact Or.inr (Or.inr hk)
    · simp at hb'
      rcases hb' with ⟨H, hH, hb'⟩ | hb'
      · exact Or.inl (List.mem_append_right _ (List.mem_flatten_of_mem hH hb'))
      · exact Or.inr (Or.inl hb')

/-- Two things of the call's own that share no block. -/
def Apart {α β : Type} (R : OwnRel α) (S : OwnRel β) (lo : Nat) (w : World) (v : Value) (x : α) (u : Value) (y : β) : Prop :=
  ∃ F G, R w v x F ∧ S w u y G ∧ Fresh lo F ∧ Fresh lo G ∧ ∀ b, b ∈ F → b ∉ G

section
variable {α β : Type} {R : OwnRel α} {S : OwnRel β} {lo : Nat} {w : World} {v u : Value} {x : α} {y : β}
theorem Apart.left (h : Apart R S lo w v x u y) : New R lo w v x := by obtain ⟨F, G, h1, _, h3, _⟩ := h; exact ⟨F, h1, h3⟩
theorem Apart.right (h : Apart R S lo w v x u y) : New S lo w u y := by obtain ⟨F, G, _, h2, _, h4, _⟩ := h; exact ⟨G, h2, h4⟩
theorem Apart.symm (h : Apart R S lo w v x u y) : Apart S R lo w u y v x := by
  obtain ⟨F, G, h1, h2, h3, h4, h5⟩ := h
  exact ⟨G, F, h2, h1, h4, h3, fun b hG hF => h5 b hF hG⟩
theorem Apart.keep (hR : Kept R) (hS : Kept S) {B : Nat} {w' : World} (h : Apart R S lo w v x u y) (hb : Below B w w') (hB : w.heap.size ≤ B) : Apart R S lo w' v x u y := by
  obtain ⟨F, G, h1, h2, h3, h4, h5⟩ := h
  exact ⟨F, G, hR.keep _ _ _ _ _ h1 fun b hm => hb.block b (Nat.lt_of_lt_of_le (hR.lt _ _ _ _ h1 b hm) hB), hS.keep _ _ _ _ _ h2 fun b hm => hb.block b (Nat.lt_of_lt_of_le (hS.lt _ _ _ _ h2 b hm) hB), h3, h4, h5⟩
/-- One was made, then the other. -/
theorem Apart.of_new (hR : Kept R) {w1 : World} (h1 : New R lo w1 v x) (h2 : New S w1.heap.size w u y) (hb : Below w1.heap.size w1 w) (hlo : lo ≤ w1.heap.size) : Apart R S lo w v x u y := by
  obtain ⟨F, hF, hF2⟩ := h1
  obtain ⟨G, hG, hG2⟩ := h2
  refine ⟨F, G, hR.keep _ _ _ _ _ hF fun b hm => hb.block b (hR.lt _ _ _ _ hF b hm), hG, hF2, ⟨hG2.1, fun b hm => Nat.le_trans hlo (hG2.2 b hm)⟩, fun b hm hm2 => ?_⟩
  have := hR.lt _ _ _ _ hF b hm
  have := hG2.2 b hm2
  omega
end

section
variable {P : Program} {α β : Type} {R : OwnRel α} {S : OwnRel β} {lo : Nat} {w : World} {v u : Value} {e : TypeId}

/-- An element of the first is stored anew. -/
theorem Apart.at (hR : Kept R) (hS : Kept S) {xs : List α} {y : β} (h : Apart (OwnOf e R) S lo w v xs u y) {i : Nat} {x : α} (hx : xs[i]? = some x) :
    ∃ b c, v = .slice (some ⟨b, 0, none⟩) xs.length c ∧ xs.length ≤ c ∧ lo ≤ b ∧ b < w.heap.size ∧ (∃ u0, w.cell? ⟨b, i, none⟩ = some u0) ∧ w.frozen? ⟨b, i, none⟩ = false ∧
      ∀ w' u' x', Below w.heap.size w w' → New R w.heap.size w' u' x' → Apart (OwnOf e R) S lo (w'.setCell ⟨b, i, none⟩ u') v (xs.set i x') u y := by
  obtain ⟨F, G, hF, hG, hn, hm, hd⟩ := h
  have hlt := (OwnOf.kept (e := e) hR).lt _ _ _ _ hF
  obtain ⟨b, c, u0, H, hv, hc, hbF, hbH, hcell, hfr, hu, hHF, hHn, _, hst⟩ := hF.focus hR hn.1 hx
  refine ⟨b, c, hv, hc, hn.2 b hbF, hlt b hbF, ⟨u0, hcell⟩, hfr, fun w' u' x' hb ⟨G', hG', hn', hge'⟩ => ?_⟩
  obtain ⟨F', hF', hsub, hnd, _⟩ := hst w' u' x' G' hG' (fun hmm => by have := hge' b hmm; have := hlt b hbF; omega) (fun q hq _ => hb.block q (hlt q hq))
  have hGlt := hS.lt _ _ _ _ hG
  refine ⟨F', G, hF', hS.keep _ _ _ _ _ hG fun q hq => ?_, ⟨hnd hn' (fun q hq hqF => by have := hge' q hq; have := hlt q hqF; omega), fun q hq => (hsub q hq).elim (hn.2 q) fun hq2 => ?_⟩, hm, fun q hq hqG => ?_⟩
  · exact (Below.heap_setCell _ _ _ _ (fun e => hd b hbF (by have e2 : q = b := e; exact e2 ▸ hq))).trans (hb.block q (hGlt q hq))
  · have := hge' q hq2
    have := hlt b hbF
    have := hn.2 b hbF
    omega
  · rcases hsub q hq with h1 | h1
    · exact hd q h1 hqG
    · have := hge' q h1
      have := hGlt q hqG
      omega

/-- The second becomes the first's last element. -/
theorem Apart.push (hR : Kept R) (t ty : TypeId) (z : Value) (bytes : Nat) (ht : P.underlying t = some (.slice e)) (hinfo : (P.info? e).map (fun i => (i.zero, i.size, i.bytes)) = some (some z, 1, bytes)) (hz1 : z.cells = #[z])
    {xs : List α} {y : α} (h : Apart (OwnOf e R) R lo w v xs u y) (hlo : lo ≤ w.heap.size) {bb c : Nat} (hcell : w.cell? ⟨bb, 0, none⟩ = some u) (hbytes : (xs.length + 1) * bytes ≤ 140737488355328) (h63 : xs.length + 1 ≤ 9223372036854775807) :
    ∃ v' w', (Builtin.append_ #[t, t] ty #[v, .slice (some ⟨bb, 0, none⟩) 1 c]).run P w = .ok v' w' ∧ New (OwnOf e R) lo w' v' (xs ++ [y]) ∧ Below lo w w' := by
  obtain ⟨F, G, hF, hG, hn, hm, hd⟩ := h
  obtain ⟨v', w', F', hr, hF', hn', hs, hg, hv⟩ := push_run hR t ty e z bytes ht hinfo hz1 hF hn.1 hG hm.1 hd (c := c) hcell hbytes h63
  refine ⟨v', w', hr, ⟨F', hF', hn', fun b hb => ?_⟩, Below.of_grown hg hlo fun k hk => hn.2 k (hv k hk)⟩
  rcases hs b hb with h1 | h1 | h1
  · exact hn.2 b h1
  · exact hm.2 b h1
  · omega

/-- An element without blocks of its own is put behind the second. -/
theorem Apart.push2 (hR : Kept R) (hS : Kept S) (t ty : TypeId) (z : Value) (bytes : Nat) (ht : P.underlying t = some (.slice e)) (hinfo : (P.info? e).map (fun i => (i.zero, i.size, i.bytes)) = some (some z, 1, bytes)) (hz1 : z.cells = #[z])
    {x : α} {ys : List β} {y : β} {q : Value} (h : Apart R (OwnOf e S) lo w v x u ys) (hlo : lo ≤ w.heap.size) {bb c : Nat} (hcell : w.cell? ⟨bb, 0, none⟩ = some q) (hq : S w q y []) (hbytes : (ys.length + 1) * bytes ≤ 140737488355328) (h63 : ys.length + 1 ≤ 9223372036854775807) :
    ∃ v' w', (Builtin.append_ #[t, t] ty #[u, .slice (some ⟨bb, 0, none⟩) 1 c]).run P w = .ok v' w' ∧ Apart R (OwnOf e S) lo w' v x v' (ys ++ [y]) ∧ Below lo w w' := by
  obtain ⟨F, G, hF, hG, hn, hm, hd⟩ := h
  obtain ⟨v', w', G', hr, hG', hn', hs, hg, hv⟩ := push_run hS t ty e z bytes ht hinfo hz1 hG hm.1 hq (by simp) (by simp) (c := c) hcell hbytes h63
  have hlt := hR.lt _ _ _ _ hF
  refine ⟨v', w', hr, ⟨F, G', hR.keep _ _ _ _ _ hF fun b hb => hg.block b (hlt b hb) fun e => hd b hb (hv b e.symm), hG', hn, ⟨hn', fun b hb => ?_⟩, fun b hb hb2 => ?_⟩, Below.of_grown hg hlo fun k hk => hm.2 k (hv k hk)⟩
  · rcases hs b hb with h1 | h1 | h1
    · exact hm.2 b h1
    · simp at h1
    · omega
  · rcases hs b hb2 with h1 | h1 | h1
    · exact hd b hb h1
    · simp at h1
    · have := hlt b hb; omega
end

/-- 't[i] = append(t[i], x)' at an own table: the row's cell, a number of the row, and what the append and the store leave. -/
theorem New.row_push {P : Program} {eI eR : TypeId} {lo : Nat} {w : World} {v : Value} {m : List (List Int)} (h : New (OTab eI eR) lo w v m) {i j : Nat} {r : List Int} {x : Int} (hr : m[i]? = some r) (hx : r[j]? = some x)
    (t ty : TypeId) (z : Value) (bytes : Nat) (ht : P.underlying t = some (.slice eI)) (hinfo : (P.info? eI).map (fun i => (i.zero, i.size, i.bytes)) = some (some z, 1, bytes)) (hz1 : z.cells = #[z])
    (hbytes : (r.length + 1) * bytes ≤ 140737488355328) (h63 : r.length + 1 ≤ 9223372036854775807) :
    ∃ b c rb rc, v = .slice (some ⟨b, 0, none⟩) m.length c ∧ m.length ≤ c ∧ lo ≤ b ∧ b < w.heap.size ∧ w.cell? ⟨b, i, none⟩ = some (.slice (some ⟨rb, 0, none⟩) r.length rc) ∧ r.length ≤ rc ∧ rb < w.heap.size ∧ rb ≠ b ∧
      w.cell? ⟨rb, j, none⟩ = some (.int .i64 x) ∧
      ∀ (w1 : World) (bb c1 : Nat) (y : Int), Below w.heap.size w w1 → w1.cell? ⟨bb, 0, none⟩ = some (.int .i64 y) →
        ∃ v' w2, (Builtin.append_ #[t, t] ty #[.slice (some ⟨rb, 0, none⟩) r.length rc, .slice (some ⟨bb, 0, none⟩) 1 c1]).run P w1 = .ok v' w2 ∧
          w2.cell? ⟨b, i, none⟩ = some (.slice (some ⟨rb, 0, none⟩) r.length rc) ∧ w2.frozen? ⟨b, i, none⟩ = false ∧ v'.oneCell' = true ∧ Below lo w w2 ∧
          New (OTab eI eR) lo (w2.setCell ⟨b, i, none⟩ v') v (m.set i (r ++ [y])) := by
  obtain ⟨F, hF, hn, hge⟩ := h
  have hlt := (OTab.kept eI eR).lt _ _ _ _ hF
  obtain ⟨b, c, u, G, hv, hc, hbF, hbG, hcell, hfr, hu, hGF, hGn, _, hst⟩ := hF.focus (OInts.kept eI) hn hr
  obtain ⟨rb, rc, u2, G2, rfl, hrc, hrb, _, hcell2, hfr2, ⟨rfl, rfl⟩, _, _, _, _⟩ := hu.focus OIntR.kept hGn hx
  refine ⟨b, c, rb, rc, hv, hc, hge b hbF, hlt b hbF, hcell, hrc, hlt rb (hGF rb hrb), fun e => hbG (e ▸ hrb), hcell2, fun w1 bb c1 y hb hy => ?_⟩
  have hu1 : OInts eI w1 _ r G := (OInts.kept eI).keep _ _ _ _ _ hu fun q hq => hb.block q (hlt q (hGF q hq))
  have hz := hb.size
  have hlob := hge b hbF
  have hltb := hlt b hbF
  obtain ⟨v', w2, G', hrun, hG', hn', hs, hg, hvG⟩ := push_run OIntR.kept t ty eI z bytes ht hinfo hz1 hu1 hGn (y := y) (G := []) ⟨rfl, rfl⟩ (by simp) (by simp) (c := c1) hy hbytes h63
  have hoff : ∀ q, q ∈ F → q ∉ G → w2.heap[q]? = w.heap[q]? := fun q hq hqG => (hg.block q (by have := hlt q hq; omega) fun e => hqG (hvG q e.symm)).trans (hb.block q (hlt q hq))
  have hbb := hoff b hbF hbG
  have hbG' : b ∉ G' := fun hm => by
    rcases hs b hm with h1 | h1 | h1
    · exact hbG h1
    · simp at h1
    · omega
  obtain ⟨F', hF', hsub, hnd, _⟩ := hst w2 v' (r ++ [y]) G' hG' hbG' hoff
  refine ⟨v', w2, hrun, ?_, ?_, (OInts.kept eI).one _ _ _ _ hG', ?_, F', hF', hnd hn' (fun q hq hqF => ?_), fun q hq => (hsub q hq).elim (hge q) fun hm => ?_⟩
  · rw [← hcell]
    simp only [World.cell?, hbb]
  · rw [← hfr]
    simp only [World.frozen?, hbb]
  · exact (hb.mono (by omega)).grown hg (by omega) fun k hk => hge k (hGF k (hvG k hk))
  · rcases hs q hq with h1 | h1 | h1
    · exact h1
    · simp at h1
    · have := hlt q hqF; omega
  · rcases hs q hm with h1 | h1 | h1
    · exact hge q (hGF q h1)
    · simp at h1
    · omega
end Go.Sd
end

section
/-
  The laws' helpers on labelled graphs.
-/
namespace Go.Proofs.Ytdohepngandajaa
open Go.RowKit Go.Deep Go.Sd

theorem infoA : (Try.prog.info? 72).map (fun i => (i.zero, i.size, i.bytes)) = some (some (.agg #[.int .i64 0, .int .i64 0, .int .i64 0]), 3, 24) := by kernel_rfl
theorem szArcS_c {w : World} {v : Value} {xs : List Arc3} {l : Int} (h : ArcsR w v xs) (h0 : 0 ≤ l) (h1 : l ≤ 1048576) :
    Calls Try.prog 64 #[v, .int .i64 l] w fun e w' => e = .returned (.int .i64 (szS l xs.length)) ∧ w = w' := by
  obtain ⟨hlen, a, c, rfl, _, _, _, _⟩ := h
  by_cases ht : l - xs.length < 0
  all_goals
    have H := Lib.hid (show szS l xs.length = _ from by unfold szS; first | rw [if_pos ht] | rw [if_neg ht])
    go_enter Try.func64, Try.ntmps64
    go_wp2
    go_ret
    exact ⟨by rw [H.out]; rfl, rfl⟩
set_option maxHeartbeats 400000 in
theorem szLabels_c {w : World} {v : Value} {x : Lb} {l : Int} (h : LabR w v x) (h0 : 0 ≤ l) (h1 : l ≤ 1048576) :
    Calls Try.prog 13 #[v, .int .i64 l] w fun e w' => e = .returned (.int .i64 (szS l x.2.2.length)) ∧ Below w.heap.size w w' := by
  obtain ⟨va, rfl, ha⟩ := h
  have Hc := Lib.hid (fun w1 (hb : Below w.heap.size w w1) => szArcS_c (ArcsR.frame _ _ _ _ ha hb) h0 h1)
  have hb := szS_bd l x.2.2.length (by omega)
  have Hb := Lib.hid (fun (u : Obj) => (Below.refl w.heap.size w).alloc (Nat.le_refl _) u)
  obtain ⟨_, aa, ac, rfl, _, _, _, _⟩ := ha
  have H := Lib.hid (show szS l x.2.2.length < 0 → szS l x.2.2.length = -1 from by intro h; omega)
  generalize hs : szS l x.2.2.length = s at Hc hb H ⊢
  clear hs
  by_cases c1 : s < 0
  · have H2 := Lib.hid (H.out c1)
    go_enter Try.func13, Try.ntmps13
    go_wp2_with fail
    refine (Hc.out _ (Hb.out _)).mono ?_
    rintro e w' ⟨rfl, rfl⟩
    go_wp2
    go_ret
    exact ⟨by rw [H2.out]; rfl, Hb.out _⟩
  · go_enter Try.func13, Try.ntmps13
    go_wp2_with fail
    refine (Hc.out _ (Hb.out _)).mono ?_
    rintro e w' ⟨rfl, rfl⟩
    go_wp2
    go_ret
    exact ⟨rfl, Hb.out _⟩
set_option maxHeartbeats 400000 in
theorem toArc_c {w : World} {a b c : Int} :
    Calls Try.prog 137 #[.agg #[.int .i64 a, .int .i64 b, .int .i64 c]] w fun e w' => e = .returned (.agg #[.int .i64 a, .int .i64 b, .int .i64 c]) ∧ Below w.heap.size w w' := by
  go_enter Try.func137, Try.ntmps137
  go_wp2
  refine bodyPost_ret (v := .agg #[.int .i64 a, .int .i64 b, .int .i64 c]) (by simp [results, Try.results137, go_sem]) rfl ?_
  exact ⟨rfl, (((Below.refl w.heap.size w).alloc (Nat.le_refl _) _).alloc (by simp) _).alloc (by simp <;> omega) _⟩
set_option maxHeartbeats 400000 in
theorem toArcS_c {w : World} {v : Value} {xs : List Arc3} (h : ArcsR w v xs) (hsz : xs.length ≤ 1048576) :
    Calls Try.prog 67 #[v] w fun e w' => e = .returned (.slice (some ⟨w.heap.size, 0, none⟩) xs.length xs.length) ∧ ArcsR w' (.slice (some ⟨w.heap.size, 0, none⟩) xs.length xs.length) xs ∧ Below w.heap.size w w' := by
  obtain ⟨hlen, a, c, rfl, hc1, hc2, hc3, hcell⟩ := h
  obtain ⟨n, hn⟩ : ∃ n, n = xs.length := ⟨_, rfl⟩
  rw [← hn] at hsz hcell hc1 hlen ⊢
  have Hn := Lib.hid hn
  clear hn
  go_enter Try.func67, Try.ntmps67
  go_wp2_with (first
    | (at_make; refine wpl_make3 rfl (.tmp 6) (.tmp 6) 26 rfl 72 24 Try.underlying26 infoA n (by rfl) (by rfl) (by omega) (by omega) ?_; intro w1 hz1 hc1' hb1; have Hz1 := Lib.hid hz1; clear hz1)
    | fail)
  have Hb1 := Lib.hid hb1
  have Hc1 := Lib.hid hc1'
  clear hb1 hc1'
  go_loopg [4] n (fun g i wr => ∃ (k : Nat), i = .int .i64 k ∧ k + g = n ∧ CellsI wr w.heap.size (n * 3) (arcF xs k) ∧ w.heap.size < wr.heap.size ∧ Below w.heap.size w wr)
  case atStart => exact ⟨0, rfl, by omega, Hc1.out.congr fun j _ => by unfold arcF; rw [if_neg (by omega)], by have := Hz1.out; omega, Hb1.out⟩
  case round =>
    obtain ⟨k, rfl, hk, hcl, hlt1, hbel⟩ := hrel
    by_cases hlt : k < n
    · obtain ⟨b, o, rfl, hb, hx0⟩ := hcell (by omega)
      obtain ⟨x, hx, _⟩ := at_lt (xs := xs) (k := k) (by have := Hn.out; omega)
      obtain ⟨g0, g1, g2⟩ := hx0 k x hx
      have hu0 : wr.cell? ⟨b, o + k * 3, none⟩ = some (.int .i64 x.1) := (hbel.cell (p := ⟨b, o + k * 3, none⟩) hb).trans g0
      have hu1 : wr.cell? ⟨b, o + k * 3 + 1, none⟩ = some (.int .i64 x.2.1) := (hbel.cell (p := ⟨b, o + k * 3 + 1, none⟩) hb).trans g1
      have hu2 : wr.cell? ⟨b, o + k * 3 + 2, none⟩ = some (.int .i64 x.2.2) := (hbel.cell (p := ⟨b, o + k * 3 + 2, none⟩) hb).trans g2
      have Hx := Lib.hid hx
      have Hcl := Lib.hid hcl
      have Hbel := Lib.hid hbel
      have Hlt1 := Lib.hid hlt1
      have Hz := Lib.hid (hbel.size)
      clear g0 g1 g2 hx0 hcell hx hcl hbel hlt1
      go_wp2_with fail
      refine toArc_c.mono ?_
      rintro e w2 ⟨rfl, hb2⟩
      have hc2 := Hcl.out.keep hb2 Hlt1.out
      have hA := hc2 (k * 3) (by omega)
      have hB := hc2 (k * 3 + 1) (by omega)
      have hC := hc2 (k * 3 + 2) (by omega)
      obtain ⟨hA1, hA2⟩ := hA
      obtain ⟨hB1, hB2⟩ := hB
      obtain ⟨hC1, hC2⟩ := hC
      have Hf := Lib.hid ((((hc2.set (j := k * 3) (by omega) x.1).set (j := k * 3 + 1) (by omega) x.2.1).set (j := k * 3 + 2) (by omega) x.2.2).congr fun j _ => arcF_next Hx.out j)
      have Hs := Lib.hid (show w.heap.size < w2.heap.size from Nat.lt_of_lt_of_le Hlt1.out hb2.size)
      have Hbf := Lib.hid (((((Hbel.out.trans (hb2.mono Hz.out)).setCell (p := ⟨w.heap.size, k * 3, none⟩) (Nat.le_refl _) (.int .i64 x.1))).setCell (p := ⟨w.heap.size, k * 3 + 1, none⟩) (Nat.le_refl _) (.int .i64 x.2.1)).setCell (p := ⟨w.heap.size, k * 3 + 2, none⟩) (Nat.le_refl _) (.int .i64 x.2.2))
      clear hc2 hb2
      go_wp2
      go_roundg (n - (k + 1))
      case measure => omega
      case rel => exact ⟨k + 1, by go_num, by omega, Hf.out, by simp; exact Hs.out, Hbf.out⟩
    · have e : k = n := by omega
      subst e
      have Hr := Lib.hid (show ArcsR wr (.slice (some ⟨w.heap.size, 0, none⟩) k k) xs from by
        have h := ArcsR.of_cells (xs := xs) hlt1 (by rw [← Hn.out]; omega) (by rw [← Hn.out]; exact hcl)
        rw [← Hn.out] at h
        exact h)
      clear hcl hcell
      go_wp2
      go_ret
      exact ⟨rfl, Hr.out, hbel⟩
set_option maxHeartbeats 400000 in
theorem toLabels_c {w : World} {v : Value} {x : Lb} (h : LabR w v x) (hsz : x.2.2.length ≤ 1048576) :
    Calls Try.prog 15 #[v] w fun e w' => ∃ v', e = .returned v' ∧ LabR w' v' x ∧ Below w.heap.size w w' := by
  obtain ⟨va, rfl, ha⟩ := h
  have Hc := Lib.hid (fun w1 (hb : Below w.heap.size w w1) => toArcS_c (ArcsR.frame _ _ _ _ ha hb) hsz)
  obtain ⟨_, aa, ac, rfl, _, _, _, _⟩ := ha
  obtain ⟨L, S, xs⟩ := x
  go_enter Try.func15, Try.ntmps15
  go_wp2_with fail
  have Hb0 := Lib.hid ((((Below.refl w.heap.size w).alloc (Nat.le_refl _) (.cells #[.int .i64 L, .int .i64 S, .slice aa xs.length ac] 24)).alloc (by simp) (.cells #[.int .i64 0, .int .i64 0, .slice none 0 0] 28)).alloc (by simp <;> omega) (.cells #[.int .i64 L, .int .i64 S, .slice none 0 0] 28))
  refine (Hc.out _ Hb0.out).mono ?_
  rintro e w1 ⟨rfl, ha1, hb1⟩
  have eB : (((w.alloc (.cells #[.int .i64 L, .int .i64 S, .slice aa xs.length ac] 24)).alloc (.cells #[.int .i64 0, .int .i64 0, .slice none 0 0] 28)).alloc (.cells #[.int .i64 L, .int .i64 S, .slice none 0 0] 28)).heap.size = w.heap.size + 1 + 1 + 1 := by simp
  rw [eB] at ha1 ⊢
  have cB : w1.cell? ⟨w.heap.size + 1, 0, none⟩ = some (.int .i64 0) := (hb1.cell (p := ⟨w.heap.size + 1, 0, none⟩) (by simp <;> omega)).trans (by simp [go_sem])
  have cC : w1.cell? ⟨w.heap.size + 1, 1, none⟩ = some (.int .i64 0) := (hb1.cell (p := ⟨w.heap.size + 1, 1, none⟩) (by simp <;> omega)).trans (by simp [go_sem])
  have cD : w1.cell? ⟨w.heap.size + 1, 2, none⟩ = some (.slice none 0 0) := (hb1.cell (p := ⟨w.heap.size + 1, 2, none⟩) (by simp <;> omega)).trans (by simp [go_sem])
  have cE : w1.cell? ⟨w.heap.size + 1 + 1, 0, none⟩ = some (.int .i64 L) := (hb1.cell (p := ⟨w.heap.size + 1 + 1, 0, none⟩) (by simp <;> omega)).trans (by simp [go_sem])
  have cF : w1.cell? ⟨w.heap.size + 1 + 1, 1, none⟩ = some (.int .i64 S) := (hb1.cell (p := ⟨w.heap.size + 1 + 1, 1, none⟩) (by simp <;> omega)).trans (by simp [go_sem])
  have cG : w1.cell? ⟨w.heap.size + 1 + 1, 2, none⟩ = some (.slice none 0 0) := (hb1.cell (p := ⟨w.heap.size + 1 + 1, 2, none⟩) (by simp <;> omega)).trans (by simp [go_sem])
  have fB : w1.frozen? ⟨w.heap.size + 1, 0, none⟩ = false := (hb1.frozen (p := ⟨w.heap.size + 1, 0, none⟩) (by simp <;> omega)).trans (by simp [go_sem])
  have fC : w1.frozen? ⟨w.heap.size + 1, 1, none⟩ = false := (hb1.frozen (p := ⟨w.heap.size + 1, 1, none⟩) (by simp <;> omega)).trans (by simp [go_sem])
  have fD : w1.frozen? ⟨w.heap.size + 1, 2, none⟩ = false := (hb1.frozen (p := ⟨w.heap.size + 1, 2, none⟩) (by simp <;> omega)).trans (by simp [go_sem])
  have fG : w1.frozen? ⟨w.heap.size + 1 + 1, 2, none⟩ = false := (hb1.frozen (p := ⟨w.heap.size + 1 + 1, 2, none⟩) (by simp <;> omega)).trans (by simp [go_sem])
  have Ha := Lib.hid ((((ha1.store_off (p := ⟨w.heap.size + 1 + 1, 2, none⟩) (by simp) (.slice (some ⟨w.heap.size + 1 + 1 + 1, 0, none⟩) xs.length xs.length)).store_off (p := ⟨w.heap.size + 1, 0, none⟩) (by simp <;> omega) (.int .i64 L)).store_off (p := ⟨w.heap.size + 1, 1, none⟩) (by simp <;> omega) (.int .i64 S)).store_off (p := ⟨w.heap.size + 1, 2, none⟩) (by simp <;> omega) (.slice (some ⟨w.heap.size + 1 + 1 + 1, 0, none⟩) xs.length xs.length))
  have Hb1 := Lib.hid (((((Hb0.out.trans (hb1.mono Hb0.out.size)).setCell (p := ⟨w.heap.size + 1 + 1, 2, none⟩) (by simp <;> omega) (.slice (some ⟨w.heap.size + 1 + 1 + 1, 0, none⟩) xs.length xs.length)).setCell (p := ⟨w.heap.size + 1, 0, none⟩) (by simp <;> omega) (.int .i64 L)).setCell (p := ⟨w.heap.size + 1, 1, none⟩) (by simp <;> omega) (.int .i64 S)).setCell (p := ⟨w.heap.size + 1, 2, none⟩) (by simp <;> omega) (.slice (some ⟨w.heap.size + 1 + 1 + 1, 0, none⟩) xs.length xs.length))
  clear ha1 hb1 eB
  go_wp2
  have s0 := (World.cell?_setCell_other w1 ⟨w.heap.size + 1 + 1, 2, none⟩ ⟨w.heap.size + 1, 0, none⟩ (.slice (some ⟨w.heap.size + 1 + 1 + 1, 0, none⟩) xs.length xs.length) (by simp)).trans cB
  have s1 := (World.cell?_setCell_other w1 ⟨w.heap.size + 1 + 1, 2, none⟩ ⟨w.heap.size + 1, 1, none⟩ (.slice (some ⟨w.heap.size + 1 + 1 + 1, 0, none⟩) xs.length xs.length) (by simp)).trans cC
  have s2 := (World.cell?_setCell_other w1 ⟨w.heap.size + 1 + 1, 2, none⟩ ⟨w.heap.size + 1, 2, none⟩ (.slice (some ⟨w.heap.size + 1 + 1 + 1, 0, none⟩) xs.length xs.length) (by simp)).trans cD
  have r0 := World.cell?_setCell_same _ _ (.int .i64 L) s0
  have u1 := (World.cell?_setCell_other _ ⟨w.heap.size + 1, 0, none⟩ _ (.int .i64 L) (by simp)).trans s1
  have r1 := World.cell?_setCell_same _ _ (.int .i64 S) u1
  have u2 := (World.cell?_setCell_other _ ⟨w.heap.size + 1, 1, none⟩ _ (.int .i64 S) (by simp)).trans ((World.cell?_setCell_other _ ⟨w.heap.size + 1, 0, none⟩ _ (.int .i64 L) (by simp)).trans s2)
  have r2 := World.cell?_setCell_same _ _ (.slice (some ⟨w.heap.size + 1 + 1 + 1, 0, none⟩) xs.length xs.length) u2
  refine bodyPost_ret (v := .agg #[.int .i64 L, .int .i64 S, .slice (some ⟨w.heap.size + 1 + 1 + 1, 0, none⟩) xs.length xs.length]) (by simp [results, Try.results15, go_sem, r0, r1, r2]) rfl ?_
  exact ⟨_, rfl, ⟨_, rfl, Ha.out⟩, Hb1.out⟩
set_option maxHeartbeats 400000 in
theorem eqArc_same {w : World} {a b c : Int} :
    Calls Try.prog 140 #[.agg #[.int .i64 a, .int .i64 b, .int .i64 c], .agg #[.int .i64 a, .int .i64 b, .int .i64 c]] w fun e w' => e = .returned (.bool true) ∧ Below w.heap.size w w' := by
  have t1 : (a != a) = false := by simp
  have t2 : (b != b) = false := by simp
  have t3 : (c != c) = false := by simp
  go_enter Try.func140, Try.ntmps140
  go_wp2
  go_ret
  exact ⟨rfl, ((Below.refl w.heap.size w).alloc (Nat.le_refl _) _).alloc (by simp) _⟩
set_option maxHeartbeats 400000 in
theorem eqArcS_same {w : World} {v1 v2 : Value} {xs : List Arc3} (h1 : ArcsR w v1 xs) (h2 : ArcsR w v2 xs) :
    Calls Try.prog 71 #[v1, v2] w fun e w' => e = .returned (.bool true) ∧ Below w.heap.size w w' := by
  obtain ⟨hlen, a1, c1, rfl, _, _, _, hc1⟩ := h1
  obtain ⟨_, a2, c2, rfl, _, _, _, hc2⟩ := h2
  have hl1 : ((xs.length : Int) != xs.length) = false := by simp
  obtain ⟨n, hn⟩ : ∃ n, n = xs.length := ⟨_, rfl⟩
  rw [← hn] at hl1 hc1 hc2 hlen ⊢
  have Hn := Lib.hid hn
  clear hn
  go_enter Try.func71, Try.ntmps71
  go_wp2
  go_loopg [5] n (fun g i wr => ∃ (k : Nat), i = .int .i64 k ∧ k + g = n ∧ Below w.heap.size w wr)
  case atStart => exact ⟨0, rfl, by omega, Below.refl _ _⟩
  case round =>
    obtain ⟨k, rfl, hk, hbel⟩ := hrel
    by_cases hlt : k < n
    · obtain ⟨b1, o1, rfl, hb1, hx1⟩ := hc1 (by omega)
      obtain ⟨b2, o2, rfl, hb2, hx2⟩ := hc2 (by omega)
      obtain ⟨x, hx, _⟩ := at_lt (xs := xs) (k := k) (by have := Hn.out; omega)
      obtain ⟨f0, f1, f2⟩ := hx1 k x hx
      obtain ⟨g0, g1, g2⟩ := hx2 k x hx
      have hF : wr.cell? ⟨b1, o1 + k * 3, none⟩ = some (.int .i64 x.1) ∧ wr.cell? ⟨b1, o1 + k * 3 + 1, none⟩ = some (.int .i64 x.2.1) ∧ wr.cell? ⟨b1, o1 + k * 3 + 2, none⟩ = some (.int .i64 x.2.2) ∧ wr.cell? ⟨b2, o2 + k * 3, none⟩ = some (.int .i64 x.1) ∧ wr.cell? ⟨b2, o2 + k * 3 + 1, none⟩ = some (.int .i64 x.2.1) ∧ wr.cell? ⟨b2, o2 + k * 3 + 2, none⟩ = some (.int .i64 x.2.2) :=
        ⟨(hbel.cell (p := ⟨b1, o1 + k * 3, none⟩) hb1).trans f0, (hbel.cell (p := ⟨b1, o1 + k * 3 + 1, none⟩) hb1).trans f1, (hbel.cell (p := ⟨b1, o1 + k * 3 + 2, none⟩) hb1).trans f2, (hbel.cell (p := ⟨b2, o2 + k * 3, none⟩) hb2).trans g0, (hbel.cell (p := ⟨b2, o2 + k * 3 + 1, none⟩) hb2).trans g1, (hbel.cell (p := ⟨b2, o2 + k * 3 + 2, none⟩) hb2).trans g2⟩
      have hz := hbel.size
      have hl1' : b1 < wr.heap.size := by omega
      have hl2' : b2 < wr.heap.size := by omega
      have hi1 : (k : Int) < (n : Int) := by omega
      have Hbel := Lib.hid hbel
      clear f0 f1 f2 g0 g1 g2 hx1 hx2 hc1 hc2 hx hbel
      go_wp2
      go_region_held3 (fun w' => w'.cell? ⟨b1, o1 + k * 3, none⟩ = some (.int .i64 x.1) ∧ w'.cell? ⟨b1, o1 + k * 3 + 1, none⟩ = some (.int .i64 x.2.1) ∧ w'.cell? ⟨b1, o1 + k * 3 + 2, none⟩ = some (.int .i64 x.2.2) ∧ w'.cell? ⟨b2, o2 + k * 3, none⟩ = some (.int .i64 x.1) ∧ w'.cell? ⟨b2, o2 + k * 3 + 1, none⟩ = some (.int .i64 x.2.1) ∧ w'.cell? ⟨b2, o2 + k * 3 + 2, none⟩ = some (.int .i64 x.2.2))
        (first | exact hS1 | exact hF | go_keep)
        ((first
          | (go_at_call 140; refine eqArc_same.mono ?_; rintro e w2 ⟨rfl, hb2'⟩; have hb3 := ((Below.refl wr.heap.size wr).drew).trans hb2'; have hS1 : w2.cell? ⟨b1, o1 + k * 3, none⟩ = some (.int .i64 x.1) ∧ w2.cell? ⟨b1, o1 + k * 3 + 1, none⟩ = some (.int .i64 x.2.1) ∧ w2.cell? ⟨b1, o1 + k * 3 + 2, none⟩ = some (.int .i64 x.2.2) ∧ w2.cell? ⟨b2, o2 + k * 3, none⟩ = some (.int .i64 x.1) ∧ w2.cell? ⟨b2, o2 + k * 3 + 1, none⟩ = some (.int .i64 x.2.1) ∧ w2.cell? ⟨b2, o2 + k * 3 + 2, none⟩ = some (.int .i64 x.2.2) := ⟨(hb3.cell (p := ⟨b1, o1 + k * 3, none⟩) hl1').trans hF.1, (hb3.cell (p := ⟨b1, o1 + k * 3 + 1, none⟩) hl1').trans hF.2.1, (hb3.cell (p := ⟨b1, o1 + k * 3 + 2, none⟩) hl1').trans hF.2.2.1, (hb3.cell (p := ⟨b2, o2 + k * 3, none⟩) hl2').trans hF.2.2.2.1, (hb3.cell (p := ⟨b2, o2 + k * 3 + 1, none⟩) hl2').trans hF.2.2.2.2.1, (hb3.cell (p := ⟨b2, o2 + k * 3 + 2, none⟩) hl2').trans hF.2.2.2.2.2⟩; have Hb3 := Lib.hid (Hbel.out.trans (hb3.mono hz)); clear hb2' hb3)
          | fail))
      go_wp2
      go_roundg (n - (k + 1))
      case measure => omega
      case rel => exact ⟨k + 1, by go_num, by omega, Hb3.out⟩
    · have e : k = n := by omega
      subst e
      clear hc1 hc2
      go_wp2
      go_ret
      exact ⟨rfl, hbel⟩
set_option maxHeartbeats 400000 in
theorem eqLabels_same {w : World} {v1 v2 : Value} {x : Lb} (h1 : LabR w v1 x) (h2 : LabR w v2 x) :
    Calls Try.prog 17 #[v1, v2] w fun e w' => e = .returned (.bool true) ∧ Below w.heap.size w w' := by
  obtain ⟨va, rfl, ha⟩ := h1
  obtain ⟨vb, rfl, hb⟩ := h2
  have Hc := Lib.hid (fun w1 (hbw : Below w.heap.size w w1) => eqArcS_same (ArcsR.frame _ _ _ _ ha hbw) (ArcsR.frame _ _ _ _ hb hbw))
  obtain ⟨_, aa, ac, rfl, _, _, _, _⟩ := ha
  obtain ⟨_, ba, bc, rfl, _, _, _, _⟩ := hb
  obtain ⟨L, S, xs⟩ := x
  have t1 : (L != L) = false := by simp
  have t2 : (S != S) = false := by simp
  have Hb := Lib.hid (fun (u u' : Obj) => ((Below.refl w.heap.size w).alloc (Nat.le_refl _) u).alloc (by simp) u')
  go_enter Try.func17, Try.ntmps17
  go_wp2_with fail
  refine (Hc.out _ (Hb.out _ _)).mono ?_
  rintro e w1 ⟨rfl, hb1⟩
  have Hb1 := Lib.hid ((Hb.out _ _).trans (hb1.mono (by simp <;> omega)))
  clear hb1
  go_wp2
  go_ret
  exact ⟨rfl, Hb1.out⟩
end Go.Proofs.Ytdohepngandajaa
end
