/-
  Texts of this claim joined: laws for its walks, contracts of the functions that the law reaches.
-/
import Derived.Test.YtcilgihmaaobeaaRows
import Derived.Test.YtcilgihmaaobeaaLabelsOfM1
import Derived.Test.YtcilgihmaaobeaaLabelsOfM2
import Derived.Test.YtcilgihmaaobeaaLabelsOfM3
import Derived.Test.YtcilgihmaaobeaaLabelsOfM12
import Derived.Shelf.SlSortCmp.WholeK
import Derived.Shelf.Lay
import Derived.Ground.SlsfProg
import Derived.Deep.RegionHeld3
import Derived.Deep.DeepCutAuto
import Derived.Test.YtcilgihmaaobeaaLabelsOfM19
import Derived.Test.YtcilgihmaaobeaaLabelsOfM18
import Derived.Test.YtcilgihmaaobeaaLabelsOfM15
import Derived.Test.YtcilgihmaaobeaaLabelsOfM16
import Derived.Test.YtcilgihmaaobeaaLabelsOfM8
section
/-
  slices.SortFunc at arcs that are in order already: they stay.
-/
namespace Go.Proofs.Ytcilgihmaaobeaa
open Go.RowKit Go.Deep Go.Sd Go.Shelf
set_option linter.unusedSimpArgs false
theorem cmp_lt (a b : Arc3) : Go.Proofs.ltOf cmpA a b = before a b := by
  unfold Go.Proofs.ltOf
  have h := cmpA_nn a b
  cases hb : before a b with
  | false => have := h.2 hb; simp; omega
  | true =>
    have : ¬ 0 ≤ cmpA a b := fun h2 => by rw [h.1 h2] at hb; cases hb
    simp
    omega
theorem before_iff (a b : Arc3) : before a b = true ↔ a.1 < b.1 ∨ (a.1 = b.1 ∧ (a.2.2 < b.2.2 ∨ (a.2.2 = b.2.2 ∧ a.2.1 < b.2.1))) := by
  unfold before
  by_cases e : a.1 = b.1
  · rw [if_neg (by simp [e])]
    by_cases e2 : a.2.2 = b.2.2
    · rw [if_neg (by simp [e2]), decide_eq_true_eq]; omega
    · rw [if_pos e2, decide_eq_true_eq]; omega
  · rw [if_pos e, decide_eq_true_eq]; omega
theorem cmp_swo : Go.Sort.SWO (Go.Proofs.ltOf cmpA) where
  irrefl x := by
    rw [cmp_lt]
    cases h : before x x with
    | false => rfl
    | true => have := (before_iff x x).1 h; omega
  trans x y z h1 h2 := by
    rw [cmp_lt] at *
    have h3 := (before_iff _ _).1 h1
    have h4 := (before_iff _ _).1 h2
    exact (before_iff _ _).2 (by omega)
  ntrans x y z h1 h2 := by
    rw [cmp_lt] at *
    have h3 : ¬ _ := fun h => by rw [(before_iff x y).2 h] at h1; cases h1
    have h4 : ¬ _ := fun h => by rw [(before_iff y z).2 h] at h2; cases h2
    cases h : before x z with
    | false => rfl
    | true =>
      have h5 := (before_iff _ _).1 h
      omega
set_option maxHeartbeats 1000000 in
theorem compareArcs_g (a b : Arc3) (w : World) : Calls Try.prog 70 #[.agg #[.int .i64 a.1, .int .i64 a.2.1, .int .i64 a.2.2], .agg #[.int .i64 b.1, .int .i64 b.2.1, .int .i64 b.2.2]] w fun e w' => e = .returned (.int .i64 (cmpA a b)) ∧ ∃ q os', w' = Sort.grow (w.drewN q) os' := by
  obtain ⟨a0, a1, a2⟩ := a
  obtain ⟨b0, b1, b2⟩ := b
  have H := Lib.hid (show cmpA (a0, a1, a2) (b0, b1, b2) = orL [cmpI a0 b0, cmpI a2 b2, cmpI a1 b1] from rfl)
  generalize cmpA (a0, a1, a2) (b0, b1, b2) = T at H ⊢
  have H0 := Lib.hid (fun w => Compare_c a0 b0 w)
  have H2 := Lib.hid (fun w => Compare_c a2 b2 w)
  have H1 := Lib.hid (fun w => Compare_c a1 b1 w)
  generalize cmpI a0 b0 = c0 at *
  generalize cmpI a2 b2 = c2 at *
  generalize cmpI a1 b1 = c1 at *
  go_enter Try.func70, Try.ntmps70
  go_wp2
  obtain ⟨w1, e1, hb1, p0, p1, p2, m1⟩ := boxA3_ex w 59 (.int .i64 a0) (.int .i64 a1) (.int .i64 a2)
  have z1 : w1.heap.size = w.heap.size + 1 := by rw [← e1]; simp
  obtain ⟨w2, e2, hb2, q0, q1, q2, m2⟩ := boxA3_ex w1 59 (.int .i64 b0) (.int .i64 b1) (.int .i64 b2)
  have z2 : w2.heap.size = w.heap.size + 1 + 1 := by rw [← e2]; simp [z1]
  have EE := Lib.hid (show w2 = Sort.grow w #[.cells #[.int .i64 a0, .int .i64 a1, .int .i64 a2] 59, .cells #[.int .i64 b0, .int .i64 b1, .int .i64 b2] 59] from by rw [← e2, ← e1, Sort.alloc_eq_grow, Sort.alloc_eq_grow, Sort.grow_grow]; rfl)
  rw [e1, e2]
  rw [z1] at q0 q1 q2
  have hb3 := hb1.trans (hb2.mono (by omega))
  replace p0 := (hb2.cell (p := ⟨w.heap.size, 0, none⟩) m1).trans p0
  replace p1 := (hb2.cell (p := ⟨w.heap.size, 1, none⟩) m1).trans p1
  replace p2 := (hb2.cell (p := ⟨w.heap.size, 2, none⟩) m1).trans p2
  clear e1 e2 hb1 hb2 m1 m2 z1 w1
  have hS0 : w2.cell? ⟨w.heap.size, 0, none⟩ = some (.int .i64 a0) ∧ w2.cell? ⟨w.heap.size, 1, none⟩ = some (.int .i64 a1) ∧ w2.cell? ⟨w.heap.size, 2, none⟩ = some (.int .i64 a2) ∧ w2.cell? ⟨w.heap.size + 1, 0, none⟩ = some (.int .i64 b0) ∧ w2.cell? ⟨w.heap.size + 1, 1, none⟩ = some (.int .i64 b1) ∧ w2.cell? ⟨w.heap.size + 1, 2, none⟩ = some (.int .i64 b2) := ⟨p0, p1, p2, q0, q1, q2⟩
  have hSd : w2.drew.cell? ⟨w.heap.size, 0, none⟩ = some (.int .i64 a0) ∧ w2.drew.cell? ⟨w.heap.size, 1, none⟩ = some (.int .i64 a1) ∧ w2.drew.cell? ⟨w.heap.size, 2, none⟩ = some (.int .i64 a2) ∧ w2.drew.cell? ⟨w.heap.size + 1, 0, none⟩ = some (.int .i64 b0) ∧ w2.drew.cell? ⟨w.heap.size + 1, 1, none⟩ = some (.int .i64 b1) ∧ w2.drew.cell? ⟨w.heap.size + 1, 2, none⟩ = some (.int .i64 b2) := hS0
  have hSa : (w2.drew.alloc (.cells #[.int .i64 c0, .int .i64 c2, .int .i64 c1] 3)).cell? ⟨w.heap.size, 0, none⟩ = some (.int .i64 a0) ∧ (w2.drew.alloc (.cells #[.int .i64 c0, .int .i64 c2, .int .i64 c1] 3)).cell? ⟨w.heap.size, 1, none⟩ = some (.int .i64 a1) ∧ (w2.drew.alloc (.cells #[.int .i64 c0, .int .i64 c2, .int .i64 c1] 3)).cell? ⟨w.heap.size, 2, none⟩ = some (.int .i64 a2) ∧ (w2.drew.alloc (.cells #[.int .i64 c0, .int .i64 c2, .int .i64 c1] 3)).cell? ⟨w.heap.size + 1, 0, none⟩ = some (.int .i64 b0) ∧ (w2.drew.alloc (.cells #[.int .i64 c0, .int .i64 c2, .int .i64 c1] 3)).cell? ⟨w.heap.size + 1, 1, none⟩ = some (.int .i64 b1) ∧ (w2.drew.alloc (.cells #[.int .i64 c0, .int .i64 c2, .int .i64 c1] 3)).cell? ⟨w.heap.size + 1, 2, none⟩ = some (.int .i64 b2) := ⟨(World.cell?_alloc_past _ _ _ (show w.heap.size < w2.heap.size by omega)).trans p0, (World.cell?_alloc_past _ _ _ (show w.heap.size < w2.heap.size by omega)).trans p1, (World.cell?_alloc_past _ _ _ (show w.heap.size < w2.heap.size by omega)).trans p2, (World.cell?_alloc_past _ _ _ (show w.heap.size + 1 < w2.heap.size by omega)).trans q0, (World.cell?_alloc_past _ _ _ (show w.heap.size + 1 < w2.heap.size by omega)).trans q1, (World.cell?_alloc_past _ _ _ (show w.heap.size + 1 < w2.heap.size by omega)).trans q2⟩
  have hSb : (w2.alloc (.cells #[.int .i64 c0, .int .i64 c2, .int .i64 c1] 3)).drew.cell? ⟨w.heap.size, 0, none⟩ = some (.int .i64 a0) ∧ (w2.alloc (.cells #[.int .i64 c0, .int .i64 c2, .int .i64 c1] 3)).drew.cell? ⟨w.heap.size, 1, none⟩ = some (.int .i64 a1) ∧ (w2.alloc (.cells #[.int .i64 c0, .int .i64 c2, .int .i64 c1] 3)).drew.cell? ⟨w.heap.size, 2, none⟩ = some (.int .i64 a2) ∧ (w2.alloc (.cells #[.int .i64 c0, .int .i64 c2, .int .i64 c1] 3)).drew.cell? ⟨w.heap.size + 1, 0, none⟩ = some (.int .i64 b0) ∧ (w2.alloc (.cells #[.int .i64 c0, .int .i64 c2, .int .i64 c1] 3)).drew.cell? ⟨w.heap.size + 1, 1, none⟩ = some (.int .i64 b1) ∧ (w2.alloc (.cells #[.int .i64 c0, .int .i64 c2, .int .i64 c1] 3)).drew.cell? ⟨w.heap.size + 1, 2, none⟩ = some (.int .i64 b2) := ⟨(World.cell?_alloc_past _ _ _ (show w.heap.size < w2.heap.size by omega)).trans p0, (World.cell?_alloc_past _ _ _ (show w.heap.size < w2.heap.size by omega)).trans p1, (World.cell?_alloc_past _ _ _ (show w.heap.size < w2.heap.size by omega)).trans p2, (World.cell?_alloc_past _ _ _ (show w.heap.size + 1 < w2.heap.size by omega)).trans q0, (World.cell?_alloc_past _ _ _ (show w.heap.size + 1 < w2.heap.size by omega)).trans q1, (World.cell?_alloc_past _ _ _ (show w.heap.size + 1 < w2.heap.size by omega)).trans q2⟩
  have HI := Lib.hid (Ints.three (w := w2.drew.alloc (.cells #[.int .i64 c0, .int .i64 c2, .int .i64 c1] 3)) (b := w2.heap.size) (x := c0) (y := c2) (z := c1) (by simp) (World.cell?_alloc_at _ _ _ 0 rfl) (World.cell?_alloc_at _ _ _ 1 rfl) (World.cell?_alloc_at _ _ _ 2 rfl))
  have HI2 := Lib.hid (Ints.three (w := (w2.alloc (.cells #[.int .i64 c0, .int .i64 c2, .int .i64 c1] 3)).drew) (b := w2.heap.size) (x := c0) (y := c2) (z := c1) (by simp) (World.cell?_alloc_at _ _ _ 0 rfl) (World.cell?_alloc_at _ _ _ 1 rfl) (World.cell?_alloc_at _ _ _ 2 rfl))
  have Hbf2 := Lib.hid (show ∃ q os', (w2.alloc (.cells #[.int .i64 c0, .int .i64 c2, .int .i64 c1] 3)).drew = Sort.grow (w.drewN q) os' from ⟨1, _, by rw [EE.out, Sort.alloc_eq_grow, Sort.grow_grow]; rfl⟩)
  have Hbf := Lib.hid (show ∃ q os', w2.drew.alloc (.cells #[.int .i64 c0, .int .i64 c2, .int .i64 c1] 3) = Sort.grow (w.drewN q) os' from ⟨1, _, by rw [EE.out, Sort.alloc_eq_grow, Sort.drew_grow, Sort.grow_grow]; rfl⟩)
  clear hb3 z2 p0 p1 p2 q0 q1 q2
  go_region_held3 (fun w' => w'.cell? ⟨w.heap.size, 0, none⟩ = some (.int .i64 a0) ∧ w'.cell? ⟨w.heap.size, 1, none⟩ = some (.int .i64 a1) ∧ w'.cell? ⟨w.heap.size, 2, none⟩ = some (.int .i64 a2) ∧ w'.cell? ⟨w.heap.size + 1, 0, none⟩ = some (.int .i64 b0) ∧ w'.cell? ⟨w.heap.size + 1, 1, none⟩ = some (.int .i64 b1) ∧ w'.cell? ⟨w.heap.size + 1, 2, none⟩ = some (.int .i64 b2))
    (first | with_reducible exact hSd | with_reducible exact hSa | with_reducible exact hSb | with_reducible exact hS0 | go_keep)
    ((first
      | (go_at_call 96; with_reducible refine (H0.out _).mono ?_; rintro e w' ⟨rfl, rfl⟩)
      | (go_at_call 96; with_reducible refine (H2.out _).mono ?_; rintro e w' ⟨rfl, rfl⟩)
      | (go_at_call 96; with_reducible refine (H1.out _).mono ?_; rintro e w' ⟨rfl, rfl⟩)
      | (go_at_call 95; with_reducible refine (Or_c HI.out).mono ?_; rintro e w' ⟨rfl, rfl⟩; have Hbz := Hbf)
      | (go_at_call 95; with_reducible refine (Or_c HI2.out).mono ?_; rintro e w' ⟨rfl, rfl⟩; have Hbz := Hbf2)
      | fail))
  all_goals (go_wp2; go_ret; exact ⟨by rw [H.out]; rfl, Hbz.out⟩)

shelf_lay_g SlLaysF0.n6 Slsf 6 at Try 69 as Try.sortArc
theorem cmp_lays (blk off size : Nat) (w : World) : Go.Proofs.CmpLays Try.prog 70 #[] acell 3 cmpA blk off size w :=
  fun _ _ _ _ x y => compareArcs_g x y _
theorem sorted_same {d d' : Array Arc3} (hp : Go.Sort.PermIn 0 d.size d d') (hs : Go.Sort.SortedIn (Go.Proofs.ltOf cmpA) 0 d.size d') (hd : d.toList.Pairwise fun a b => before b a = false ∧ a ≠ b) : d' = d := by
  obtain ⟨h1, -, h2⟩ := hp
  rw [Array.extract_eq_self_of_le (by omega), Array.extract_eq_self_of_le (by omega)] at h2
  apply Array.toList_inj.1
  refine List.Perm.eq_of_pairwise (le := fun a b => before b a = false) (fun a b _ _ hab hba => ?_) ?_ (hd.imp fun h => h.1) h2
  · have h3 : ¬ _ := fun h => by rw [(before_iff b a).2 h] at hab; cases hab
    have h4 : ¬ _ := fun h => by rw [(before_iff a b).2 h] at hba; cases hba
    exact Prod.ext (by omega) (Prod.ext (by omega) (by omega))
  · rw [List.pairwise_iff_getElem]
    intro i j hi hj hij
    have hj' : j < d'.size := by simpa using hj
    have hi' : i < d'.size := by simpa using hi
    have h3 := hs i j (Nat.zero_le _) hij (by omega)
    rw [cmp_lt, getElem!_pos d' j hj', getElem!_pos d' i hi'] at h3
    simpa using h3
set_option maxRecDepth 100000 in
theorem sortArcs_c {w : World} {blk cap : Nat} {d : Array Arc3} (hd : d.toList.Pairwise fun a b => before b a = false ∧ a ≠ b) (hH : Go.Sort.HoldsK acell 3 w blk 0 d) (hblk : blk < w.heap.size) (hsz : d.size ≤ 1048576) :
    Calls Try.prog 69 #[.slice (some ⟨blk, 0, none⟩) d.size cap, .func (.func 70) #[] #[]] w fun e w' => e = .returned (.tuple #[]) ∧ Below w.heap.size w w' := by
  have eg : ∀ args w, (callFunc 70 args).run Try.prog w = .ok (.enter 70 args) w := fun _ _ => rfl
  have h := AnyQ.slices_SortFunc Try.sortArc 3 Try.isAgg59 Try.sizeOf59 acell (fun _ => rfl) (fun x v hv => acell_lay.one x v hv) cmpA cmp_swo 70 #[] blk 0 cap d w eg (cmp_lays blk 0 d.size w) hH hblk (by omega)
  refine h.mono fun e w' ⟨he, d', n, os, hp, hs, hw⟩ => ⟨he, ?_⟩
  have e := sorted_same hp hs hd
  subst e
  subst hw
  unfold Go.Proofs.sortWorldK
  rw [Go.Sort.putRowK_self _ _ _ _ _ _ (Go.Sort.holdsK_ahead acell 3 w n blk 0 d' hH)]
  exact ⟨rfl, rfl, rfl, by simp [Go.Sort.grow, Go.Sort.ahead], fun k hk => by
    show (w.heap ++ os)[k]? = _
    rw [Array.getElem?_append_left hk]⟩
theorem row_holds {lo : Nat} {w : World} {b n c : Nat} {xs : List Arc3} {rs : List Res} (h : Sep lo w (Res.row 59 3 acell (.slice (some ⟨b, 0, none⟩) n c) xs :: rs)) (h0 : 0 < xs.length) : b < w.heap.size ∧ Go.Sort.HoldsK acell 3 w b 0 xs.toArray := by
  obtain ⟨G, hG, -, -⟩ := h.head
  obtain ⟨g, c', hv, -, -, -, hg, hx⟩ := RowG.at acell_lay hG h0
  simp at hv
  obtain ⟨rfl, -, -⟩ := hv
  refine ⟨hg, fun t ht => ?_⟩
  rw [Go.Sort.size_flatK] at ht
  have ht' : t < xs.length * 3 := by simpa using ht
  rw [Go.Sort.get_flatK _ _ _ _ ht]
  obtain ⟨x, hxi, _⟩ := at_lt (xs := xs) (k := t / 3) (by omega)
  have e1 : xs.toArray[t / 3]! = x := by
    rw [getElem!_pos _ _ (by simp; omega)]
    simp
    rw [List.getElem?_eq_getElem (by omega)] at hxi
    exact Option.some.inj hxi
  rw [e1]
  have h3 : t % 3 = 0 ∨ t % 3 = 1 ∨ t % 3 = 2 := by omega
  have e2 : 0 + t = t / 3 * 3 + t % 3 := by omega
  rw [e2]
  rcases h3 with h3 | h3 | h3 <;> rw [h3] <;> exact hx _ x _ _ hxi rfl
end Go.Proofs.Ytcilgihmaaobeaa
end

section
/-
  The labelled graph of a shift: impl's LabelsOf.
-/
namespace Go.Proofs.Ytcilgihmaaobeaa
open Go.RowKit Go.Deep Go.Sd
set_option linter.unusedSimpArgs false
set_option maxHeartbeats 8000000 in
set_option maxRecDepth 100000 in
theorem impl_LabelsOf_c {w : World} {vs : Value} {z : Sh} (hz : ShR w vs z) (hf : ∀ f, f ∈ z.2 → f.size ≤ 1048576) (hM : MaxOk w) :
    Calls Try.prog 29 #[vs] w (Makes2 OLab w (lofV z) (lofOk z)) := by
  have HGr := Lib.hid (fun w1 (hb : Below w.heap.size w w1) => impl_GraphOf_c (ShR.frame _ _ _ _ hz hb) hf (hM.below hb))
  have HSt := Lib.hid (fun w1 (hb : Below w.heap.size w w1) => impl_StatesOf_c (ShR.frame _ _ _ _ hz hb) hf (hM.below hb))
  rw [lan2 z] at HSt
  have HV := Lib.hid (lofV_eq z)
  have HO := Lib.hid (lofOk_eq z)
  have HSo := Lib.hid (fun h : lofOk z = true => garcs_sorted h)
  have HPo := Lib.hid (fun h : lofOk z = true => garcs_pos h)
  have HG := Lib.hid (show gmV z = tabOf (stW z).length (stW z).length (gent z.2 (stW z)) from rfl)
  have HTw := Lib.hid (fun v (h : v ∈ stW z) => stW_two h)
  have h9 := stW_len z
  have HLe := Lib.hid (garcs_le z.2 (stW z) h9)
  generalize lofV z = V at HV ⊢
  generalize lofOk z = ok at HV HO HSo HPo HGr ⊢
  generalize gmV z = GM at HG HGr
  generalize stW z = W at HV HO HSo HPo HG HTw h9 HLe HSt
  obtain ⟨L, FF⟩ := z
  obtain ⟨va, rfl, ht⟩ := hz
  obtain ⟨a, cc, rfl, -⟩ := ht.shape
  simp only at ht HGr HSt HV HSo HPo HG HLe
  generalize FF.length = n0 at *
  obtain ⟨wA, eA, hA0⟩ : ∃ wA, wA = (w.alloc (.cells #[.int .i64 L, .slice a n0 cc] 44)).alloc (.cells #[.int .i64 0, .int .i64 0, .slice none 0 0] 26) ∧ Below w.heap.size w wA := ⟨_, rfl, ((Below.refl _ _).alloc (Nat.le_refl _) _).alloc (by simp) _⟩
  have zA : wA.heap.size = w.heap.size + 1 + 1 := by rw [eA]; simp
  have l0 : wA.cell? ⟨w.heap.size, 0, none⟩ = some (.int .i64 L) := by rw [eA]; simp [go_sem]
  have l1 : wA.cell? ⟨w.heap.size, 1, none⟩ = some (.slice a n0 cc) := by rw [eA]; simp [go_sem]
  have R0 := Lib.hid (show wA.cell? ⟨w.heap.size + 1, 0, none⟩ = some (.int .i64 0) from by rw [eA]; simp [go_sem])
  have R1 := Lib.hid (show wA.cell? ⟨w.heap.size + 1, 1, none⟩ = some (.int .i64 0) from by rw [eA]; simp [go_sem])
  have R2 := Lib.hid (show wA.cell? ⟨w.heap.size + 1, 2, none⟩ = some (.slice none 0 0) from by rw [eA]; simp [go_sem])
  have F0 := Lib.hid (show wA.frozen? ⟨w.heap.size + 1, 0, none⟩ = false from by rw [eA]; simp [go_sem])
  have F1 := Lib.hid (show wA.frozen? ⟨w.heap.size + 1, 1, none⟩ = false from by rw [eA]; simp [go_sem])
  have F2 := Lib.hid (show wA.frozen? ⟨w.heap.size + 1, 2, none⟩ = false from by rw [eA]; simp [go_sem])
  have HA := Lib.hid hA0
  have eW := eA.symm
  have h1w : w.heap.size + 1 < wA.heap.size := by omega
  have h0w : w.heap.size < wA.heap.size := by omega
  clear eA hA0 zA ht hf hM
  go_enter Try.func29, Try.ntmps29
  go_wp2_with fail
  (with_reducible refine (HGr.out _ HA.out).mono ?_)
  rintro e w1 ⟨r, rfl, hn, hb1⟩
  have HT1 := Lib.hid (New.tab hn)
  obtain ⟨ta, tc, er, -⟩ := (New.tab hn).shape
  subst er
  replace l0 := (hb1.cell (p := ⟨w.heap.size, 0, none⟩) h0w).trans l0
  replace l1 := (hb1.cell (p := ⟨w.heap.size, 1, none⟩) h0w).trans l1
  replace R0 := Lib.hid ((hb1.cell (p := ⟨w.heap.size + 1, 0, none⟩) h1w).trans R0.out)
  replace F0 := Lib.hid ((hb1.frozen (p := ⟨w.heap.size + 1, 0, none⟩) h1w).trans F0.out)
  replace R1 := Lib.hid ((hb1.cell (p := ⟨w.heap.size + 1, 1, none⟩) h1w).trans R1.out)
  replace F1 := Lib.hid ((hb1.frozen (p := ⟨w.heap.size + 1, 1, none⟩) h1w).trans F1.out)
  replace R2 := Lib.hid ((hb1.cell (p := ⟨w.heap.size + 1, 2, none⟩) h1w).trans R2.out)
  replace F2 := Lib.hid ((hb1.frozen (p := ⟨w.heap.size + 1, 2, none⟩) h1w).trans F2.out)
  have A1 := Lib.hid (HA.out.trans (hb1.mono HA.out.size))
  replace h1w : w.heap.size + 1 < w1.heap.size := Nat.lt_of_lt_of_le h1w hb1.size
  replace h0w : w.heap.size < w1.heap.size := Nat.lt_of_lt_of_le h0w hb1.size
  clear eW hb1 HGr HA hn
  cases ok with
  | false =>
    have HW := Lib.hid (show V = (0, 0, []) from by rw [HV.out]; rfl)
    clear HV HO HSo HPo HSt HG HLe HTw HT1
    have r0 := R0.out
    have r1 := R1.out
    have r2 := R2.out
    have t0 := F0.out
    have t1 := F1.out
    have t2 := F2.out
    go_wp2
    have s0 := World.cell?_setCell_same w1 _ (.int .i64 0) R0.out
    have u1 := (World.cell?_setCell_other _ ⟨w.heap.size + 1, 0, none⟩ _ (.int .i64 0) (by simp)).trans R1.out
    have s1 := World.cell?_setCell_same _ _ (.int .i64 0) u1
    have u2 := (World.cell?_setCell_other _ ⟨w.heap.size + 1, 1, none⟩ _ (.int .i64 0) (by simp)).trans ((World.cell?_setCell_other _ ⟨w.heap.size + 1, 0, none⟩ _ (.int .i64 0) (by simp)).trans R2.out)
    have s2 := World.cell?_setCell_same _ _ (.slice none 0 0) u2
    refine bodyPost_ret (v := .tuple #[.agg #[.int .i64 0, .int .i64 0, .slice none 0 0], .bool false]) (by simp [results, Try.results29, go_sem, s0, s1, s2]) rfl ?_
    exact ⟨_, rfl, by rw [HW.out]; exact New.lab0, (((A1.out.setCell (p := ⟨w.heap.size + 1, 0, none⟩) (by simp) _).setCell (p := ⟨w.heap.size + 1, 1, none⟩) (by simp) _).setCell (p := ⟨w.heap.size + 1, 2, none⟩) (by simp) _)⟩
  | true =>
  have hok := HO.out
  obtain ⟨n, hn⟩ : ∃ n, n = W.length := ⟨_, rfl⟩
  have Hn := Lib.hid hn
  have hn0 : n ≠ 0 := by
    have h := hok.symm
    rw [decide_eq_true_eq] at h
    omega
  replace HSo := Lib.hid (HSo.out rfl)
  replace HPo := Lib.hid (HPo.out rfl)
  have HW := Lib.hid (show V = (L, (n : Int), garcs FF W n) from by rw [HV.out, hn]; rfl)
  have HGn := Lib.hid (show GM = tabOf n n (gent FF W) from by rw [HG.out, hn])
  have hGl : GM.length = n := by rw [HGn.out, tabOf_len]
  rw [← hn] at h9 HSo HPo
  rw [hGl]
  clear HV HO HG hok hGl hn
  go_wp2_with fail
  (with_reducible refine (HSt.out _ A1.out).mono ?_)
  rintro e w2 ⟨sv, rfl, hn2, hb2⟩
  have hs2 := Sep.one (OwnOf.kept OStr.kept).held hn2
  obtain ⟨sa, sc, es, hq⟩ := hs2.strsAt
  subst es
  rw [List.length_map, ← Hn.out] at hq ⊢
  obtain ⟨sb, esb, hsb, hsc⟩ := hq (by omega)
  subst esb
  have HSc := Lib.hid hsc
  have HT2 := Lib.hid (Tab.frame _ _ _ _ HT1.out hb2)
  replace l0 := (hb2.cell (p := ⟨w.heap.size, 0, none⟩) h0w).trans l0
  replace l1 := (hb2.cell (p := ⟨w.heap.size, 1, none⟩) h0w).trans l1
  replace R0 := Lib.hid ((hb2.cell (p := ⟨w.heap.size + 1, 0, none⟩) h1w).trans R0.out)
  replace F0 := Lib.hid ((hb2.frozen (p := ⟨w.heap.size + 1, 0, none⟩) h1w).trans F0.out)
  replace R1 := Lib.hid ((hb2.cell (p := ⟨w.heap.size + 1, 1, none⟩) h1w).trans R1.out)
  replace F1 := Lib.hid ((hb2.frozen (p := ⟨w.heap.size + 1, 1, none⟩) h1w).trans F1.out)
  replace R2 := Lib.hid ((hb2.cell (p := ⟨w.heap.size + 1, 2, none⟩) h1w).trans R2.out)
  replace F2 := Lib.hid ((hb2.frozen (p := ⟨w.heap.size + 1, 2, none⟩) h1w).trans F2.out)
  have A2 := Lib.hid (A1.out.trans (hb2.mono A1.out.size))
  replace h1w : w.heap.size + 1 < w2.heap.size := Nat.lt_of_lt_of_le h1w hb2.size
  replace h0w : w.heap.size < w2.heap.size := Nat.lt_of_lt_of_le h0w hb2.size
  clear hb2 hn2 hs2 hq hsc HSt HT1
  have w3d : w2.heap.size = w2.heap.size := rfl
  go_wp2
  obtain ⟨w4, e4, hb4, o0, o1, o2, m4⟩ := boxA3_ex w2 26 (.int .i64 L) (.int .i64 (n : Int)) (.slice none 0 0)
  have hsp := (Sep.one RowG.held (RowG.nil (e := 59) (sz := 3) (f := acell) (w := w2) (lo := w2.heap.size))).boxNew (Nat.le_refl _) [.int .i64 L, .int .i64 (n : Int), .slice none 0 0] 26
  have HSP := Lib.hid (show Sep w2.heap.size w4 [Res.box w2.heap.size [.int .i64 L, .int .i64 (n : Int), .slice none 0 0], Res.row 59 3 acell (.slice none 0 0) (garcs FF W 0)] from by rw [← e4]; exact hsp)
  have HBB := Lib.hid hb4
  rw [e4]
  clear hsp hb4 o0 o1 o2 l0 l1 w3d
  go_loopg [29] n (fun g i wr => ∃ (k : Nat) (ya : Option Addr) (yn yc : Nat), i = .int .i64 k ∧ k + g = n ∧ Hid (Sep w2.heap.size wr [Res.box w2.heap.size [.int .i64 L, .int .i64 (n : Int), .slice ya yn yc], Res.row 59 3 acell (.slice ya yn yc) (garcs FF W k)]) ∧ Hid (Below w2.heap.size w2 wr))
  case atStart => exact ⟨0, _, _, _, rfl, by omega, HSP, HBB⟩
  case round =>
    clear HSP HBB e4 m4
    obtain ⟨k, ya, yn, yc, rfl, hk, HS, HB⟩ := hrel
    obtain ⟨wk, rfl⟩ : ∃ x, x = wr := ⟨_, rfl⟩
    have zk := HB.out.size
    by_cases hkN : k < n
    · have hki : (k : Int) < (n : Int) := by omega
      obtain ⟨b, o, c, hv, hbw, hE⟩ := Tab.entAt HT2.out (by rw [HGn.out, tabOf_len]) (fun r hr => by rw [HGn.out] at hr; exact mem_tabOf hr) (by omega)
      simp at hv
      obtain ⟨rfl, -, rfl⟩ := hv
      obtain ⟨b', o', c', g1, hbw', -, gx⟩ := hE.at hkN (show 0 < n by omega)
      have G1 := Lib.hid g1
      have GX := Lib.hid (show ∀ x, x < n → w2.cell? ⟨b', o' + x, none⟩ = some (.int .i64 (gent FF W k x)) from fun x hx => by rw [gx x hx, HGn.out, ent_tabOf hkN hx])
      have HTk := Lib.hid (show garcs FF W (k + 1) = garcs FF W k ++ garcR FF W k n from by rw [garcs_succ, ← Hn.out])
      have HLn := Lib.hid (show (garcs FF W k).length ≤ 81 from by have := HLe.out k; omega)
      have HS0 := Lib.hid (show Sep w2.heap.size wk [Res.box w2.heap.size [.int .i64 L, .int .i64 (n : Int), .slice ya yn yc], Res.row 59 3 acell (.slice ya yn yc) (garcs FF W k ++ garcR FF W k 0)] from by rw [garcR_zero, List.append_nil]; exact HS.out)
      clear hE gx
      have g1 := (HB.out.cell (p := ⟨b, o + k, none⟩) hbw).trans g1
      go_wp2
      go_loopg [36] n (fun g i wr => ∃ (x : Nat) (ya : Option Addr) (yn yc : Nat), i = .int .i64 x ∧ x + g = n ∧ Hid (Sep w2.heap.size wr [Res.box w2.heap.size [.int .i64 L, .int .i64 (n : Int), .slice ya yn yc], Res.row 59 3 acell (.slice ya yn yc) (garcs FF W k ++ garcR FF W k x)]) ∧ Hid (Below w2.heap.size w2 wr))
      case atStart => exact ⟨0, _, _, _, rfl, by omega, HS0, HB⟩
      case round =>
        clear HS0 HS HB zk g1
        obtain ⟨x, ya, yn, yc, rfl, hx, HS, HB⟩ := hrel
        obtain ⟨wx, rfl⟩ : ∃ x, x = wr := ⟨_, rfl⟩
        have zx := HB.out.size
        obtain ⟨-, mx, hbx⟩ := HS.out.headBox
        have o2 := (hbx 2 _ rfl).1
        have o2f := (hbx 2 _ rfl).2
        have g1 := (HB.out.cell (p := ⟨b, o + k, none⟩) hbw).trans G1.out
        clear hbx
        by_cases hxN : x < n
        · have hxi : (x : Int) < (n : Int) := by omega
          have g2 := (HB.out.cell (p := ⟨b', o' + x, none⟩) hbw').trans (GX.out x hxN)
          obtain ⟨v, hv, _⟩ := at_lt (xs := W) (k := x) (by rw [← Hn.out]; exact hxN)
          have g3 := HSc.out x (wordT v) (by rw [List.getElem?_map, hv]; rfl)
          have g3 := (HB.out.cell (p := ⟨sb, x, none⟩) hsb).trans g3
          have hTv := HTw.out v (List.mem_of_getElem? hv)
          obtain ⟨hvs, -, hv1, -, -⟩ := hTv.facts
          have hlv : v.getD 1 0 < 3 := by obtain ⟨p, q, rfl, -, h⟩ := hTv; exact h
          have HTx := Lib.hid (show garcR FF W k (x + 1) = garcR FF W k x ++ (if goesB FF (W.getD k []) (W.getD x []) = true then [((k : Int), (x : Int), ((v.getD 1 0 : Nat) : Int))] else []) from by rw [garcR_succ, getD_of hv])
          have HLx := Lib.hid (show (garcs FF W k ++ garcR FF W k x).length ≤ 90 from by
            have h1 := garcR_le FF W k x
            rw [List.length_append]
            have := HLn.out
            omega)
          have HGe := Lib.hid (show gent FF W k x = if goesB FF (W.getD k []) (W.getD x []) = true then 1 else 0 from rfl)
          generalize gent FF W k x = t at g2 HGe
          generalize goesB FF (W.getD k []) (W.getD x []) = gg at HTx HGe
          obtain ⟨lv, hlve⟩ : ∃ l, l = v.getD 1 0 := ⟨_, rfl⟩
          rw [← hlve] at HTx hv1 hlv
          obtain ⟨svx, hsvx⟩ : ∃ x, x = wordT v := ⟨_, rfl⟩
          rw [← hsvx] at hvs hv1 g3
          clear hv hTv hlve hsvx
          cases gg with
          | true =>
            have et : t = 1 := HGe.out
            subst et
            have HR3 := Lib.hid (show garcR FF W k (x + 1) = garcR FF W k x ++ [((k : Int), (x : Int), (lv : Int))] from by rw [HTx.out, if_pos rfl])
            have hll := Lib.hid HLx.out
            have bsx : sb < wx.heap.size := by omega
            have B1 := ((Below.refl wx.heap.size wx).alloc (Nat.le_refl _) (.cells #[.int .i64 k, .int .i64 x, .int .i64 lv] 59)).drew
            obtain ⟨v', w5, hr, hs2, hb2⟩ := HS.out.swap.pushG (P := Try.prog) acell_lay 24 24 (.agg #[.int .i64 0, .int .i64 0, .int .i64 0]) 24 Try.underlying24 infoA rfl (by omega) (w1 := ((wx.alloc (.cells #[.int .i64 k, .int .i64 x, .int .i64 lv] 59)).drew)) B1 ((k : Int), (x : Int), (lv : Int)) (bb := wx.heap.size) 1
              (by
                intro i u hu
                match i, hu with
                | 0, hu => simp [acell] at hu; subst hu; simp [go_sem]
                | 1, hu => simp [acell] at hu; subst hu; simp [go_sem]
                | 2, hu => simp [acell] at hu; subst hu; simp [go_sem]) (by have := hll.out; omega) (by have := hll.out; omega)
            obtain ⟨za, zn, zc, rfl⟩ : ∃ a n c, v' = .slice a n c := hs2.headNew.imp (fun F hF => hF.1) |> fun h => by obtain ⟨F, hF⟩ := h; obtain ⟨a, c, e⟩ := RowG.slice hF; exact ⟨a, _, c, e⟩
            have hbx := hs2.swap.headBox.2
            have hc2 := (hbx.2 2 _ rfl).1
            have hf2 := (hbx.2 2 _ rfl).2
            have hg3 : w5.cell? ⟨sb, x, none⟩ = some (.string svx) := (hb2.cell (p := ⟨sb, x, none⟩) hsb).trans g3
            have hst := hs2.swap.boxStore (by have := hb2.size; omega) (j := 2) rfl (.slice za zn zc)
            have HST := Lib.hid (show Sep w2.heap.size (w5.setCell ⟨w2.heap.size, 2, none⟩ (.slice za zn zc)) [Res.box w2.heap.size [.int .i64 L, .int .i64 (n : Int), .slice za zn zc], Res.row 59 3 acell (.slice za zn zc) (garcs FF W k ++ garcR FF W k (x + 1))] from by rw [HR3.out, ← List.append_assoc]; exact hst)
            have HBs := Lib.hid ((HB.out.trans hb2).setCell (p := ⟨w2.heap.size, 2, none⟩) (Nat.le_refl _) (.slice za zn zc))
            have Hr := Lib.hid hr
            have hSd : wx.drew.cell? ⟨w2.heap.size, 2, none⟩ = some (.slice ya yn yc) ∧ wx.drew.cell? ⟨sb, x, none⟩ = some (.string svx) := ⟨o2, g3⟩
            have hS1 : ((wx.alloc (.cells #[.int .i64 k, .int .i64 x, .int .i64 lv] 59)).drew).cell? ⟨w2.heap.size, 2, none⟩ = some (.slice ya yn yc) ∧ ((wx.alloc (.cells #[.int .i64 k, .int .i64 x, .int .i64 lv] 59)).drew).cell? ⟨sb, x, none⟩ = some (.string svx) := ⟨(B1.cell (p := ⟨w2.heap.size, 2, none⟩) mx).trans o2, (B1.cell (p := ⟨sb, x, none⟩) bsx).trans g3⟩
            have hS2 : w5.cell? ⟨w2.heap.size, 2, none⟩ = some (.slice ya yn yc) ∧ w5.cell? ⟨sb, x, none⟩ = some (.string svx) := ⟨hc2, hg3⟩
            have hlw : IntKind.u8.wrap (97 + (lv : Int) - 97) = (lv : Int) := lw_u8 hlv
            have hlw2 : IntKind.i64.wrap (lv : Int) = (lv : Int) := lw_2 hlv
            have hlw3 : IntKind.u8.wrap (lv : Int) = (lv : Int) := lw_3 hlv
            clear HTx B1 hr hs2 hb2 hbx hst HB hg3 HS HLx HGe
            go_wp2
            refine wp_region_L (fun w' => w'.cell? ⟨w2.heap.size, 2, none⟩ = some (.slice ya yn yc) ∧ w'.cell? ⟨sb, x, none⟩ = some (.string svx)) (by kernel_rfl) ?_
            refine wpAnyL_take 0 (v := ?_) rfl (by kernel_rfl) (by kernel_rfl) (by kernel_rfl) (by kernel_rfl) (fun _ _ _ h => h) (Or.inl ⟨by rfl, ?_⟩) hSd ?_
            rotate_left
            · (intro w hSw; (try dsimp only at hSw); go_simp) <;> (try with_reducible rfl)
            try simp only [Act.put, List.getElem_toArray, List.getElem_cons_zero, List.getElem_cons_succ, List.setIfInBounds_toArray, List.set_cons_zero, List.set_cons_succ]
            refine wpAnyL_take 1 (v := ?_) rfl (by kernel_rfl) (by kernel_rfl) (by kernel_rfl) (by kernel_rfl) (fun _ _ _ h => h) (Or.inl ⟨by rfl, ?_⟩) hSd ?_
            rotate_left
            · (intro w hSw; (try dsimp only at hSw); go_simp) <;> (try with_reducible rfl)
            try simp only [Act.put, List.getElem_toArray, List.getElem_cons_zero, List.getElem_cons_succ, List.setIfInBounds_toArray, List.set_cons_zero, List.set_cons_succ]
            refine wpAnyL_take 2 (v := ?_) rfl (by kernel_rfl) (by kernel_rfl) (by kernel_rfl) (by kernel_rfl) (fun _ _ _ h => h) (Or.inl ⟨by rfl, ?_⟩) hSd ?_
            rotate_left
            · (intro w hSw; (try dsimp only at hSw); go_simp) <;> (try with_reducible rfl)
            try simp only [Act.put, List.getElem_toArray, List.getElem_cons_zero, List.getElem_cons_succ, List.setIfInBounds_toArray, List.set_cons_zero, List.set_cons_succ]
            refine wpAnyL_take 3 (v := ?_) rfl (by kernel_rfl) (by kernel_rfl) (by kernel_rfl) (by kernel_rfl) (fun _ _ _ h => h) (Or.inl ⟨by rfl, ?_⟩) hSd ?_
            rotate_left
            · (intro w hSw; (try dsimp only at hSw); go_simp) <;> (try with_reducible rfl)
            try simp only [Act.put, List.getElem_toArray, List.getElem_cons_zero, List.getElem_cons_succ, List.setIfInBounds_toArray, List.set_cons_zero, List.set_cons_succ]
            refine wpAnyL_take 4 (v := ?_) rfl (by kernel_rfl) (by kernel_rfl) (by kernel_rfl) (by kernel_rfl) (fun _ _ _ h => h) (Or.inl ⟨by rfl, ?_⟩) hSd ?_
            rotate_left
            · (intro w hSw; (try dsimp only at hSw); go_simp) <;> (try with_reducible rfl)
            try simp only [Act.put, List.getElem_toArray, List.getElem_cons_zero, List.getElem_cons_succ, List.setIfInBounds_toArray, List.set_cons_zero, List.set_cons_succ]
            refine wpAnyL_take 5 (v := ?_) rfl (by kernel_rfl) (by kernel_rfl) (by kernel_rfl) (by kernel_rfl) (fun _ _ _ h => h) (Or.inl ⟨by rfl, ?_⟩) hSd ?_
            rotate_left
            · (intro w hSw; (try dsimp only at hSw); go_simp) <;> (try with_reducible rfl)
            try simp only [Act.put, List.getElem_toArray, List.getElem_cons_zero, List.getElem_cons_succ, List.setIfInBounds_toArray, List.set_cons_zero, List.set_cons_succ]
            refine wpAnyL_take 6 (v := ?_) rfl (by kernel_rfl) (by kernel_rfl) (by kernel_rfl) (by kernel_rfl) (fun _ _ _ h => h) (Or.inl ⟨by rfl, ?_⟩) hSd ?_
            rotate_left
            · (intro w hSw; (try dsimp only at hSw); go_simp) <;> (try with_reducible rfl)
            try simp only [Act.put, List.getElem_toArray, List.getElem_cons_zero, List.getElem_cons_succ, List.setIfInBounds_toArray, List.set_cons_zero, List.set_cons_succ]
            refine wpAnyL_take 7 (v := ?_) rfl (by kernel_rfl) (by kernel_rfl) (by kernel_rfl) (by kernel_rfl) (fun _ _ _ h => h) (Or.inl ⟨by rfl, ?_⟩) hSd ?_
            rotate_left
            · (intro w hSw; (try dsimp only at hSw); go_simp) <;> (try with_reducible rfl)
            try simp only [Act.put, List.getElem_toArray, List.getElem_cons_zero, List.getElem_cons_succ, List.setIfInBounds_toArray, List.set_cons_zero, List.set_cons_succ]
            refine wpAnyL_take 8 (v := ?_) rfl (by kernel_rfl) (by kernel_rfl) (by kernel_rfl) (by kernel_rfl) (fun _ _ _ h => h) (Or.inl ⟨by rfl, ?_⟩) hSd ?_
            rotate_left
            · (intro w hSw; (try dsimp only at hSw); go_simp) <;> (try with_reducible rfl)
            try simp only [Act.put, List.getElem_toArray, List.getElem_cons_zero, List.getElem_cons_succ, List.setIfInBounds_toArray, List.set_cons_zero, List.set_cons_succ]
            refine wpAnyL_take 9 (v := ?_) rfl (by kernel_rfl) (by kernel_rfl) (by kernel_rfl) (by kernel_rfl) (fun _ _ _ h => h) (Or.inl ⟨by rfl, ?_⟩) hSd ?_
            rotate_left
            · (intro w hSw; (try dsimp only at hSw); go_simp) <;> (try with_reducible rfl)
            try simp only [Act.put, List.getElem_toArray, List.getElem_cons_zero, List.getElem_cons_succ, List.setIfInBounds_toArray, List.set_cons_zero, List.set_cons_succ]
            refine wpAnyL_take 10 (v := ?_) rfl (by kernel_rfl) (by kernel_rfl) (by kernel_rfl) (by kernel_rfl) (fun _ _ _ h => h) (Or.inl ⟨by rfl, ?_⟩) hSd ?_
            rotate_left
            · (intro w hSw; (try dsimp only at hSw); go_simp) <;> (try with_reducible rfl)
            try simp only [Act.put, List.getElem_toArray, List.getElem_cons_zero, List.getElem_cons_succ, List.setIfInBounds_toArray, List.set_cons_zero, List.set_cons_succ]
            refine wpAnyL_take 11 (v := ?_) rfl (by kernel_rfl) (by kernel_rfl) (by kernel_rfl) (by kernel_rfl) (fun _ _ _ h => h) (Or.inl ⟨by rfl, ?_⟩) hSd ?_
            rotate_left
            · (intro w hSw; (try dsimp only at hSw); go_simp) <;> (try with_reducible rfl)
            try simp only [Act.put, List.getElem_toArray, List.getElem_cons_zero, List.getElem_cons_succ, List.setIfInBounds_toArray, List.set_cons_zero, List.set_cons_succ]
            refine wpAnyL_one 12 (by kernel_rfl) rfl (fun K hK => ?_)
            go_simp
            refine hK.out _ _ (fun _ => hS1) ?_
            clear hK K
            try simp only [Act.put, List.getElem_toArray, List.getElem_cons_zero, List.getElem_cons_succ, List.setIfInBounds_toArray, List.set_cons_zero, List.set_cons_succ]
            refine wpAnyL_one 13 (by kernel_rfl) rfl (fun K hK => ?_)
            refine step_append_run (by rfl) (.tmp 44) (.tmp 55) 24 (by rfl) (by rfl) (by rfl) Hr.out ?_
            refine hK.out _ _ (fun _ => hS2) ?_
            clear hK K
            try simp only [Act.put, List.getElem_toArray, List.getElem_cons_zero, List.getElem_cons_succ, List.setIfInBounds_toArray, List.set_cons_zero, List.set_cons_succ]
            refine wpAnyL_take 14 (v := ?_) rfl (by kernel_rfl) (by kernel_rfl) (by kernel_rfl) (by kernel_rfl) (fun _ _ _ h => h) (Or.inl ⟨by rfl, ?_⟩) hS2 ?_
            rotate_left
            · (intro w hSw; (try dsimp only at hSw); go_simp) <;> (try with_reducible rfl)
            try simp only [Act.put, List.getElem_toArray, List.getElem_cons_zero, List.getElem_cons_succ, List.setIfInBounds_toArray, List.set_cons_zero, List.set_cons_succ]
            refine wpAnyL_one 15 (by kernel_rfl) rfl (fun K hK => ?_)
            go_simp
            refine hK.out _ _ (fun h => absurd h (not_rem (by kernel_rfl))) ?_
            clear hK K
            try simp only [Act.put, List.getElem_toArray, List.getElem_cons_zero, List.getElem_cons_succ, List.setIfInBounds_toArray, List.set_cons_zero, List.set_cons_succ]
            refine wpAnyL_done (by kernel_rfl) ?_ _
            all_goals (
              go_wp2
              go_roundg (n - (x + 1))
              case measure => omega
              case rel => exact ⟨x + 1, za, zn, zc, by go_num, by omega, HST, HBs⟩)
          | false =>
            have et : t = 0 := HGe.out
            subst et
            have HR3 := Lib.hid (show garcR FF W k (x + 1) = garcR FF W k x from by rw [HTx.out, if_neg (by decide), List.append_nil])
            clear HTx HLx HGe
            go_wp2
            go_roundg (n - (x + 1))
            case measure => omega
            case rel => exact ⟨x + 1, ya, yn, yc, by go_num, by omega, by rw [HR3.out]; exact HS, HB⟩
        · obtain rfl : x = n := by omega
          have hxi : ¬ ((x : Int) < (x : Int)) := by omega
          have HSE := Lib.hid (show Sep w2.heap.size wx [Res.box w2.heap.size [.int .i64 L, .int .i64 (x : Int), .slice ya yn yc], Res.row 59 3 acell (.slice ya yn yc) (garcs FF W (k + 1))] from by rw [HTk.out]; exact HS.out)
          clear HTk HS GX
          go_wp2
          go_roundg (x - (k + 1))
          case measure => omega
          case rel => exact ⟨k + 1, ya, yn, yc, by go_num, by omega, HSE, HB⟩
    · obtain rfl : k = n := by omega
      have hki : ¬ ((k : Int) < (k : Int)) := by omega
      obtain ⟨-, mk, hbx⟩ := HS.out.headBox
      have o0 := (hbx 0 _ rfl).1
      have o1 := (hbx 1 _ rfl).1
      have o2 := (hbx 2 _ rfl).1
      have f2 := (hbx 2 _ rfl).2
      have HRd := Lib.hid (HS.out.swap.headNew)
      have hal : (garcs FF W k).length ≤ 81 := by have := HLe.out k; omega
      obtain ⟨yb, yc', ey, -, -, -, -, -⟩ := HRd.out.rowAt acell_lay HPo.out
      simp at ey
      obtain ⟨rfl, rfl, rfl⟩ := ey
      obtain ⟨hyb, hHo⟩ := row_holds HS.out.swap HPo.out
      have HSf := Lib.hid (sortArcs_c (cap := yc) (d := (garcs FF W k).toArray) HSo.out hHo hyb (by simp; omega))
      rw [List.size_toArray] at HSf
      replace R0 := Lib.hid ((HB.out.cell (p := ⟨w.heap.size + 1, 0, none⟩) h1w).trans R0.out)
      replace F0 := Lib.hid ((HB.out.frozen (p := ⟨w.heap.size + 1, 0, none⟩) h1w).trans F0.out)
      replace R1 := Lib.hid ((HB.out.cell (p := ⟨w.heap.size + 1, 1, none⟩) h1w).trans R1.out)
      replace F1 := Lib.hid ((HB.out.frozen (p := ⟨w.heap.size + 1, 1, none⟩) h1w).trans F1.out)
      replace R2 := Lib.hid ((HB.out.cell (p := ⟨w.heap.size + 1, 2, none⟩) h1w).trans R2.out)
      replace F2 := Lib.hid ((HB.out.frozen (p := ⟨w.heap.size + 1, 2, none⟩) h1w).trans F2.out)
      have HB2 := Lib.hid (A2.out.trans (HB.out.mono A2.out.size))
      have z4 : w2.heap.size ≤ wk.heap.size := HB.out.size
      have hr1 : w.heap.size + 1 < wk.heap.size := by omega
      have HN := Lib.hid HRd.out
      generalize (garcs FF W k).length = al at HSf hal o2 HN ⊢
      clear HS HB hbx HT2 HRd hHo hyb
      go_wp2_with fail
      (with_reducible refine HSf.out.mono ?_)
      rintro e w7 ⟨rfl, hb7⟩
      have o0 := (hb7.cell (p := ⟨w2.heap.size, 0, none⟩) mk).trans o0
      have o1 := (hb7.cell (p := ⟨w2.heap.size, 1, none⟩) mk).trans o1
      have o2 := (hb7.cell (p := ⟨w2.heap.size, 2, none⟩) mk).trans o2
      replace R0 := Lib.hid ((hb7.cell (p := ⟨w.heap.size + 1, 0, none⟩) hr1).trans R0.out)
      replace F0 := Lib.hid ((hb7.frozen (p := ⟨w.heap.size + 1, 0, none⟩) hr1).trans F0.out)
      replace R1 := Lib.hid ((hb7.cell (p := ⟨w.heap.size + 1, 1, none⟩) hr1).trans R1.out)
      replace F1 := Lib.hid ((hb7.frozen (p := ⟨w.heap.size + 1, 1, none⟩) hr1).trans F1.out)
      replace R2 := Lib.hid ((hb7.cell (p := ⟨w.heap.size + 1, 2, none⟩) hr1).trans R2.out)
      replace F2 := Lib.hid ((hb7.frozen (p := ⟨w.heap.size + 1, 2, none⟩) hr1).trans F2.out)
      have HB7 := Lib.hid (HB2.out.trans (hb7.mono HB2.out.size))
      have HN7 := Lib.hid (show New (RowA 59) w2.heap.size w7 (.slice (some ⟨yb, 0, none⟩) al yc) (garcs FF W k) from by obtain ⟨G, hG, hf⟩ := HN.out; exact ⟨G, RowG.held.keep _ _ _ _ _ hG fun b hb => hb7.block b (RowG.held.lt _ _ _ _ hG b hb), hf⟩)
      have hr7 : w.heap.size + 1 < w7.heap.size := by have := hb7.size; omega
      clear hb7 HSf HN HB2
      have r0 := R0.out
      have r1 := R1.out
      have r2 := R2.out
      have t0 := F0.out
      have t1 := F1.out
      have t2 := F2.out
      go_wp2
      have s0 := World.cell?_setCell_same w7 _ (.int .i64 L) R0.out
      have u1 := (World.cell?_setCell_other _ ⟨w.heap.size + 1, 0, none⟩ _ (.int .i64 L) (by simp)).trans R1.out
      have s1 := World.cell?_setCell_same _ _ (.int .i64 (k : Int)) u1
      have u2 := (World.cell?_setCell_other _ ⟨w.heap.size + 1, 1, none⟩ _ (.int .i64 (k : Int)) (by simp)).trans ((World.cell?_setCell_other _ ⟨w.heap.size + 1, 0, none⟩ _ (.int .i64 L) (by simp)).trans R2.out)
      have s2 := World.cell?_setCell_same _ _ (.slice (some ⟨yb, 0, none⟩) al yc) u2
      refine bodyPost_ret (v := .tuple #[.agg #[.int .i64 L, .int .i64 (k : Int), .slice (some ⟨yb, 0, none⟩) al yc], .bool true]) (by simp [results, Try.results29, go_sem, s0, s1, s2]) rfl ?_
      refine ⟨_, rfl, ?_, (((HB7.out.setCell (p := ⟨w.heap.size + 1, 0, none⟩) (by simp) _).setCell (p := ⟨w.heap.size + 1, 1, none⟩) (by simp) _).setCell (p := ⟨w.heap.size + 1, 2, none⟩) (by simp) _)⟩
      have hk2 := New.storeLow RowG.held (New.storeLow RowG.held (New.storeLow RowG.held HN7.out h1w (.int .i64 L) (p := ⟨w.heap.size + 1, 0, none⟩)) h1w (.int .i64 (k : Int)) (p := ⟨w.heap.size + 1, 1, none⟩)) h1w (.slice (some ⟨yb, 0, none⟩) al yc) (p := ⟨w.heap.size + 1, 2, none⟩)
      obtain ⟨F, hF, hFn, hFg⟩ := hk2
      rw [HW.out]
      exact ⟨F, ⟨_, rfl, RowG.arcs hF⟩, hFn, fun b hb => by have := hFg b hb; omega⟩
end Go.Proofs.Ytcilgihmaaobeaa
end

section
/-
  The law on LabelsOf, walked over the contracts of both sides.
-/
namespace Go.Proofs.Ytcilgihmaaobeaa
open Go.RowKit Go.Deep Go.Sd
theorem lofV_bd (z : Sh) : (3 * (lofV z).2.2.length : Int) ≤ 1099511627776 := by
  rw [lofV_eq]
  split
  · have h1 := stW_len z
    have h2 := garcs_le z.2 (stW z) h1 (stW z).length
    simp only
    omega
  · simp
set_option linter.unusedVariables false in
set_option maxHeartbeats 4000000 in
set_option maxRecDepth 100000 in
theorem law_LabelsOf {w : World} {v0 : Value} {a0 : Sh} (t0 : ShR w v0 a0) (b0 : I64 a0.1) (m0 : ∀ x, x ∈ a0.2 → x.size ≤ maxLen) (hM : MaxOk w) :
    Calls Try.prog 4 #[v0] w fun e w' => e = .returned (.bool true) ∧ Below w.heap.size w w' := by
  have qg0 : (3 * ((lofV a0)).2.2.length : Int) ≤ 1099511627776 := lofV_bd a0
  have rg0 : 0 ≤ (3 * ((lofV a0)).2.2.length : Int) := by omega
  obtain ⟨V0, hV0⟩ : ∃ V, V = lofV a0 := ⟨_, rfl⟩
  rw [← hV0] at qg0 rg0
  have HV0 := Lib.hid hV0
  clear hV0
  obtain ⟨VL0, VS0, Vx0⟩ := V0
  simp only at qg0 rg0
  generalize hvl0 : Vx0.length = vl0 at *
  have HVl0 := Lib.hid hvl0
  clear hvl0
  have Qg0 := Lib.hid qg0
  have Rg0 := Lib.hid rg0
  clear qg0 rg0
  have HM := Lib.hid hM
  have HM0 := Lib.hid m0
  clear hM m0
  have T0 := Lib.hid t0
  obtain ⟨L0, xs0⟩ := a0
  obtain ⟨va0, rfl, ht0⟩ := t0
  obtain ⟨aa0, ac0, rfl, -⟩ := ht0.shape
  clear ht0
  simp only at *
  have B0 := Lib.hid b0
  clear b0
  generalize hln0 : xs0.length = ln0 at *
  have HL0 := Lib.hid hln0
  clear hln0
  have A0 : Below w.heap.size w w := Below.refl _ _
  have Z0 := Lib.hid (fun (v : Value) (wz : World) (h : ShR wz v (L0, xs0)) => szShift_c h HM0.out (l := 1048576) (by omega) (by omega))
  simp only at Z0
  rw [HL0.out] at Z0
  go_enter Try.func4, Try.ntmps4
  go_wp2_with fail
  obtain ⟨w1, ex, hb1, ca00, ca01, ma0⟩ := boxA_ex w 41 (.int .i64 L0) (.slice aa0 ln0 ac0)
  change Calls Try.prog _ _ (w.alloc (.cells #[.int .i64 L0, .slice aa0 ln0 ac0] 41)) _
  rw [ex]
  clear ex
  have qa0 := ma0
  replace A0 := A0.trans (hb1.mono A0.size)
  have z1 := hb1.size
  clear hb1
  refine (Z0.out _ _ (ShR.frame _ _ _ _ T0.out A0)).mono ?_
  rintro e w2 ⟨hb2, l0, rfl, hr1, hr2, hr3⟩
  replace A0 := A0.trans (hb2.mono A0.size)
  replace ca00 := (hb2.cell (p := ⟨w.heap.size, 0, none⟩) ma0).trans ca00
  replace ca01 := (hb2.cell (p := ⟨w.heap.size, 1, none⟩) ma0).trans ca01
  replace ma0 := Nat.lt_of_lt_of_le ma0 hb2.size
  have z2 := hb2.size
  clear hb2
  have HR3 := Lib.hid hr3
  clear hr3
  by_cases n0 : l0 < 0
  · go_wp2
    go_ret
    exact ⟨rfl, A0⟩
  have sz0 := Lib.hid (show xs0.length ≤ 1048576 from by rw [HL0.out]; have := (HR3.out (by omega)).1; omega)
  have HF0 := Lib.hid (show ∀ x, x ∈ xs0 → x.size ≤ 1048576 from fun x hx => by have := (HR3.out (by omega)).2 x hx; omega)
  have ln0b : (ln0 : Int) ≤ 1048576 := by have := (HR3.out (by omega)).1; omega
  have l00 : 0 ≤ l0 := by omega
  have l01 : l0 ≤ 1048576 := by omega
  clear n0 Z0 HR3 hr1 hr2
  go_wp2_with fail
  refine (toShift_c (ShR.frame _ _ _ _ T0.out A0) sz0.out).mono ?_
  rintro e w3 ⟨p0, rfl, hp0, hb3⟩
  replace A0 := A0.trans (hb3.mono A0.size)
  replace ca00 := (hb3.cell (p := ⟨w.heap.size, 0, none⟩) ma0).trans ca00
  replace ca01 := (hb3.cell (p := ⟨w.heap.size, 1, none⟩) ma0).trans ca01
  replace ma0 := Nat.lt_of_lt_of_le ma0 hb3.size
  have z3 := hb3.size
  clear hb3
  replace hp0 := hp0.inn OSh.held
  go_wp2_with fail
  refine (spec_LabelsOf_c (New.sh hp0.new) HF0.out).mono ?_
  rintro e w4 ⟨s0, rfl, hs0, hb4⟩
  replace A0 := A0.trans (hb4.mono A0.size)
  replace hp0 := hp0.keep OSh.held hb4 (by omega)
  replace ca00 := (hb4.cell (p := ⟨w.heap.size, 0, none⟩) ma0).trans ca00
  replace ca01 := (hb4.cell (p := ⟨w.heap.size, 1, none⟩) ma0).trans ca01
  replace ma0 := Nat.lt_of_lt_of_le ma0 hb4.size
  have z4 := hb4.size
  clear hb4
  rw [← HV0.out] at hs0
  obtain ⟨vs0, es0, _, yas0, ycs0, hyvs0, _, _, _, _⟩ := New.lab hs0
  subst hyvs0
  subst es0
  simp only at hs0 ⊢
  rw [HVl0.out] at hs0 ⊢
  replace hs0 := hs0.inn OLab.held
  clear hp0
  have R0 := (New.lab hs0.new)
  clear hs0
  have hwA : Below w4.heap.size w4 w4 := Below.refl _ _
  go_wp2_with fail
  obtain ⟨w5, ex, hb5, cs00, cs01, cs02, ms0⟩ := boxA3_ex w4 26 (.int .i64 VL0) (.int .i64 VS0) (.slice yas0 vl0 ycs0)
  change Calls Try.prog _ _ (w4.alloc (.cells #[.int .i64 VL0, .int .i64 VS0, .slice yas0 vl0 ycs0] 26)) _
  rw [ex]
  clear ex
  have qs0 := ms0
  replace A0 := A0.trans (hb5.mono A0.size)
  replace hwA := hwA.trans (hb5.mono hwA.size)
  replace ca00 := (hb5.cell (p := ⟨w.heap.size, 0, none⟩) ma0).trans ca00
  replace ca01 := (hb5.cell (p := ⟨w.heap.size, 1, none⟩) ma0).trans ca01
  replace ma0 := Nat.lt_of_lt_of_le ma0 hb5.size
  have z5 := hb5.size
  clear hb5
  refine (toShift_c (ShR.frame _ _ _ _ T0.out A0) sz0.out).mono ?_
  rintro e w6 ⟨x0, rfl, hx0, hb6⟩
  replace A0 := A0.trans (hb6.mono A0.size)
  replace hwA := hwA.trans (hb6.mono hwA.size)
  replace ca00 := (hb6.cell (p := ⟨w.heap.size, 0, none⟩) ma0).trans ca00
  replace ca01 := (hb6.cell (p := ⟨w.heap.size, 1, none⟩) ma0).trans ca01
  replace ma0 := Nat.lt_of_lt_of_le ma0 hb6.size
  replace cs00 := (hb6.cell (p := ⟨w4.heap.size, 0, none⟩) ms0).trans cs00
  replace cs01 := (hb6.cell (p := ⟨w4.heap.size, 1, none⟩) ms0).trans cs01
  replace cs02 := (hb6.cell (p := ⟨w4.heap.size, 2, none⟩) ms0).trans cs02
  replace ms0 := Nat.lt_of_lt_of_le ms0 hb6.size
  have z6 := hb6.size
  clear hb6
  replace hx0 := hx0.inn OSh.held
  have hrx0 := (New.sh hx0.new)
  obtain ⟨vx0, ex0, hyx0⟩ := hrx0
  simp only at hyx0
  obtain ⟨ya0, yc0, hyv0, -⟩ := hyx0.shape
  subst hyv0
  subst ex0
  clear hyx0
  simp only at hx0 ⊢
  rw [HL0.out] at hx0 ⊢
  go_wp2_with fail
  obtain ⟨w7, ex, hb7, cx00, cx01, mx0⟩ := boxA_ex w6 44 (.int .i64 L0) (.slice ya0 ln0 yc0)
  change Calls Try.prog _ _ (w6.alloc (.cells #[.int .i64 L0, .slice ya0 ln0 yc0] 44)) _
  rw [ex]
  clear ex
  have qx0 := mx0
  replace A0 := A0.trans (hb7.mono A0.size)
  replace hwA := hwA.trans (hb7.mono hwA.size)
  replace hx0 := hx0.keep OSh.held hb7 (by omega)
  replace ca00 := (hb7.cell (p := ⟨w.heap.size, 0, none⟩) ma0).trans ca00
  replace ca01 := (hb7.cell (p := ⟨w.heap.size, 1, none⟩) ma0).trans ca01
  replace ma0 := Nat.lt_of_lt_of_le ma0 hb7.size
  replace cs00 := (hb7.cell (p := ⟨w4.heap.size, 0, none⟩) ms0).trans cs00
  replace cs01 := (hb7.cell (p := ⟨w4.heap.size, 1, none⟩) ms0).trans cs01
  replace cs02 := (hb7.cell (p := ⟨w4.heap.size, 2, none⟩) ms0).trans cs02
  replace ms0 := Nat.lt_of_lt_of_le ms0 hb7.size
  have z7 := hb7.size
  clear hb7
  refine (impl_LabelsOf_c (New.sh hx0.new) HF0.out (HM.out.below A0)).mono ?_
  rintro e w8 ⟨g0, rfl, hg0, hb8⟩
  replace A0 := A0.trans (hb8.mono A0.size)
  replace hwA := hwA.trans (hb8.mono hwA.size)
  replace hx0 := hx0.keep OSh.held hb8 (by omega)
  replace ca00 := (hb8.cell (p := ⟨w.heap.size, 0, none⟩) ma0).trans ca00
  replace ca01 := (hb8.cell (p := ⟨w.heap.size, 1, none⟩) ma0).trans ca01
  replace ma0 := Nat.lt_of_lt_of_le ma0 hb8.size
  replace cs00 := (hb8.cell (p := ⟨w4.heap.size, 0, none⟩) ms0).trans cs00
  replace cs01 := (hb8.cell (p := ⟨w4.heap.size, 1, none⟩) ms0).trans cs01
  replace cs02 := (hb8.cell (p := ⟨w4.heap.size, 2, none⟩) ms0).trans cs02
  replace ms0 := Nat.lt_of_lt_of_le ms0 hb8.size
  replace cx00 := (hb8.cell (p := ⟨w6.heap.size, 0, none⟩) mx0).trans cx00
  replace cx01 := (hb8.cell (p := ⟨w6.heap.size, 1, none⟩) mx0).trans cx01
  replace mx0 := Nat.lt_of_lt_of_le mx0 hb8.size
  have z8 := hb8.size
  clear hb8
  rw [← HV0.out] at hg0
  obtain ⟨vg0, eg0, _, yag0, ycg0, hyvg0, _, _, _, _⟩ := New.lab hg0
  subst hyvg0
  subst eg0
  simp only at hg0 ⊢
  rw [HVl0.out] at hg0 ⊢
  replace hg0 := hg0.inn OLab.held
  go_wp2_with fail
  obtain ⟨w9, ex, hb9, cg00, cg01, cg02, mg0⟩ := boxA3_ex w8 26 (.int .i64 VL0) (.int .i64 VS0) (.slice yag0 vl0 ycg0)
  change Calls Try.prog _ _ (w8.alloc (.cells #[.int .i64 VL0, .int .i64 VS0, .slice yag0 vl0 ycg0] 26)) _
  rw [ex]
  clear ex
  have qg0 := mg0
  replace A0 := A0.trans (hb9.mono A0.size)
  replace hwA := hwA.trans (hb9.mono hwA.size)
  replace hx0 := hx0.keep OSh.held hb9 (by omega)
  replace hg0 := hg0.keep OLab.held hb9 (by omega)
  replace ca00 := (hb9.cell (p := ⟨w.heap.size, 0, none⟩) ma0).trans ca00
  replace ca01 := (hb9.cell (p := ⟨w.heap.size, 1, none⟩) ma0).trans ca01
  replace ma0 := Nat.lt_of_lt_of_le ma0 hb9.size
  replace cs00 := (hb9.cell (p := ⟨w4.heap.size, 0, none⟩) ms0).trans cs00
  replace cs01 := (hb9.cell (p := ⟨w4.heap.size, 1, none⟩) ms0).trans cs01
  replace cs02 := (hb9.cell (p := ⟨w4.heap.size, 2, none⟩) ms0).trans cs02
  replace ms0 := Nat.lt_of_lt_of_le ms0 hb9.size
  replace cx00 := (hb9.cell (p := ⟨w6.heap.size, 0, none⟩) mx0).trans cx00
  replace cx01 := (hb9.cell (p := ⟨w6.heap.size, 1, none⟩) mx0).trans cx01
  replace mx0 := Nat.lt_of_lt_of_le mx0 hb9.size
  have z9 := hb9.size
  clear hb9
  refine (eqLabels_same (New.lab hg0.new) (LabR.frame _ _ _ _ R0 hwA)).mono ?_
  rintro e w10 ⟨rfl, hb10⟩
  replace A0 := A0.trans (hb10.mono A0.size)
  replace hwA := hwA.trans (hb10.mono hwA.size)
  replace hx0 := hx0.keep OSh.held hb10 (by omega)
  replace hg0 := hg0.keep OLab.held hb10 (by omega)
  replace ca00 := (hb10.cell (p := ⟨w.heap.size, 0, none⟩) ma0).trans ca00
  replace ca01 := (hb10.cell (p := ⟨w.heap.size, 1, none⟩) ma0).trans ca01
  replace ma0 := Nat.lt_of_lt_of_le ma0 hb10.size
  replace cs00 := (hb10.cell (p := ⟨w4.heap.size, 0, none⟩) ms0).trans cs00
  replace cs01 := (hb10.cell (p := ⟨w4.heap.size, 1, none⟩) ms0).trans cs01
  replace cs02 := (hb10.cell (p := ⟨w4.heap.size, 2, none⟩) ms0).trans cs02
  replace ms0 := Nat.lt_of_lt_of_le ms0 hb10.size
  replace cx00 := (hb10.cell (p := ⟨w6.heap.size, 0, none⟩) mx0).trans cx00
  replace cx01 := (hb10.cell (p := ⟨w6.heap.size, 1, none⟩) mx0).trans cx01
  replace mx0 := Nat.lt_of_lt_of_le mx0 hb10.size
  replace cg00 := (hb10.cell (p := ⟨w8.heap.size, 0, none⟩) mg0).trans cg00
  replace cg01 := (hb10.cell (p := ⟨w8.heap.size, 1, none⟩) mg0).trans cg01
  replace cg02 := (hb10.cell (p := ⟨w8.heap.size, 2, none⟩) mg0).trans cg02
  replace mg0 := Nat.lt_of_lt_of_le mg0 hb10.size
  have z10 := hb10.size
  clear hb10
  go_wp2
  have hrx := New.sh hx0.new
  have hS0 : w10.cell? ⟨w6.heap.size, 0, none⟩ = some (.int .i64 L0) ∧ w10.cell? ⟨w6.heap.size, 1, none⟩ = some (.slice ya0 ln0 yc0) ∧ w10.cell? ⟨w.heap.size, 0, none⟩ = some (.int .i64 L0) ∧ w10.cell? ⟨w.heap.size, 1, none⟩ = some (.slice aa0 ln0 ac0) := ⟨cx00, cx01, ca00, ca01⟩
  have hSd : w10.drew.cell? ⟨w6.heap.size, 0, none⟩ = some (.int .i64 L0) ∧ w10.drew.cell? ⟨w6.heap.size, 1, none⟩ = some (.slice ya0 ln0 yc0) ∧ w10.drew.cell? ⟨w.heap.size, 0, none⟩ = some (.int .i64 L0) ∧ w10.drew.cell? ⟨w.heap.size, 1, none⟩ = some (.slice aa0 ln0 ac0) := hS0
  have HS := Lib.hid (fun (w2 : World) (hb3 : Below w10.heap.size w10 w2) => (show w2.cell? ⟨w6.heap.size, 0, none⟩ = some (.int .i64 L0) ∧ w2.cell? ⟨w6.heap.size, 1, none⟩ = some (.slice ya0 ln0 yc0) ∧ w2.cell? ⟨w.heap.size, 0, none⟩ = some (.int .i64 L0) ∧ w2.cell? ⟨w.heap.size, 1, none⟩ = some (.slice aa0 ln0 ac0) from ⟨(hb3.cell (p := ⟨w6.heap.size, 0, none⟩) mx0).trans cx00, (hb3.cell (p := ⟨w6.heap.size, 1, none⟩) mx0).trans cx01, (hb3.cell (p := ⟨w.heap.size, 0, none⟩) ma0).trans ca00, (hb3.cell (p := ⟨w.heap.size, 1, none⟩) ma0).trans ca01⟩))
  have C1 := Lib.hid (fun w2 (hb3 : Below w10.heap.size w10 w2) => toShift_c (ShR.frame _ _ _ _ T0.out (A0.trans (hb3.mono A0.size))) sz0.out)
  have C2 := Lib.hid (fun w2 (hb3 : Below w10.heap.size w10 w2) => fun v (hy : ShR w2 v _) => eqShift_same (ShR.frame _ _ _ _ hrx hb3) hy)
  have B1 := (Below.refl w10.heap.size w10).drew
  go_region_held3 (fun w' => w'.cell? ⟨w6.heap.size, 0, none⟩ = some (.int .i64 L0) ∧ w'.cell? ⟨w6.heap.size, 1, none⟩ = some (.slice ya0 ln0 yc0) ∧ w'.cell? ⟨w.heap.size, 0, none⟩ = some (.int .i64 L0) ∧ w'.cell? ⟨w.heap.size, 1, none⟩ = some (.slice aa0 ln0 ac0))
    (first | with_reducible exact hS2 | with_reducible exact hS1 | with_reducible exact hSd | with_reducible exact hS0 | go_keep)
    ((first
      | (go_at_call 31; (with_reducible refine (C2.out _ B2 _ hy0).mono ?_); rintro e w_3 ⟨rfl, hb⟩; have B3 := B2.trans (hb.mono B2.size); have hS2 := HS.out _ B3; clear hb)
      | (go_at_call 28; (with_reducible refine (C1.out _ B1).mono ?_); rintro e w_2 ⟨y0, rfl, hny0, hb⟩; have B2 := B1.trans (hb.mono B1.size); have hy0 := New.sh hny0; have hS1 := HS.out _ B2; clear hb hny0)
      | fail))
  have hbz := B3
  clear hS0 hSd HS C1 C2 B1 B2 B3 hy0 hS1 hrx
  replace A0 := A0.trans (hbz.mono A0.size)
  replace hwA := hwA.trans (hbz.mono hwA.size)
  replace hx0 := hx0.keep OSh.held hbz (by omega)
  replace hg0 := hg0.keep OLab.held hbz (by omega)
  replace ca00 := (hbz.cell (p := ⟨w.heap.size, 0, none⟩) ma0).trans ca00
  replace ca01 := (hbz.cell (p := ⟨w.heap.size, 1, none⟩) ma0).trans ca01
  replace ma0 := Nat.lt_of_lt_of_le ma0 hbz.size
  replace cs00 := (hbz.cell (p := ⟨w4.heap.size, 0, none⟩) ms0).trans cs00
  replace cs01 := (hbz.cell (p := ⟨w4.heap.size, 1, none⟩) ms0).trans cs01
  replace cs02 := (hbz.cell (p := ⟨w4.heap.size, 2, none⟩) ms0).trans cs02
  replace ms0 := Nat.lt_of_lt_of_le ms0 hbz.size
  replace cx00 := (hbz.cell (p := ⟨w6.heap.size, 0, none⟩) mx0).trans cx00
  replace cx01 := (hbz.cell (p := ⟨w6.heap.size, 1, none⟩) mx0).trans cx01
  replace mx0 := Nat.lt_of_lt_of_le mx0 hbz.size
  replace cg00 := (hbz.cell (p := ⟨w8.heap.size, 0, none⟩) mg0).trans cg00
  replace cg01 := (hbz.cell (p := ⟨w8.heap.size, 1, none⟩) mg0).trans cg01
  replace cg02 := (hbz.cell (p := ⟨w8.heap.size, 2, none⟩) mg0).trans cg02
  replace mg0 := Nat.lt_of_lt_of_le mg0 hbz.size
  have z11 := hbz.size
  clear hbz
  have M := Lib.hid (markShift_in (k0 := 1) hx0 (by omega) (by simp only; rw [HL0.out]; omega) (by omega))
  simp only at M
  rw [HL0.out] at M
  go_wp2_with fail
  refine M.out.mono ?_
  rintro e w12 ⟨rfl, hm12, ho12⟩
  clear M
  replace A0 := A0.trans (ho12.below (by omega) A0.size)
  replace hwA := hwA.trans (ho12.below (by omega) hwA.size)
  replace hg0 := hg0.off OLab.held ho12 (by omega)
  replace ca00 := (ho12.cell3 (p := ⟨w.heap.size, 0, none⟩) ma0 (by simp <;> omega)).trans ca00
  replace ca01 := (ho12.cell3 (p := ⟨w.heap.size, 1, none⟩) ma0 (by simp <;> omega)).trans ca01
  replace ma0 := Nat.lt_of_lt_of_le ma0 ho12.size
  replace cs00 := (ho12.cell3 (p := ⟨w4.heap.size, 0, none⟩) ms0 (by simp <;> omega)).trans cs00
  replace cs01 := (ho12.cell3 (p := ⟨w4.heap.size, 1, none⟩) ms0 (by simp <;> omega)).trans cs01
  replace cs02 := (ho12.cell3 (p := ⟨w4.heap.size, 2, none⟩) ms0 (by simp <;> omega)).trans cs02
  replace ms0 := Nat.lt_of_lt_of_le ms0 ho12.size
  replace cx00 := (ho12.cell3 (p := ⟨w6.heap.size, 0, none⟩) mx0 (by simp <;> omega)).trans cx00
  replace cx01 := (ho12.cell3 (p := ⟨w6.heap.size, 1, none⟩) mx0 (by simp <;> omega)).trans cx01
  replace mx0 := Nat.lt_of_lt_of_le mx0 ho12.size
  replace cg00 := (ho12.cell3 (p := ⟨w8.heap.size, 0, none⟩) mg0 (by simp <;> omega)).trans cg00
  replace cg01 := (ho12.cell3 (p := ⟨w8.heap.size, 1, none⟩) mg0 (by simp <;> omega)).trans cg01
  replace cg02 := (ho12.cell3 (p := ⟨w8.heap.size, 2, none⟩) mg0 (by simp <;> omega)).trans cg02
  replace mg0 := Nat.lt_of_lt_of_le mg0 ho12.size
  have z12 := ho12.size
  clear ho12
  clear hx0 hm12
  go_wp2_with fail
  refine (eqLabels_same (New.lab hg0.new) (LabR.frame _ _ _ _ R0 hwA)).mono ?_
  rintro e w13 ⟨rfl, hb13⟩
  replace A0 := A0.trans (hb13.mono A0.size)
  replace hwA := hwA.trans (hb13.mono hwA.size)
  replace hg0 := hg0.keep OLab.held hb13 (by omega)
  replace ca00 := (hb13.cell (p := ⟨w.heap.size, 0, none⟩) ma0).trans ca00
  replace ca01 := (hb13.cell (p := ⟨w.heap.size, 1, none⟩) ma0).trans ca01
  replace ma0 := Nat.lt_of_lt_of_le ma0 hb13.size
  replace cs00 := (hb13.cell (p := ⟨w4.heap.size, 0, none⟩) ms0).trans cs00
  replace cs01 := (hb13.cell (p := ⟨w4.heap.size, 1, none⟩) ms0).trans cs01
  replace cs02 := (hb13.cell (p := ⟨w4.heap.size, 2, none⟩) ms0).trans cs02
  replace ms0 := Nat.lt_of_lt_of_le ms0 hb13.size
  replace cx00 := (hb13.cell (p := ⟨w6.heap.size, 0, none⟩) mx0).trans cx00
  replace cx01 := (hb13.cell (p := ⟨w6.heap.size, 1, none⟩) mx0).trans cx01
  replace mx0 := Nat.lt_of_lt_of_le mx0 hb13.size
  replace cg00 := (hb13.cell (p := ⟨w8.heap.size, 0, none⟩) mg0).trans cg00
  replace cg01 := (hb13.cell (p := ⟨w8.heap.size, 1, none⟩) mg0).trans cg01
  replace cg02 := (hb13.cell (p := ⟨w8.heap.size, 2, none⟩) mg0).trans cg02
  replace mg0 := Nat.lt_of_lt_of_le mg0 hb13.size
  have z13 := hb13.size
  clear hb13
  have qg0 := Qg0.out
  have rg0 := Rg0.out
  have M := Lib.hid (markLabels_in (k0 := 1) hg0 (by omega) (by simp only; rw [HVl0.out]; omega) (by omega))
  simp only at M
  rw [HVl0.out] at M
  go_wp2_with fail
  refine M.out.mono ?_
  rintro e w14 ⟨rfl, hm14, ho14⟩
  clear M
  replace A0 := A0.trans (ho14.below (by omega) A0.size)
  replace hwA := hwA.trans (ho14.below (by omega) hwA.size)
  replace ca00 := (ho14.cell3 (p := ⟨w.heap.size, 0, none⟩) ma0 (by simp <;> omega)).trans ca00
  replace ca01 := (ho14.cell3 (p := ⟨w.heap.size, 1, none⟩) ma0 (by simp <;> omega)).trans ca01
  replace ma0 := Nat.lt_of_lt_of_le ma0 ho14.size
  replace cs00 := (ho14.cell3 (p := ⟨w4.heap.size, 0, none⟩) ms0 (by simp <;> omega)).trans cs00
  replace cs01 := (ho14.cell3 (p := ⟨w4.heap.size, 1, none⟩) ms0 (by simp <;> omega)).trans cs01
  replace cs02 := (ho14.cell3 (p := ⟨w4.heap.size, 2, none⟩) ms0 (by simp <;> omega)).trans cs02
  replace ms0 := Nat.lt_of_lt_of_le ms0 ho14.size
  replace cx00 := (ho14.cell3 (p := ⟨w6.heap.size, 0, none⟩) mx0 (by simp <;> omega)).trans cx00
  replace cx01 := (ho14.cell3 (p := ⟨w6.heap.size, 1, none⟩) mx0 (by simp <;> omega)).trans cx01
  replace mx0 := Nat.lt_of_lt_of_le mx0 ho14.size
  replace cg00 := (ho14.cell3 (p := ⟨w8.heap.size, 0, none⟩) mg0 (by simp <;> omega)).trans cg00
  replace cg01 := (ho14.cell3 (p := ⟨w8.heap.size, 1, none⟩) mg0 (by simp <;> omega)).trans cg01
  replace cg02 := (ho14.cell3 (p := ⟨w8.heap.size, 2, none⟩) mg0 (by simp <;> omega)).trans cg02
  replace mg0 := Nat.lt_of_lt_of_le mg0 ho14.size
  have z14 := ho14.size
  clear ho14
  clear hg0
  have hg0 := hm14
  clear hm14
  have M := Lib.hid (heldLabels_same (x := (VL0, VS0, Vx0)) (k0 := 1) (New.lab hg0.new) (by omega) (by simp only; rw [HVl0.out]; omega))
  simp only at M
  rw [HVl0.out] at M
  go_wp2_with fail
  refine (M.out).mono ?_
  rintro e w15 ⟨rfl, hb15⟩
  replace A0 := A0.trans (hb15.mono A0.size)
  replace hwA := hwA.trans (hb15.mono hwA.size)
  replace hg0 := hg0.keep OLab.held hb15 (by omega)
  replace ca00 := (hb15.cell (p := ⟨w.heap.size, 0, none⟩) ma0).trans ca00
  replace ca01 := (hb15.cell (p := ⟨w.heap.size, 1, none⟩) ma0).trans ca01
  replace ma0 := Nat.lt_of_lt_of_le ma0 hb15.size
  replace cs00 := (hb15.cell (p := ⟨w4.heap.size, 0, none⟩) ms0).trans cs00
  replace cs01 := (hb15.cell (p := ⟨w4.heap.size, 1, none⟩) ms0).trans cs01
  replace cs02 := (hb15.cell (p := ⟨w4.heap.size, 2, none⟩) ms0).trans cs02
  replace ms0 := Nat.lt_of_lt_of_le ms0 hb15.size
  replace cx00 := (hb15.cell (p := ⟨w6.heap.size, 0, none⟩) mx0).trans cx00
  replace cx01 := (hb15.cell (p := ⟨w6.heap.size, 1, none⟩) mx0).trans cx01
  replace mx0 := Nat.lt_of_lt_of_le mx0 hb15.size
  replace cg00 := (hb15.cell (p := ⟨w8.heap.size, 0, none⟩) mg0).trans cg00
  replace cg01 := (hb15.cell (p := ⟨w8.heap.size, 1, none⟩) mg0).trans cg01
  replace cg02 := (hb15.cell (p := ⟨w8.heap.size, 2, none⟩) mg0).trans cg02
  replace mg0 := Nat.lt_of_lt_of_le mg0 hb15.size
  have z15 := hb15.size
  clear hb15
  clear M
  go_wp2_with fail
  refine (toShift_c (ShR.frame _ _ _ _ T0.out A0) sz0.out).mono ?_
  rintro e w16 ⟨u0, rfl, hu0, hb16⟩
  replace A0 := A0.trans (hb16.mono A0.size)
  replace hwA := hwA.trans (hb16.mono hwA.size)
  replace hg0 := hg0.keep OLab.held hb16 (by omega)
  replace ca00 := (hb16.cell (p := ⟨w.heap.size, 0, none⟩) ma0).trans ca00
  replace ca01 := (hb16.cell (p := ⟨w.heap.size, 1, none⟩) ma0).trans ca01
  replace ma0 := Nat.lt_of_lt_of_le ma0 hb16.size
  replace cs00 := (hb16.cell (p := ⟨w4.heap.size, 0, none⟩) ms0).trans cs00
  replace cs01 := (hb16.cell (p := ⟨w4.heap.size, 1, none⟩) ms0).trans cs01
  replace cs02 := (hb16.cell (p := ⟨w4.heap.size, 2, none⟩) ms0).trans cs02
  replace ms0 := Nat.lt_of_lt_of_le ms0 hb16.size
  replace cx00 := (hb16.cell (p := ⟨w6.heap.size, 0, none⟩) mx0).trans cx00
  replace cx01 := (hb16.cell (p := ⟨w6.heap.size, 1, none⟩) mx0).trans cx01
  replace mx0 := Nat.lt_of_lt_of_le mx0 hb16.size
  replace cg00 := (hb16.cell (p := ⟨w8.heap.size, 0, none⟩) mg0).trans cg00
  replace cg01 := (hb16.cell (p := ⟨w8.heap.size, 1, none⟩) mg0).trans cg01
  replace cg02 := (hb16.cell (p := ⟨w8.heap.size, 2, none⟩) mg0).trans cg02
  replace mg0 := Nat.lt_of_lt_of_le mg0 hb16.size
  have z16 := hb16.size
  clear hb16
  replace hu0 := hu0.inn OSh.held
  go_wp2_with fail
  refine (impl_LabelsOf_c (New.sh hu0.new) HF0.out (HM.out.below A0)).mono ?_
  rintro e w17 ⟨f0, rfl, hf0, hb17⟩
  replace A0 := A0.trans (hb17.mono A0.size)
  replace hwA := hwA.trans (hb17.mono hwA.size)
  replace hg0 := hg0.keep OLab.held hb17 (by omega)
  replace hu0 := hu0.keep OSh.held hb17 (by omega)
  replace ca00 := (hb17.cell (p := ⟨w.heap.size, 0, none⟩) ma0).trans ca00
  replace ca01 := (hb17.cell (p := ⟨w.heap.size, 1, none⟩) ma0).trans ca01
  replace ma0 := Nat.lt_of_lt_of_le ma0 hb17.size
  replace cs00 := (hb17.cell (p := ⟨w4.heap.size, 0, none⟩) ms0).trans cs00
  replace cs01 := (hb17.cell (p := ⟨w4.heap.size, 1, none⟩) ms0).trans cs01
  replace cs02 := (hb17.cell (p := ⟨w4.heap.size, 2, none⟩) ms0).trans cs02
  replace ms0 := Nat.lt_of_lt_of_le ms0 hb17.size
  replace cx00 := (hb17.cell (p := ⟨w6.heap.size, 0, none⟩) mx0).trans cx00
  replace cx01 := (hb17.cell (p := ⟨w6.heap.size, 1, none⟩) mx0).trans cx01
  replace mx0 := Nat.lt_of_lt_of_le mx0 hb17.size
  replace cg00 := (hb17.cell (p := ⟨w8.heap.size, 0, none⟩) mg0).trans cg00
  replace cg01 := (hb17.cell (p := ⟨w8.heap.size, 1, none⟩) mg0).trans cg01
  replace cg02 := (hb17.cell (p := ⟨w8.heap.size, 2, none⟩) mg0).trans cg02
  replace mg0 := Nat.lt_of_lt_of_le mg0 hb17.size
  have z17 := hb17.size
  clear hb17
  rw [← HV0.out] at hf0
  obtain ⟨vf0, ef0, _, yaf0, ycf0, hyvf0, _, _, _, _⟩ := New.lab hf0
  subst hyvf0
  subst ef0
  simp only at hf0 ⊢
  rw [HVl0.out] at hf0 ⊢
  replace hf0 := hf0.inn OLab.held
  clear hu0
  go_wp2_with fail
  obtain ⟨w18, ex, hb18, cf00, cf01, cf02, mf0⟩ := boxA3_ex w17 26 (.int .i64 VL0) (.int .i64 VS0) (.slice yaf0 vl0 ycf0)
  change Calls Try.prog _ _ (w17.alloc (.cells #[.int .i64 VL0, .int .i64 VS0, .slice yaf0 vl0 ycf0] 26)) _
  rw [ex]
  clear ex
  have qf0 := mf0
  replace A0 := A0.trans (hb18.mono A0.size)
  replace hwA := hwA.trans (hb18.mono hwA.size)
  replace hg0 := hg0.keep OLab.held hb18 (by omega)
  replace hf0 := hf0.keep OLab.held hb18 (by omega)
  replace ca00 := (hb18.cell (p := ⟨w.heap.size, 0, none⟩) ma0).trans ca00
  replace ca01 := (hb18.cell (p := ⟨w.heap.size, 1, none⟩) ma0).trans ca01
  replace ma0 := Nat.lt_of_lt_of_le ma0 hb18.size
  replace cs00 := (hb18.cell (p := ⟨w4.heap.size, 0, none⟩) ms0).trans cs00
  replace cs01 := (hb18.cell (p := ⟨w4.heap.size, 1, none⟩) ms0).trans cs01
  replace cs02 := (hb18.cell (p := ⟨w4.heap.size, 2, none⟩) ms0).trans cs02
  replace ms0 := Nat.lt_of_lt_of_le ms0 hb18.size
  replace cx00 := (hb18.cell (p := ⟨w6.heap.size, 0, none⟩) mx0).trans cx00
  replace cx01 := (hb18.cell (p := ⟨w6.heap.size, 1, none⟩) mx0).trans cx01
  replace mx0 := Nat.lt_of_lt_of_le mx0 hb18.size
  replace cg00 := (hb18.cell (p := ⟨w8.heap.size, 0, none⟩) mg0).trans cg00
  replace cg01 := (hb18.cell (p := ⟨w8.heap.size, 1, none⟩) mg0).trans cg01
  replace cg02 := (hb18.cell (p := ⟨w8.heap.size, 2, none⟩) mg0).trans cg02
  replace mg0 := Nat.lt_of_lt_of_le mg0 hb18.size
  have z18 := hb18.size
  clear hb18
  refine (eqLabels_same (New.lab hf0.new) (LabR.frame _ _ _ _ R0 hwA)).mono ?_
  rintro e w19 ⟨rfl, hb19⟩
  replace A0 := A0.trans (hb19.mono A0.size)
  replace hwA := hwA.trans (hb19.mono hwA.size)
  replace hg0 := hg0.keep OLab.held hb19 (by omega)
  replace hf0 := hf0.keep OLab.held hb19 (by omega)
  replace ca00 := (hb19.cell (p := ⟨w.heap.size, 0, none⟩) ma0).trans ca00
  replace ca01 := (hb19.cell (p := ⟨w.heap.size, 1, none⟩) ma0).trans ca01
  replace ma0 := Nat.lt_of_lt_of_le ma0 hb19.size
  replace cs00 := (hb19.cell (p := ⟨w4.heap.size, 0, none⟩) ms0).trans cs00
  replace cs01 := (hb19.cell (p := ⟨w4.heap.size, 1, none⟩) ms0).trans cs01
  replace cs02 := (hb19.cell (p := ⟨w4.heap.size, 2, none⟩) ms0).trans cs02
  replace ms0 := Nat.lt_of_lt_of_le ms0 hb19.size
  replace cx00 := (hb19.cell (p := ⟨w6.heap.size, 0, none⟩) mx0).trans cx00
  replace cx01 := (hb19.cell (p := ⟨w6.heap.size, 1, none⟩) mx0).trans cx01
  replace mx0 := Nat.lt_of_lt_of_le mx0 hb19.size
  replace cg00 := (hb19.cell (p := ⟨w8.heap.size, 0, none⟩) mg0).trans cg00
  replace cg01 := (hb19.cell (p := ⟨w8.heap.size, 1, none⟩) mg0).trans cg01
  replace cg02 := (hb19.cell (p := ⟨w8.heap.size, 2, none⟩) mg0).trans cg02
  replace mg0 := Nat.lt_of_lt_of_le mg0 hb19.size
  replace cf00 := (hb19.cell (p := ⟨w17.heap.size, 0, none⟩) mf0).trans cf00
  replace cf01 := (hb19.cell (p := ⟨w17.heap.size, 1, none⟩) mf0).trans cf01
  replace cf02 := (hb19.cell (p := ⟨w17.heap.size, 2, none⟩) mf0).trans cf02
  replace mf0 := Nat.lt_of_lt_of_le mf0 hb19.size
  have z19 := hb19.size
  clear hb19
  have M := Lib.hid (heldLabels_same (x := (VL0, VS0, Vx0)) (k0 := 1) (New.lab hg0.new) (by omega) (by simp only; rw [HVl0.out]; omega))
  simp only at M
  rw [HVl0.out] at M
  go_wp2_with fail
  refine (M.out).mono ?_
  rintro e w20 ⟨rfl, hb20⟩
  replace A0 := A0.trans (hb20.mono A0.size)
  replace hwA := hwA.trans (hb20.mono hwA.size)
  replace hg0 := hg0.keep OLab.held hb20 (by omega)
  replace hf0 := hf0.keep OLab.held hb20 (by omega)
  replace ca00 := (hb20.cell (p := ⟨w.heap.size, 0, none⟩) ma0).trans ca00
  replace ca01 := (hb20.cell (p := ⟨w.heap.size, 1, none⟩) ma0).trans ca01
  replace ma0 := Nat.lt_of_lt_of_le ma0 hb20.size
  replace cs00 := (hb20.cell (p := ⟨w4.heap.size, 0, none⟩) ms0).trans cs00
  replace cs01 := (hb20.cell (p := ⟨w4.heap.size, 1, none⟩) ms0).trans cs01
  replace cs02 := (hb20.cell (p := ⟨w4.heap.size, 2, none⟩) ms0).trans cs02
  replace ms0 := Nat.lt_of_lt_of_le ms0 hb20.size
  replace cx00 := (hb20.cell (p := ⟨w6.heap.size, 0, none⟩) mx0).trans cx00
  replace cx01 := (hb20.cell (p := ⟨w6.heap.size, 1, none⟩) mx0).trans cx01
  replace mx0 := Nat.lt_of_lt_of_le mx0 hb20.size
  replace cg00 := (hb20.cell (p := ⟨w8.heap.size, 0, none⟩) mg0).trans cg00
  replace cg01 := (hb20.cell (p := ⟨w8.heap.size, 1, none⟩) mg0).trans cg01
  replace cg02 := (hb20.cell (p := ⟨w8.heap.size, 2, none⟩) mg0).trans cg02
  replace mg0 := Nat.lt_of_lt_of_le mg0 hb20.size
  replace cf00 := (hb20.cell (p := ⟨w17.heap.size, 0, none⟩) mf0).trans cf00
  replace cf01 := (hb20.cell (p := ⟨w17.heap.size, 1, none⟩) mf0).trans cf01
  replace cf02 := (hb20.cell (p := ⟨w17.heap.size, 2, none⟩) mf0).trans cf02
  replace mf0 := Nat.lt_of_lt_of_le mf0 hb20.size
  have z20 := hb20.size
  clear hb20
  clear M
  go_wp2
  go_ret
  exact ⟨rfl, A0⟩
end Go.Proofs.Ytcilgihmaaobeaa
end
