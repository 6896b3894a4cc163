/-
  TurnStep, both sides.
-/
import Derived.Test.YtiecliglmfampaaRows
import Derived.Test.YtiecliglmfampaaBase
import Derived.Test.YtiecliglmfampaaHarn
import Derived.Test.YtiecliglmfampaaLawKit
import Derived.Test.YtiecliglmfampaaZero
import Derived.Test.YtiecliglmfampaaStepH
import Derived.Deep.RegionLaw
import Derived.WalkSpells
namespace Go.Proofs.Ytiecliglmfampaa
open Go.RowKit Go.Deep Go.Sd
theorem cntStp_turn (a : Tb × Tb) : cntStp (a.2, a.1) = cntStp a := Int.add_comm _ _
set_option maxHeartbeats 1000000 in
theorem impl_TurnStep_c {w : World} {v : Value} {x : Tb × Tb} (h : StepR w v x) (hs : StpSz x) :
    Calls Try.prog 38 #[v] w (Makes (OStep 3 23) w (x.2, x.1)) := by
  obtain ⟨v1, v2, rfl, t1, t2⟩ := h
  have Hc := Lib.hid (fun w1 (hb : Below w.heap.size w w1) => copied_c (Tab.frame _ _ _ _ t1 hb) hs.1.1 hs.1.2)
  have Hd := Lib.hid (fun w1 (hb : Below w.heap.size w w1) => copied_c (Tab.frame _ _ _ _ t2 hb) hs.2.1 hs.2.2)
  clear t1 t2 hs
  obtain ⟨x1, x2⟩ := x
  go_enter Try.func38, Try.ntmps38
  go_wp2
  have Hb0 := Lib.hid ((((Below.refl w.heap.size w).alloc (Nat.le_refl _) (.cells #[v1, v2] 41)).alloc (by simp <;> omega) (.cells #[.slice none 0 0, .slice none 0 0] 41)).drew)
  go_region_law (first
    | (go_simp; go_at_call 62; have Hbg := Hb1; go_must (refine (Hc.out _ Hb1.out).mono ?_; rintro e w2 ⟨u2, rfl, hn2, hb2⟩; obtain ⟨va, vn, vc, rfl⟩ := hn2.slice; have cB2 : w2.cell? ⟨w.heap.size + 1, 0, none⟩ = some (.slice none 0 0) := (hb2.cell (p := ⟨w.heap.size + 1, 0, none⟩) (by simp <;> omega)).trans cB; have cC2 : w2.cell? ⟨w.heap.size + 1, 1, none⟩ = some (.slice none 0 0) := (hb2.cell (p := ⟨w.heap.size + 1, 1, none⟩) (by simp <;> omega)).trans cC; have fB2 : w2.frozen? ⟨w.heap.size + 1, 0, none⟩ = false := (hb2.frozen (p := ⟨w.heap.size + 1, 0, none⟩) (by simp <;> omega)).trans fB; have fC2 : w2.frozen? ⟨w.heap.size + 1, 1, none⟩ = false := (hb2.frozen (p := ⟨w.heap.size + 1, 1, none⟩) (by simp <;> omega)).trans fC; have Hn := Lib.hid (New.pair (lo := w.heap.size + 1 + 1) (Hn1.out.mono (by first | omega | (simp <;> omega))) hn2 hb2 (by omega)); have Hb := Lib.hid (Hb1.out.trans (hb2.mono (by omega))); clear hn2 hb2 cA cB cC fB fC Hbg))
    | (go_simp; go_at_call 62; refine (Hd.out _ Hb0.out).mono ?_; rintro e w1 ⟨u1, rfl, hn1, hb1⟩; obtain ⟨ua, un, uc, rfl⟩ := hn1.slice; have cA : w1.cell? ⟨w.heap.size, 0, none⟩ = some v1 := (hb1.cell (p := ⟨w.heap.size, 0, none⟩) (by simp <;> omega)).trans (by simp [go_sem]); have cB : w1.cell? ⟨w.heap.size + 1, 0, none⟩ = some (.slice none 0 0) := (hb1.cell (p := ⟨w.heap.size + 1, 0, none⟩) (by simp <;> omega)).trans (by simp [go_sem]); have cC : w1.cell? ⟨w.heap.size + 1, 1, none⟩ = some (.slice none 0 0) := (hb1.cell (p := ⟨w.heap.size + 1, 1, none⟩) (by simp <;> omega)).trans (by simp [go_sem]); have fB : w1.frozen? ⟨w.heap.size + 1, 0, none⟩ = false := (hb1.frozen (p := ⟨w.heap.size + 1, 0, none⟩) (by simp <;> omega)).trans (by simp [go_sem]); have fC : w1.frozen? ⟨w.heap.size + 1, 1, none⟩ = false := (hb1.frozen (p := ⟨w.heap.size + 1, 1, none⟩) (by simp <;> omega)).trans (by simp [go_sem]); have hz1 : w.heap.size + 2 ≤ w1.heap.size := (by have := hb1.size; simp at this; omega); have Hn1 := Lib.hid hn1; have Hb1 := Lib.hid (Hb0.out.trans (hb1.mono Hb0.out.size)); clear hn1 hb1)
    | fail)
  all_goals (
    have r0 := World.cell?_setCell_same _ _ (.slice ua un uc) cB2
    have s1 : ((w2.setCell ⟨w.heap.size + 1, 0, none⟩ (.slice ua un uc)).cell? ⟨w.heap.size + 1, 1, none⟩) = some (.slice none 0 0) := (World.cell?_setCell_other _ _ _ _ (by simp)).trans cC2
    have r1 := World.cell?_setCell_same _ _ (.slice va vn vc) s1
    try go_wp2
    refine bodyPost_ret (v := .agg #[.slice ua un uc, .slice va vn vc]) (by simp [results, Try.results38, go_sem, r0, r1]) rfl ?_
    exact ⟨_, rfl, (New.setCell_low OStep.held (New.setCell_low OStep.held Hn.out (by simp) _) (by simp <;> omega) _).mono (by omega), (Hb.out.setCell (by simp <;> omega) _).setCell (by simp <;> omega) _⟩)
set_option maxHeartbeats 1000000 in
theorem spec_TurnStep_c {w : World} {v : Value} {x : Tb × Tb} (h : StepR w v x) (hs : StpSz x) :
    Calls Try.prog 36 #[v] w (Makes (OStep 3 23) w (x.2, x.1)) := by
  obtain ⟨v1, v2, rfl, t1, t2⟩ := h
  have Hc := Lib.hid (fun w1 (hb : Below w.heap.size w w1) => l4Copy_c (Tab.frame _ _ _ _ t1 hb) hs.1.1 hs.1.2)
  have Hd := Lib.hid (fun w1 (hb : Below w.heap.size w w1) => l4Copy_c (Tab.frame _ _ _ _ t2 hb) hs.2.1 hs.2.2)
  clear t1 t2 hs
  obtain ⟨x1, x2⟩ := x
  go_enter Try.func36, Try.ntmps36
  go_wp2
  have Hb0 := Lib.hid ((((Below.refl w.heap.size w).alloc (Nat.le_refl _) (.cells #[v1, v2] 41)).alloc (by simp <;> omega) (.cells #[.slice none 0 0, .slice none 0 0] 41)).drew)
  go_region_law (first
    | (go_simp; go_at_call 56; have Hbg := Hb1; go_must (refine (Hc.out _ Hb1.out).mono ?_; rintro e w2 ⟨u2, rfl, hn2, hb2⟩; obtain ⟨va, vn, vc, rfl⟩ := hn2.slice; have cB2 : w2.cell? ⟨w.heap.size + 1, 0, none⟩ = some (.slice none 0 0) := (hb2.cell (p := ⟨w.heap.size + 1, 0, none⟩) (by simp <;> omega)).trans cB; have cC2 : w2.cell? ⟨w.heap.size + 1, 1, none⟩ = some (.slice none 0 0) := (hb2.cell (p := ⟨w.heap.size + 1, 1, none⟩) (by simp <;> omega)).trans cC; have fB2 : w2.frozen? ⟨w.heap.size + 1, 0, none⟩ = false := (hb2.frozen (p := ⟨w.heap.size + 1, 0, none⟩) (by simp <;> omega)).trans fB; have fC2 : w2.frozen? ⟨w.heap.size + 1, 1, none⟩ = false := (hb2.frozen (p := ⟨w.heap.size + 1, 1, none⟩) (by simp <;> omega)).trans fC; have Hn := Lib.hid (New.pair (lo := w.heap.size + 1 + 1) (Hn1.out.mono (by first | omega | (simp <;> omega))) hn2 hb2 (by omega)); have Hb := Lib.hid (Hb1.out.trans (hb2.mono (by omega))); clear hn2 hb2 cA cB cC fB fC Hbg))
    | (go_simp; go_at_call 56; refine (Hd.out _ Hb0.out).mono ?_; rintro e w1 ⟨u1, rfl, hn1, hb1⟩; obtain ⟨ua, un, uc, rfl⟩ := hn1.slice; have cA : w1.cell? ⟨w.heap.size, 0, none⟩ = some v1 := (hb1.cell (p := ⟨w.heap.size, 0, none⟩) (by simp <;> omega)).trans (by simp [go_sem]); have cB : w1.cell? ⟨w.heap.size + 1, 0, none⟩ = some (.slice none 0 0) := (hb1.cell (p := ⟨w.heap.size + 1, 0, none⟩) (by simp <;> omega)).trans (by simp [go_sem]); have cC : w1.cell? ⟨w.heap.size + 1, 1, none⟩ = some (.slice none 0 0) := (hb1.cell (p := ⟨w.heap.size + 1, 1, none⟩) (by simp <;> omega)).trans (by simp [go_sem]); have fB : w1.frozen? ⟨w.heap.size + 1, 0, none⟩ = false := (hb1.frozen (p := ⟨w.heap.size + 1, 0, none⟩) (by simp <;> omega)).trans (by simp [go_sem]); have fC : w1.frozen? ⟨w.heap.size + 1, 1, none⟩ = false := (hb1.frozen (p := ⟨w.heap.size + 1, 1, none⟩) (by simp <;> omega)).trans (by simp [go_sem]); have hz1 : w.heap.size + 2 ≤ w1.heap.size := (by have := hb1.size; simp at this; omega); have Hn1 := Lib.hid hn1; have Hb1 := Lib.hid (Hb0.out.trans (hb1.mono Hb0.out.size)); clear hn1 hb1)
    | fail)
  all_goals (
    have r0 := World.cell?_setCell_same _ _ (.slice ua un uc) cB2
    have s1 : ((w2.setCell ⟨w.heap.size + 1, 0, none⟩ (.slice ua un uc)).cell? ⟨w.heap.size + 1, 1, none⟩) = some (.slice none 0 0) := (World.cell?_setCell_other _ _ _ _ (by simp)).trans cC2
    have r1 := World.cell?_setCell_same _ _ (.slice va vn vc) s1
    try go_wp2
    refine bodyPost_ret (v := .agg #[.slice ua un uc, .slice va vn vc]) (by simp [results, Try.results36, go_sem, r0, r1]) rfl ?_
    exact ⟨_, rfl, (New.setCell_low OStep.held (New.setCell_low OStep.held Hn.out (by simp) _) (by simp <;> omega) _).mono (by omega), (Hb.out.setCell (by simp <;> omega) _).setCell (by simp <;> omega) _⟩)
end Go.Proofs.Ytiecliglmfampaa
