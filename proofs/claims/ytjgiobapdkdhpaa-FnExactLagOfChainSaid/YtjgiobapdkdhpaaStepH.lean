/-
  Pairs of tables by value: how they read, what a call owns of them, the laws' helpers on them.
-/
import Derived.Test.YtjgiobapdkdhpaaRows
import Derived.Test.YtjgiobapdkdhpaaBase
import Derived.Test.YtjgiobapdkdhpaaHarn
import Derived.Test.YtjgiobapdkdhpaaLawKit
import Derived.Test.YtjgiobapdkdhpaaOpen
import Derived.Lib.SmallJoins
import Derived.Handy
namespace Go.Sd
open Go.RowKit Go.Deep Go.Joins Go.ChangeShapes Go.WideShapes Go.ChangeAt

abbrev Tb := List (List Int)
def StepR (w : World) (v : Value) (x : Tb × Tb) : Prop := ∃ v1 v2, v = .agg #[v1, v2] ∧ Tab w v1 x.1 ∧ Tab w v2 x.2
theorem StepR.frame : Framed StepR := fun _ _ _ _ ⟨v1, v2, e, h1, h2⟩ hb => ⟨v1, v2, e, Tab.frame _ _ _ _ h1 hb, Tab.frame _ _ _ _ h2 hb⟩
theorem StepR.slices {w : World} {v : Value} {x : Tb × Tb} (h : StepR w v x) : ∃ a n c a' n' c', v = .agg #[.slice a n c, .slice a' n' c'] := by
  obtain ⟨v1, v2, rfl, h1, h2⟩ := h
  obtain ⟨_, _, rfl, _⟩ := h1.shape
  obtain ⟨_, _, rfl, _⟩ := h2.shape
  exact ⟨_, _, _, _, _, _, rfl⟩
def OStep (eI eR : TypeId) : OwnRel (Tb × Tb) := fun w v x F => ∃ v1 v2 F1 F2, v = .agg #[v1, v2] ∧ OTab eI eR w v1 x.1 F1 ∧ OTab eI eR w v2 x.2 F2 ∧ F = F1 ++ F2
theorem OStep.held {eI eR : TypeId} : Held (OStep eI eR) := by
  refine ⟨fun w w' v x F ⟨v1, v2, F1, F2, e, h1, h2, eF⟩ hk => ?_, fun w v x F ⟨v1, v2, F1, F2, e, h1, h2, eF⟩ b hb => ?_⟩
  · subst eF
    exact ⟨v1, v2, F1, F2, e, (OTab.kept _ _).keep _ _ _ _ _ h1 fun b hb => hk b (List.mem_append_left _ hb), (OTab.kept _ _).keep _ _ _ _ _ h2 fun b hb => hk b (List.mem_append_right _ hb), rfl⟩
  · subst eF
    rcases List.mem_append.1 hb with hb | hb
    · exact (OTab.kept _ _).lt _ _ _ _ h1 b hb
    · exact (OTab.kept _ _).lt _ _ _ _ h2 b hb
theorem New.stp {eI eR : TypeId} {lo : Nat} {w : World} {v : Value} {x : Tb × Tb} (h : New (OStep eI eR) lo w v x) : StepR w v x := by
  obtain ⟨F, ⟨v1, v2, F1, F2, e, h1, h2, _⟩, _⟩ := h
  exact ⟨v1, v2, e, h1.reads, h2.reads⟩
/-- One was made, then the other. -/
theorem New.pair {eI eR : TypeId} {lo : Nat} {w1 w : World} {v1 v2 : Value} {x1 x2 : Tb} (h1 : New (OTab eI eR) lo w1 v1 x1) (h2 : New (OTab eI eR) w1.heap.size w v2 x2) (hb : Below w1.heap.size w1 w) (hlo : lo ≤ w1.heap.size) : New (OStep eI eR) lo w (.agg #[v1, v2]) (x1, x2) := by
  obtain ⟨F, hF, hn, hge⟩ := h1
  obtain ⟨G, hG, hm, hgg⟩ := h2
  have hlt := (OTab.kept eI eR).lt _ _ _ _ hF
  refine ⟨F ++ G, ⟨v1, v2, F, G, rfl, (OTab.kept _ _).keep _ _ _ _ _ hF fun b hb' => hb.block b (hlt b hb'), hG, rfl⟩, List.nodup_append.2 ⟨hn, hm, fun a ha b hb' e => ?_⟩, fun b hb' => ?_⟩
  · subst e
    have := hlt a ha
    have := hgg a hb'
    omega
  · rcases List.mem_append.1 hb' with h | h
    · exact hge b h
    · exact Nat.le_trans hlo (hgg b h)
/-- The second was made first. -/
theorem New.pair' {eI eR : TypeId} {lo : Nat} {w1 w : World} {v1 v2 : Value} {x1 x2 : Tb} (h2 : New (OTab eI eR) lo w1 v2 x2) (h1 : New (OTab eI eR) w1.heap.size w v1 x1) (hb : Below w1.heap.size w1 w) (hlo : lo ≤ w1.heap.size) : New (OStep eI eR) lo w (.agg #[v1, v2]) (x1, x2) := by
  obtain ⟨F, hF, hn, hge⟩ := h2
  obtain ⟨G, hG, hm, hgg⟩ := h1
  have hlt := (OTab.kept eI eR).lt _ _ _ _ hF
  refine ⟨G ++ F, ⟨v1, v2, G, F, rfl, hG, (OTab.kept _ _).keep _ _ _ _ _ hF fun b hb' => hb.block b (hlt b hb'), rfl⟩, List.nodup_append.2 ⟨hm, hn, fun a ha b hb' e => ?_⟩, fun b hb' => ?_⟩
  · subst e
    have := hlt a hb'
    have := hgg a ha
    omega
  · rcases List.mem_append.1 hb' with h | h
    · exact Nat.le_trans hlo (hgg b h)
    · exact hge b h

def StpI64 (x : Tb × Tb) : Prop := (∀ r, r ∈ x.1 → ∀ y, y ∈ r → I64 y) ∧ ∀ r, r ∈ x.2 → ∀ y, y ∈ r → I64 y

section
variable {H : Type} {enc : TypeId × Value → H} {P : Program} {W : World} {base : Nat}
theorem open_Tab_any {t e q : TypeId} (ht : P.underlying t = some (.slice e)) (he : P.underlying e = some (.slice q)) (hq : P.underlying q = some (.int .i64)) (ce : P.cellsOf e = 1) (cq : P.cellsOf q = 1) {v : Value} {fuel : Nat} {x : DataW H × List MemPlace}
    (h : DataW.trod enc P W base (fun _ => true) true fuel t [v] = some x) : ∃ m, Tab W v m ∧ ∀ r, r ∈ m → ∀ x, x ∈ r → I64 x := by
  rcases open_slice1 ht ce h with ⟨hcs, _⟩ | ⟨a', l, c, mm, n, V, D, Pl, hcs, _⟩
  · simp at hcs
    subst hcs
    exact open_Tab_cells ht he hq ce cq h
  · simp at hcs
    subst hcs
    exact open_Tab_cells ht he hq ce cq h
theorem open_Step {tS t e q : TypeId} {f0 f1 : Field} (hs : P.underlying tS = some (.struct #[f0, f1])) (hone : oneCellFields P #[f0, f1] = true) (hC : P.cellsOf tS = 2) (e0 : f0.type = t) (e1 : f1.type = t)
    (ht : P.underlying t = some (.slice e)) (he : P.underlying e = some (.slice q)) (hq : P.underlying q = some (.int .i64)) (ce : P.cellsOf e = 1) (cq : P.cellsOf q = 1) {v : Value} {d : DataW H} {p : List MemPlace}
    (hv : Value.okWide P W .any base tS v) (h : DataW.Trod enc P W 0 (fun _ => true) true tS v d p) : ∃ x, StepR W v x ∧ StpI64 x := by
  obtain ⟨c0, c1, y0, y1, m, rfl, rfl, rfl, hy0, hy1⟩ := open_agg2 hs hone hC hv h
  rw [e0] at hy0
  rw [e1] at hy1
  obtain ⟨m0, h0, b0⟩ := open_Tab_any ht he hq ce cq hy0
  obtain ⟨m1, h1, b1⟩ := open_Tab_any ht he hq ce cq hy1
  exact ⟨(m0, m1), ⟨c0, c1, rfl, h0, h1⟩, b0, b1⟩
end
end Go.Sd
namespace Go.Proofs.Ytjgiobapdkdhpaa
open Go.RowKit Go.Deep Go.Sd

def cntStp (x : Tb × Tb) : Int := cntSS x.1 + cntSS x.2
theorem cntStp_nn (x : Tb × Tb) : 0 ≤ cntStp x := by have := cntSS_nn x.1; have := cntSS_nn x.2; unfold cntStp; omega
def szStp (x : Tb × Tb) (l : Int) : Int := if szSS x.1 l < 0 then -1 else if szSS x.2 (szSS x.1 l) < 0 then -1 else szSS x.2 (szSS x.1 l)
theorem szStp_bd (x : Tb × Tb) (l : Int) (hl : 0 ≤ l) : -1 ≤ szStp x l ∧ szStp x l ≤ l ∧ True := by
  have h1 := szSS_bd x.1 l hl
  unfold szStp
  by_cases c1 : szSS x.1 l < 0
  · rw [if_pos c1]; exact ⟨by omega, by omega, trivial⟩
  · rw [if_neg c1]
    have h2 := szSS_bd x.2 (szSS x.1 l) (by omega)
    by_cases c2 : szSS x.2 (szSS x.1 l) < 0
    · rw [if_pos c2]; exact ⟨by omega, by omega, trivial⟩
    · rw [if_neg c2]; exact ⟨by omega, by omega, trivial⟩
theorem cntStp_le (x : Tb × Tb) (l : Int) (hl : 0 ≤ l) (h : 0 ≤ szStp x l) : cntStp x + szStp x l + x.1.length + x.2.length = l := by
  unfold szStp at h ⊢
  by_cases h1 : szSS x.1 l < 0
  · rw [if_pos h1] at h; omega
  · rw [if_neg h1] at h ⊢
    by_cases h2 : szSS x.2 (szSS x.1 l) < 0
    · rw [if_pos h2] at h; omega
    · rw [if_neg h2]
      have e1 := cntSS_le x.1 l hl (by omega)
      have e2 := cntSS_le x.2 (szSS x.1 l) (by omega) (by omega)
      unfold cntStp
      omega
def StpSz (x : Tb × Tb) : Prop := (x.1.length ≤ 1048576 ∧ ∀ r, r ∈ x.1 → r.length ≤ 1048576) ∧ x.2.length ≤ 1048576 ∧ ∀ r, r ∈ x.2 → r.length ≤ 1048576
theorem StpSz.mk' (x : Tb × Tb) {s l : Int} (h : cntStp x + s + x.1.length + x.2.length = l) (hs : 0 ≤ s) (hl : l ≤ 1048576) : StpSz x := by
  have h1 := cntSS_nn x.1
  have h2 := cntSS_nn x.2
  unfold cntStp at h
  exact ⟨⟨by omega, fun r hr => by have := len_le_cntSS hr; omega⟩, by omega, fun r hr => by have := len_le_cntSS hr; omega⟩

set_option maxHeartbeats 400000 in
theorem szStep_c {w : World} {v : Value} {x : Tb × Tb} {l : Int} (h : StepR w v x) (h0 : 0 ≤ l) (h1 : l ≤ 1048576) :
    Calls Try.prog 87 #[v, .int .i64 l] w fun e w' => e = .returned (.int .i64 (szStp x l)) ∧ Below w.heap.size w w' := by
  obtain ⟨v1, v2, rfl, t1, t2⟩ := h
  have Hc := Lib.hid (fun w1 (hb : Below w.heap.size w w1) => szIntSS_c (Tab.frame _ _ _ _ t1 hb) h0 h1)
  have hb := szSS_bd x.1 l h0
  have Hb := Lib.hid (fun (u : Obj) => (Below.refl w.heap.size w).alloc (Nat.le_refl _) u)
  by_cases c1 : szSS x.1 l < 0
  · have H := Lib.hid (show szStp x l = -1 from by unfold szStp; rw [if_pos c1])
    generalize szSS x.1 l = l1 at Hc hb c1
    clear t1 t2
    go_enter Try.func87, Try.ntmps87
    go_wp2_with fail
    refine (Hc.out _ (Hb.out _)).mono ?_
    rintro e w' ⟨rfl, rfl⟩
    go_wp2
    go_ret
    exact ⟨by rw [H.out]; rfl, Hb.out _⟩
  · have Hd := Lib.hid (fun w1 (hb : Below w.heap.size w w1) => szIntSS_c (Tab.frame _ _ _ _ t2 hb) (l := szSS x.1 l) (by omega) (by omega))
    have hb2 := szSS_bd x.2 (szSS x.1 l) (by omega)
    clear t1 t2
    by_cases c2 : szSS x.2 (szSS x.1 l) < 0
    · have H := Lib.hid (show szStp x l = -1 from by unfold szStp; rw [if_neg c1, if_pos c2])
      generalize szSS x.1 l = l1 at Hc hb c1 Hd hb2 c2 H
      generalize szSS x.2 l1 = l2 at Hd hb2 c2 H
      go_enter Try.func87, Try.ntmps87
      go_wp2_with fail
      refine (Hc.out _ (Hb.out _)).mono ?_
      rintro e w' ⟨rfl, rfl⟩
      go_wp2_with fail
      refine (Hd.out _ (Hb.out _)).mono ?_
      rintro e w' ⟨rfl, rfl⟩
      go_wp2
      go_ret
      exact ⟨by rw [H.out]; rfl, Hb.out _⟩
    · have H := Lib.hid (show szStp x l = szSS x.2 (szSS x.1 l) from by unfold szStp; rw [if_neg c1, if_neg c2])
      generalize szSS x.1 l = l1 at Hc hb c1 Hd hb2 c2 H
      generalize szSS x.2 l1 = l2 at Hd hb2 c2 H
      go_enter Try.func87, Try.ntmps87
      go_wp2_with fail
      refine (Hc.out _ (Hb.out _)).mono ?_
      rintro e w' ⟨rfl, rfl⟩
      go_wp2_with fail
      refine (Hd.out _ (Hb.out _)).mono ?_
      rintro e w' ⟨rfl, rfl⟩
      go_wp2
      go_ret
      exact ⟨by rw [H.out]; rfl, Hb.out _⟩
theorem New.setCell_low {α : Type} {R : OwnRel α} (hR : Held R) {lo : Nat} {w : World} {v : Value} {x : α} (h : New R lo w v x) {p : Addr} (hp : p.block < lo) (u : Value) : New R lo (w.setCell p u) v x := by
  obtain ⟨F, hF, hn, hge⟩ := h
  exact ⟨F, hR.keep _ _ _ _ _ hF fun b hb => Below.heap_setCell _ _ _ _ (fun e => by have := hge b hb; omega), hn, hge⟩
set_option maxHeartbeats 400000 in
theorem toStep_c {w : World} {v : Value} {x : Tb × Tb} (h : StepR w v x) (hs : StpSz x) :
    Calls Try.prog 91 #[v] w (Makes (OStep 3 78) w x) := by
  obtain ⟨v1, v2, rfl, t1, t2⟩ := h
  have Hc := Lib.hid (fun w1 (hb : Below w.heap.size w w1) => toIntSS_c (Tab.frame _ _ _ _ t1 hb) hs.1.1 hs.1.2)
  have Hd := Lib.hid (fun w1 (hb : Below w.heap.size w w1) => toIntSS_c (Tab.frame _ _ _ _ t2 hb) hs.2.1 hs.2.2)
  clear t1 t2 hs
  obtain ⟨x1, x2⟩ := x
  go_enter Try.func91, Try.ntmps91
  go_wp2_with fail
  have Hb0 := Lib.hid ((((Below.refl w.heap.size w).alloc (Nat.le_refl _) (.cells #[v1, v2] 92)).alloc (by simp <;> omega) (.cells #[.slice none 0 0, .slice none 0 0] 38)).alloc (by simp <;> omega) (.cells #[.slice none 0 0, .slice none 0 0] 38))
  refine (Hc.out _ Hb0.out).mono ?_
  rintro e w1 ⟨u1, rfl, hn1, hb1⟩
  have cA : w1.cell? ⟨w.heap.size, 1, none⟩ = some v2 := (hb1.cell (p := ⟨w.heap.size, 1, none⟩) (by simp <;> omega)).trans (by simp [go_sem])
  have cB : w1.cell? ⟨w.heap.size + 1, 0, none⟩ = some (.slice none 0 0) := (hb1.cell (p := ⟨w.heap.size + 1, 0, none⟩) (by simp <;> omega)).trans (by simp [go_sem])
  have cC : w1.cell? ⟨w.heap.size + 1, 1, none⟩ = some (.slice none 0 0) := (hb1.cell (p := ⟨w.heap.size + 1, 1, none⟩) (by simp <;> omega)).trans (by simp [go_sem])
  have cD : w1.cell? ⟨w.heap.size + 1 + 1, 0, none⟩ = some (.slice none 0 0) := (hb1.cell (p := ⟨w.heap.size + 1 + 1, 0, none⟩) (by simp <;> omega)).trans (by simp [go_sem])
  have cE : w1.cell? ⟨w.heap.size + 1 + 1, 1, none⟩ = some (.slice none 0 0) := (hb1.cell (p := ⟨w.heap.size + 1 + 1, 1, none⟩) (by simp <;> omega)).trans (by simp [go_sem])
  have fB : w1.frozen? ⟨w.heap.size + 1, 0, none⟩ = false := (hb1.frozen (p := ⟨w.heap.size + 1, 0, none⟩) (by simp <;> omega)).trans (by simp [go_sem])
  have fC : w1.frozen? ⟨w.heap.size + 1, 1, none⟩ = false := (hb1.frozen (p := ⟨w.heap.size + 1, 1, none⟩) (by simp <;> omega)).trans (by simp [go_sem])
  have fD : w1.frozen? ⟨w.heap.size + 1 + 1, 0, none⟩ = false := (hb1.frozen (p := ⟨w.heap.size + 1 + 1, 0, none⟩) (by simp <;> omega)).trans (by simp [go_sem])
  have fE : w1.frozen? ⟨w.heap.size + 1 + 1, 1, none⟩ = false := (hb1.frozen (p := ⟨w.heap.size + 1 + 1, 1, none⟩) (by simp <;> omega)).trans (by simp [go_sem])
  have hz1 : w.heap.size + 3 ≤ w1.heap.size := by have := hb1.size; simp at this; omega
  obtain ⟨ua, un, uc, rfl⟩ := hn1.slice
  have Hn1 := Lib.hid (New.setCell_low (OTab.kept _ _).held hn1 (p := ⟨w.heap.size + 1 + 1, 0, none⟩) (by simp) (.slice ua un uc))
  have Hb1 := Lib.hid ((Hb0.out.trans (hb1.mono Hb0.out.size)).setCell (p := ⟨w.heap.size + 1 + 1, 0, none⟩) (by simp <;> omega) (.slice ua un uc))
  clear hn1 hb1
  go_wp2_with fail
  refine (Hd.out _ Hb1.out).mono ?_
  rintro e w2 ⟨u2, rfl, hn2, hb2⟩
  have cB2 : w2.cell? ⟨w.heap.size + 1, 0, none⟩ = some (.slice none 0 0) := (hb2.cell (p := ⟨w.heap.size + 1, 0, none⟩) (by simp <;> omega)).trans ((World.cell?_setCell_other _ _ _ _ (by simp)).trans cB)
  have cC2 : w2.cell? ⟨w.heap.size + 1, 1, none⟩ = some (.slice none 0 0) := (hb2.cell (p := ⟨w.heap.size + 1, 1, none⟩) (by simp <;> omega)).trans ((World.cell?_setCell_other _ _ _ _ (by simp)).trans cC)
  have cD2 : w2.cell? ⟨w.heap.size + 1 + 1, 0, none⟩ = some (.slice ua un uc) := (hb2.cell (p := ⟨w.heap.size + 1 + 1, 0, none⟩) (by simp <;> omega)).trans (World.cell?_setCell_same _ _ _ cD)
  have cE2 : w2.cell? ⟨w.heap.size + 1 + 1, 1, none⟩ = some (.slice none 0 0) := (hb2.cell (p := ⟨w.heap.size + 1 + 1, 1, none⟩) (by simp <;> omega)).trans ((World.cell?_setCell_other _ _ _ _ (by simp)).trans cE)
  have fB2 : w2.frozen? ⟨w.heap.size + 1, 0, none⟩ = false := (hb2.frozen (p := ⟨w.heap.size + 1, 0, none⟩) (by simp <;> omega)).trans ((World.frozen?_setCell _ _ _ _).trans fB)
  have fC2 : w2.frozen? ⟨w.heap.size + 1, 1, none⟩ = false := (hb2.frozen (p := ⟨w.heap.size + 1, 1, none⟩) (by simp <;> omega)).trans ((World.frozen?_setCell _ _ _ _).trans fC)
  have fE2 : w2.frozen? ⟨w.heap.size + 1 + 1, 1, none⟩ = false := (hb2.frozen (p := ⟨w.heap.size + 1 + 1, 1, none⟩) (by simp <;> omega)).trans ((World.frozen?_setCell _ _ _ _).trans fE)
  clear cA cB cC cD cE fB fC fD fE
  obtain ⟨va, vn, vc, rfl⟩ := hn2.slice
  have Hn := Lib.hid (New.pair (lo := w.heap.size + 1 + 1 + 1) (Hn1.out.mono (by simp <;> omega)) hn2 hb2 (by simp <;> omega))
  have Hb := Lib.hid (Hb1.out.trans (hb2.mono (by simp <;> omega)))
  clear hn2 hb2
  go_wp2
  have s0 : ((w2.setCell ⟨w.heap.size + 1 + 1, 1, none⟩ (.slice va vn vc)).cell? ⟨w.heap.size + 1, 0, none⟩) = some (.slice none 0 0) := (World.cell?_setCell_other _ _ _ _ (by simp)).trans cB2
  have s1 : ((w2.setCell ⟨w.heap.size + 1 + 1, 1, none⟩ (.slice va vn vc)).cell? ⟨w.heap.size + 1, 1, none⟩) = some (.slice none 0 0) := (World.cell?_setCell_other _ _ _ _ (by simp)).trans cC2
  have r0 := World.cell?_setCell_same _ _ (.slice ua un uc) s0
  have r1 := World.cell?_setCell_same _ _ (.slice va vn vc) ((World.cell?_setCell_other _ ⟨w.heap.size + 1, 0, none⟩ _ (.slice ua un uc) (by simp)).trans s1)
  refine bodyPost_ret (v := .agg #[.slice ua un uc, .slice va vn vc]) (by simp [results, Try.results91, go_sem, r0, r1]) rfl ?_
  exact ⟨_, rfl, (New.setCell_low OStep.held (New.setCell_low OStep.held (New.setCell_low OStep.held Hn.out (by simp) _) (by simp <;> omega) _) (by simp <;> omega) _).mono (by omega), ((Hb.out.setCell (by simp <;> omega) _).setCell (by simp <;> omega) _).setCell (by simp <;> omega) _⟩
set_option maxHeartbeats 400000 in
theorem eqStep_same {w : World} {v1 v2 : Value} {x : Tb × Tb} (h1 : StepR w v1 x) (h2 : StepR w v2 x) :
    Calls Try.prog 26 #[v1, v2] w fun e w' => e = .returned (.bool true) ∧ Below w.heap.size w w' := by
  obtain ⟨a1, a2, rfl, t1, t2⟩ := h1
  obtain ⟨b1, b2, rfl, s1, s2⟩ := h2
  have Hc := Lib.hid (fun w1 (hb : Below w.heap.size w w1) => eqIntSS_same (Tab.frame _ _ _ _ t1 hb) (Tab.frame _ _ _ _ s1 hb))
  have Hd := Lib.hid (fun w1 (hb : Below w.heap.size w w1) => eqIntSS_same (Tab.frame _ _ _ _ t2 hb) (Tab.frame _ _ _ _ s2 hb))
  have Hb := Lib.hid (fun (u u' : Obj) => ((Below.refl w.heap.size w).alloc (Nat.le_refl _) u).alloc (by simp) u')
  clear t1 t2 s1 s2
  go_enter Try.func26, Try.ntmps26
  go_wp2_with fail
  refine (Hc.out _ (Hb.out _ _)).mono ?_
  rintro e w1 ⟨rfl, hd1⟩
  have Hb1 := Lib.hid ((Hb.out _ _).trans (hd1.below w.heap.size))
  have hrule := hd1.cell
  clear hd1
  go_wp2_with fail
  refine (Hd.out _ Hb1.out).mono ?_
  rintro e w2 ⟨rfl, hd2⟩
  have Hb2 := Lib.hid (Hb1.out.trans (hd2.below w.heap.size))
  clear hd2 hrule
  go_wp2
  go_ret
  exact ⟨rfl, Hb2.out⟩
def markStp (x : Tb × Tb) (k : Int) : Tb × Tb := (markSS x.1 k, markSS x.2 (k + cntSS x.1))
set_option maxHeartbeats 400000 in
theorem markStep_in {lo hi : Nat} {w : World} {v : Value} {x : Tb × Tb} {k0 : Int} (h : NewIn (OStep 3 78) lo hi w v x) (h0 : 0 ≤ k0) (h1 : k0 + cntStp x ≤ 4611686018427387904) :
    Calls Try.prog 29 #[v, .int .i64 k0] w (MarksIn (OStep 3 78) lo hi w v (markStp x k0) (k0 + cntStp x)) := by
  obtain ⟨F, ⟨v1, v2, F1, F2, rfl, t1, t2, rfl⟩, hn, hin⟩ := h
  obtain ⟨hn1, hn2, hd⟩ := List.nodup_append.1 hn
  have hc1 := cntSS_nn x.1
  have hc2 := cntSS_nn x.2
  have Hcs := Lib.hid (show cntStp x = cntSS x.1 + cntSS x.2 from rfl)
  have l1 := (OTab.kept _ _).lt _ _ _ _ t1
  have l2 := (OTab.kept _ _).lt _ _ _ _ t2
  have H0 := Lib.hid (show Off (F1 ++ F2) w (w.alloc (.cells #[v1, v2] 38)) from ⟨rfl, rfl, rfl, by simp, fun b hb _ => ((Below.refl w.heap.size w).alloc (Nat.le_refl _) _).block b hb⟩)
  have Hc := Lib.hid (markIntSS_c (k0 := k0) ((OTab.kept 3 78).keep _ (w.alloc (.cells #[v1, v2] 38)) _ _ _ t1 fun b hb => ((Below.refl w.heap.size w).alloc (Nat.le_refl _) _).block b (l1 b hb)) hn1 h0 (by rw [Hcs.out] at h1; omega))
  have Hd := Lib.hid (fun w1 (t : OTab 3 78 w1 v2 x.2 F2) => markIntSS_c (k0 := k0 + cntSS x.1) t hn2 (by omega) (by rw [Hcs.out] at h1; omega))
  have Hk := Lib.hid (fun w1 (ho : Off F1 (w.alloc (.cells #[v1, v2] 38)) w1) => (OTab.kept 3 78).keep _ w1 _ _ _ t2 fun b hb => (ho.block b (by have := l2 b hb; simp; omega) fun hb1 => hd b hb1 b hb rfl).trans (((Below.refl w.heap.size w).alloc (Nat.le_refl _) _).block b (l2 b hb)))
  have Hk2 := Lib.hid (fun w1 w2 (t : OTab 3 78 w1 v1 (markSS x.1 k0) F1) (ho : Off F2 w1 w2) => (OTab.kept 3 78).keep _ w2 _ _ _ t fun b hb => ho.block b ((OTab.kept _ _).lt _ _ _ _ t b hb) fun hb1 => hd b hb b hb1 rfl)
  have Hcl := Lib.hid (fun w1 (ho : Off F1 (w.alloc (.cells #[v1, v2] 38)) w1) => show w1.cell? ⟨w.heap.size, 1, none⟩ = some v2 from by
    have hb := ho.block w.heap.size (by simp) fun hm => Nat.lt_irrefl _ (l1 _ hm)
    have h2 : (w.alloc (.cells #[v1, v2] 38)).cell? ⟨w.heap.size, 1, none⟩ = some v2 := by simp
    rw [← h2]
    simp only [World.cell?, hb])
  have Hin := Lib.hid hin
  have Hn := Lib.hid hn
  have hm : 0 ≤ cntSS x.1 ∧ k0 + cntSS x.1 + cntSS x.2 ≤ 4611686018427387904 := by rw [Hcs.out] at h1; omega
  obtain ⟨hm1, hm2⟩ := hm
  rw [Hcs.out]
  clear hn hin hn1 hn2 hd t1 t2 h1 l1 l2
  have HM := Lib.hid (show markStp x k0 = (markSS x.1 k0, markSS x.2 (k0 + cntSS x.1)) from rfl)
  generalize markStp x k0 = mm at HM ⊢
  generalize cntSS x.1 = q1 at *
  generalize cntSS x.2 = q2 at *
  go_enter Try.func29, Try.ntmps29
  go_wp2_with fail
  refine Hc.out.mono ?_
  rintro e w1 ⟨rfl, g1, o1⟩
  have Hd1 := Lib.hid (Hd.out w1 (Hk.out w1 o1))
  have cl := Hcl.out w1 o1
  have G1 := Lib.hid g1
  have O1 := Lib.hid (H0.out.trans (o1.mono (F' := F1 ++ F2) fun b hb => List.mem_append_left _ hb))
  clear g1 o1 Hd
  go_wp2_with fail
  refine Hd1.out.mono ?_
  rintro e w2 ⟨rfl, g2, o2⟩
  have G2 := Lib.hid (show OStep 3 78 w2 (.agg #[v1, v2]) mm (F1 ++ F2) from ⟨v1, v2, F1, F2, rfl, by rw [HM.out]; exact Hk2.out _ _ G1.out o2, by rw [HM.out]; exact g2, rfl⟩)
  have O2 := Lib.hid (O1.out.trans (o2.mono fun b hb => List.mem_append_right _ hb))
  clear g2 o2 cl
  go_wp2
  go_ret
  exact ⟨by rw [← Int.add_assoc]; rfl, ⟨_, G2.out, Hn.out, Hin.out⟩, O2.out.inn Hin.out⟩
set_option maxHeartbeats 400000 in
theorem heldStep_same {w : World} {v : Value} {x : Tb × Tb} {k0 : Int} (h : StepR w v (markStp x k0)) (h0 : 0 ≤ k0) (h1 : k0 + cntStp x ≤ 4611686018427387904) :
    Calls Try.prog 30 #[v, .int .i64 k0] w fun e w' => e = .returned (.int .i64 (k0 + cntStp x)) ∧ Below w.heap.size w w' := by
  obtain ⟨v1, v2, rfl, t1, t2⟩ := h
  have hc1 := cntSS_nn x.1
  have hc2 := cntSS_nn x.2
  have Hcs := Lib.hid (show cntStp x = cntSS x.1 + cntSS x.2 from rfl)
  rw [Hcs.out] at h1 ⊢
  have Hc := Lib.hid (fun w1 (hb : Below w.heap.size w w1) => heldIntSS_same (k0 := k0) (Tab.frame _ _ _ _ t1 hb) h0 (by omega))
  have Hd := Lib.hid (fun w1 (hb : Below w.heap.size w w1) => heldIntSS_same (k0 := k0 + cntSS x.1) (Tab.frame _ _ _ _ t2 hb) (by omega) (by omega))
  have Hb := Lib.hid (fun (u : Obj) => (Below.refl w.heap.size w).alloc (Nat.le_refl _) u)
  clear t1 t2 Hcs
  generalize cntSS x.1 = q1 at *
  generalize cntSS x.2 = q2 at *
  go_enter Try.func30, Try.ntmps30
  go_wp2_with fail
  refine (Hc.out _ (Hb.out _)).mono ?_
  rintro e w' ⟨rfl, rfl⟩
  go_wp2_with fail
  refine (Hd.out _ (Hb.out _)).mono ?_
  rintro e w' ⟨rfl, rfl⟩
  go_wp2
  go_ret
  exact ⟨by rw [← Int.add_assoc]; rfl, Hb.out _⟩
end Go.Proofs.Ytjgiobapdkdhpaa
