/-
  Texts of this claim joined: laws for its walks, contracts of the functions that the law reaches.
-/
import Derived.Test.YtlkgkfgpnnahdaaRows
import Derived.Test.YtlkgkfgpnnahdaaFnLagsM1
import Derived.Test.YtlkgkfgpnnahdaaFnLagsM2
import Derived.Lib.SmallJoins
import Derived.Handy
import Derived.Test.YtlkgkfgpnnahdaaFnLagsM3
import Derived.Test.YtlkgkfgpnnahdaaFnLagsM11
import Derived.Test.YtlkgkfgpnnahdaaFnLagsM4
import Derived.IntWalk
import Derived.StillTailTactics
import Derived.Test.YtlkgkfgpnnahdaaFnLagsM10
import Derived.OwnWalk
section
/-
  Pairs of tables by value: how they read, what a call owns of them, the laws' helpers on them.
-/
namespace Go.Sd
open Go.RowKit Go.Deep Go.Joins Go.ChangeShapes Go.WideShapes Go.ChangeAt

abbrev Tb := List (List Int)
def StepR (w : World) (v : Value) (x : Tb × Tb) : Prop := ∃ v1 v2, v = .agg #[v1, v2] ∧ Tab w v1 x.1 ∧ Tab w v2 x.2
theorem StepR.frame : Framed StepR := fun _ _ _ _ ⟨v1, v2, e, h1, h2⟩ hb => ⟨v1, v2, e, Tab.frame _ _ _ _ h1 hb, Tab.frame _ _ _ _ h2 hb⟩
theorem StepR.slices {w : World} {v : Value} {x : Tb × Tb} (h : StepR w v x) : ∃ a n c a' n' c', v = .agg #[.slice a n c, .slice a' n' c'] := by
  obtain ⟨v1, v2, rfl, h1, h2⟩ := h
  obtain ⟨_, _, rfl, _⟩ := h1.shape
  obtain ⟨_, _, rfl, _⟩ := h2.shape
  exact ⟨_, _, _, _, _, _, rfl⟩
def OStep (eI eR : TypeId) : OwnRel (Tb × Tb) := fun w v x F => ∃ v1 v2 F1 F2, v = .agg #[v1, v2] ∧ OTab eI eR w v1 x.1 F1 ∧ OTab eI eR w v2 x.2 F2 ∧ F = F1 ++ F2
theorem OStep.held {eI eR : TypeId} : Held (OStep eI eR) := by
  refine ⟨fun w w' v x F ⟨v1, v2, F1, F2, e, h1, h2, eF⟩ hk => ?_, fun w v x F ⟨v1, v2, F1, F2, e, h1, h2, eF⟩ b hb => ?_⟩
  · subst eF
    exact ⟨v1, v2, F1, F2, e, (OTab.kept _ _).keep _ _ _ _ _ h1 fun b hb => hk b (List.mem_append_left _ hb), (OTab.kept _ _).keep _ _ _ _ _ h2 fun b hb => hk b (List.mem_append_right _ hb), rfl⟩
  · subst eF
    rcases List.mem_append.1 hb with hb | hb
    · exact (OTab.kept _ _).lt _ _ _ _ h1 b hb
    · exact (OTab.kept _ _).lt _ _ _ _ h2 b hb
theorem New.stp {eI eR : TypeId} {lo : Nat} {w : World} {v : Value} {x : Tb × Tb} (h : New (OStep eI eR) lo w v x) : StepR w v x := by
  obtain ⟨F, ⟨v1, v2, F1, F2, e, h1, h2, _⟩, _⟩ := h
  exact ⟨v1, v2, e, h1.reads, h2.reads⟩
/-- One was made, then the other. -/
theorem New.pair {eI eR : TypeId} {lo : Nat} {w1 w : World} {v1 v2 : Value} {x1 x2 : Tb} (h1 : New (OTab eI eR) lo w1 v1 x1) (h2 : New (OTab eI eR) w1.heap.size w v2 x2) (hb : Below w1.heap.size w1 w) (hlo : lo ≤ w1.heap.size) : New (OStep eI eR) lo w (.agg #[v1, v2]) (x1, x2) := by
  obtain ⟨F, hF, hn, hge⟩ := h1
  obtain ⟨G, hG, hm, hgg⟩ := h2
  have hlt := (OTab.kept eI eR).lt _ _ _ _ hF
  refine ⟨F ++ G, ⟨v1, v2, F, G, rfl, (OTab.kept _ _).keep _ _ _ _ _ hF fun b hb' => hb.block b (hlt b hb'), hG, rfl⟩, List.nodup_append.2 ⟨hn, hm, fun a ha b hb' e => ?_⟩, fun b hb' => ?_⟩
  · subst e
    have := hlt a ha
    have := hgg a hb'
    omega
  · rcases List.mem_append.1 hb' with h | h
    · exact hge b h
    · exact Nat.le_trans hlo (hgg b h)
/-- The second was made first. -/
theorem New.pair' {eI eR : TypeId} {lo : Nat} {w1 w : World} {v1 v2 : Value} {x1 x2 : Tb} (h2 : New (OTab eI eR) lo w1 v2 x2) (h1 : New (OTab eI eR) w1.heap.size w v1 x1) (hb : Below w1.heap.size w1 w) (hlo : lo ≤ w1.heap.size) : New (OStep eI eR) lo w (.agg #[v1, v2]) (x1, x2) := by
  obtain ⟨F, hF, hn, hge⟩ := h2
  obtain ⟨G, hG, hm, hgg⟩ := h1
  have hlt := (OTab.kept eI eR).lt _ _ _ _ hF
  refine ⟨G ++ F, ⟨v1, v2, G, F, rfl, hG, (OTab.kept _ _).keep _ _ _ _ _ hF fun b hb' => hb.block b (hlt b hb'), rfl⟩, List.nodup_append.2 ⟨hm, hn, fun a ha b hb' e => ?_⟩, fun b hb' => ?_⟩
  · subst e
    have := hlt a hb'
    have := hgg a ha
    omega
  · rcases List.mem_append.1 hb' with h | h
    · exact Nat.le_trans hlo (hgg b h)
    · exact hge b h

def StpI64 (x : Tb × Tb) : Prop := (∀ r, r ∈ x.1 → ∀ y, y ∈ r → I64 y) ∧ ∀ r, r ∈ x.2 → ∀ y, y ∈ r → I64 y

section
variable {H : Type} {enc : TypeId × Value → H} {P : Program} {W : World} {base : Nat}
theorem open_Tab_any {t e q : TypeId} (ht : P.underlying t = some (.slice e)) (he : P.underlying e = some (.slice q)) (hq : P.underlying q = some (.int .i64)) (ce : P.cellsOf e = 1) (cq : P.cellsOf q = 1) {v : Value} {fuel : Nat} {x : DataW H × List MemPlace}
    (h : DataW.trod enc P W base (fun _ => true) true fuel t [v] = some x) : ∃ m, Tab W v m ∧ ∀ r, r ∈ m → ∀ x, x ∈ r → I64 x := by
  rcases open_slice1 ht ce h with ⟨hcs, _⟩ | ⟨a', l, c, mm, n, V, D, Pl, hcs, _⟩
  · simp at hcs
    subst hcs
    exact open_Tab_cells ht he hq ce cq h
  · simp at hcs
    subst hcs
    exact open_Tab_cells ht he hq ce cq h
theorem open_Step {tS t e q : TypeId} {f0 f1 : Field} (hs : P.underlying tS = some (.struct #[f0, f1])) (hone : oneCellFields P #[f0, f1] = true) (hC : P.cellsOf tS = 2) (e0 : f0.type = t) (e1 : f1.type = t)
    (ht : P.underlying t = some (.slice e)) (he : P.underlying e = some (.slice q)) (hq : P.underlying q = some (.int .i64)) (ce : P.cellsOf e = 1) (cq : P.cellsOf q = 1) {v : Value} {d : DataW H} {p : List MemPlace}
    (hv : Value.okWide P W .any base tS v) (h : DataW.Trod enc P W 0 (fun _ => true) true tS v d p) : ∃ x, StepR W v x ∧ StpI64 x := by
  obtain ⟨c0, c1, y0, y1, m, rfl, rfl, rfl, hy0, hy1⟩ := open_agg2 hs hone hC hv h
  rw [e0] at hy0
  rw [e1] at hy1
  obtain ⟨m0, h0, b0⟩ := open_Tab_any ht he hq ce cq hy0
  obtain ⟨m1, h1, b1⟩ := open_Tab_any ht he hq ce cq hy1
  exact ⟨(m0, m1), ⟨c0, c1, rfl, h0, h1⟩, b0, b1⟩
end
end Go.Sd
namespace Go.Proofs.Ytlkgkfgpnnahdaa
open Go.RowKit Go.Deep Go.Sd

def cntStp (x : Tb × Tb) : Int := cntSS x.1 + cntSS x.2
theorem cntStp_nn (x : Tb × Tb) : 0 ≤ cntStp x := by have := cntSS_nn x.1; have := cntSS_nn x.2; unfold cntStp; omega
def szStp (x : Tb × Tb) (l : Int) : Int := if szSS x.1 l < 0 then -1 else if szSS x.2 (szSS x.1 l) < 0 then -1 else szSS x.2 (szSS x.1 l)
theorem szStp_bd (x : Tb × Tb) (l : Int) (hl : 0 ≤ l) : -1 ≤ szStp x l ∧ szStp x l ≤ l ∧ True := by
  have h1 := szSS_bd x.1 l hl
  unfold szStp
  by_cases c1 : szSS x.1 l < 0
  · rw [if_pos c1]; exact ⟨by omega, by omega, trivial⟩
  · rw [if_neg c1]
    have h2 := szSS_bd x.2 (szSS x.1 l) (by omega)
    by_cases c2 : szSS x.2 (szSS x.1 l) < 0
    · rw [if_pos c2]; exact ⟨by omega, by omega, trivial⟩
    · rw [if_neg c2]; exact ⟨by omega, by omega, trivial⟩
theorem cntStp_le (x : Tb × Tb) (l : Int) (hl : 0 ≤ l) (h : 0 ≤ szStp x l) : cntStp x + szStp x l + x.1.length + x.2.length = l := by
  unfold szStp at h ⊢
  by_cases h1 : szSS x.1 l < 0
  · rw [if_pos h1] at h; omega
  · rw [if_neg h1] at h ⊢
    by_cases h2 : szSS x.2 (szSS x.1 l) < 0
    · rw [if_pos h2] at h; omega
    · rw [if_neg h2]
      have e1 := cntSS_le x.1 l hl (by omega)
      have e2 := cntSS_le x.2 (szSS x.1 l) (by omega) (by omega)
      unfold cntStp
      omega
def StpSz (x : Tb × Tb) : Prop := (x.1.length ≤ 1048576 ∧ ∀ r, r ∈ x.1 → r.length ≤ 1048576) ∧ x.2.length ≤ 1048576 ∧ ∀ r, r ∈ x.2 → r.length ≤ 1048576
theorem StpSz.mk' (x : Tb × Tb) {s l : Int} (h : cntStp x + s + x.1.length + x.2.length = l) (hs : 0 ≤ s) (hl : l ≤ 1048576) : StpSz x := by
  have h1 := cntSS_nn x.1
  have h2 := cntSS_nn x.2
  unfold cntStp at h
  exact ⟨⟨by omega, fun r hr => by have := len_le_cntSS hr; omega⟩, by omega, fun r hr => by have := len_le_cntSS hr; omega⟩

theorem New.setCell_low {α : Type} {R : OwnRel α} (hR : Held R) {lo : Nat} {w : World} {v : Value} {x : α} (h : New R lo w v x) {p : Addr} (hp : p.block < lo) (u : Value) : New R lo (w.setCell p u) v x := by
  obtain ⟨F, hF, hn, hge⟩ := h
  exact ⟨F, hR.keep _ _ _ _ _ hF fun b hb => Below.heap_setCell _ _ _ _ (fun e => by have := hge b hb; omega), hn, hge⟩
def markStp (x : Tb × Tb) (k : Int) : Tb × Tb := (markSS x.1 k, markSS x.2 (k + cntSS x.1))
end Go.Proofs.Ytlkgkfgpnnahdaa
end

section
/-
  IsStep, both sides.
-/
namespace Go.Proofs.Ytlkgkfgpnnahdaa
open Go.RowKit Go.Deep Go.Sd

def prodIs (a b c : List (List Int)) : Bool := ttOk a b && decide (ttV a b = c)
def stepM (a b : List (List Int)) (x : Tb × Tb) : Bool := isMat a && (isMat b && (countM x.1 && (countM x.2 && (prodIs x.1 x.2 a && prodIs x.2 x.1 b))))

set_option maxHeartbeats 400000 in
theorem isProduct_c {w : World} {va vb vc : Value} {a b c : List (List Int)} (h1 : Tab w va a) (h2 : Tab w vb b) (h3 : Tab w vc c) :
    Calls Try.prog 108 #[va, vb, vc] w fun e w' => e = .returned (.bool (prodIs a b c)) ∧ Below w.heap.size w w' := by
  have Hc := Lib.hid (impl_TableTimes_c h1 h2)
  have He := Lib.hid (fun w1 v (hb : Below w.heap.size w w1) (h : Tab w1 v (ttV a b)) => impl_EqualMatrix_c h (Tab.frame _ _ _ _ h3 hb))
  have H := Lib.hid (show prodIs a b c = (ttOk a b && decide (ttV a b = c)) from rfl)
  obtain ⟨_, _, rfl, _, _, _⟩ := h1.shape
  obtain ⟨_, _, rfl, _, _, _⟩ := h2.shape
  obtain ⟨_, _, rfl, _, _, _⟩ := h3.shape
  clear h1 h2 h3
  generalize prodIs a b c = T at H ⊢
  generalize decide (ttV a b = c) = d at H He
  generalize ttOk a b = k at H Hc
  go_enter Try.func108, Try.ntmps108
  go_wp2_with fail
  refine Hc.out.mono ?_
  rintro e w1 ⟨v1, rfl, hn1, hb1⟩
  have Hb1 := Lib.hid hb1
  have He1 := Lib.hid (He.out w1 v1 hb1 hn1.tab)
  obtain ⟨_, _, _, rfl⟩ := hn1.slice
  clear hn1 hb1 He
  cases k with
  | false =>
    go_wp2
    go_ret
    exact ⟨by rw [H.out]; rfl, Hb1.out⟩
  | true =>
    go_wp2_with fail
    refine He1.out.mono ?_
    rintro e w2 ⟨rfl, hd⟩
    have Hb2 := Lib.hid (Hb1.out.trans (hd.below _))
    clear hd
    go_wp2
    go_ret
    exact ⟨by rw [H.out]; rfl, Hb2.out⟩
set_option maxHeartbeats 1000000 in
theorem impl_IsStep_c {w : World} {va vb vx : Value} {a b : List (List Int)} {x : Tb × Tb} (h1 : Tab w va a) (h2 : Tab w vb b) (h3 : StepR w vx x) :
    Calls Try.prog 173 #[va, vb, vx] w fun e w' => e = .returned (.bool (stepM a b x)) ∧ Below w.heap.size w w' := by
  have H := Lib.hid (show stepM a b x = (isMat a && (isMat b && (countM x.1 && (countM x.2 && (prodIs x.1 x.2 a && prodIs x.2 x.1 b))))) from rfl)
  generalize stepM a b x = T at H ⊢
  obtain ⟨v1, v2, rfl, t1, t2⟩ := h3
  have Ha := Lib.hid (fun w1 (hb : Below w.heap.size w w1) => impl_IsMatrix_c (Tab.frame _ _ _ _ h1 hb))
  have Hb := Lib.hid (fun w1 (hb : Below w.heap.size w w1) => impl_IsMatrix_c (Tab.frame _ _ _ _ h2 hb))
  have Hr := Lib.hid (fun w1 (hb : Below w.heap.size w w1) => isCounted_c (Tab.frame _ _ _ _ t1 hb))
  have Hs := Lib.hid (fun w1 (hb : Below w.heap.size w w1) => isCounted_c (Tab.frame _ _ _ _ t2 hb))
  have Hp := Lib.hid (fun w1 (hb : Below w.heap.size w w1) => isProduct_c (Tab.frame _ _ _ _ t1 hb) (Tab.frame _ _ _ _ t2 hb) (Tab.frame _ _ _ _ h1 hb))
  have Hq := Lib.hid (fun w1 (hb : Below w.heap.size w w1) => isProduct_c (Tab.frame _ _ _ _ t2 hb) (Tab.frame _ _ _ _ t1 hb) (Tab.frame _ _ _ _ h2 hb))
  generalize isMat a = ma at *
  generalize isMat b = mb at *
  generalize countM x.1 = cr at *
  generalize countM x.2 = cs at *
  generalize prodIs x.1 x.2 a = pr at *
  generalize prodIs x.2 x.1 b = ps at *
  obtain ⟨_, _, rfl, _, _, _⟩ := h1.shape
  obtain ⟨_, _, rfl, _, _, _⟩ := h2.shape
  obtain ⟨xa, xc, rfl, _, _, _⟩ := t1.shape
  obtain ⟨ya, yc, rfl, _, _, _⟩ := t2.shape
  clear h1 h2 t1 t2
  go_enter Try.func173, Try.ntmps173
  go_wp2_with fail
  obtain ⟨w1, ex, A0, c0, c1, m1⟩ := boxA_ex w 41 (.slice xa x.1.length xc) (.slice ya x.2.length yc)
  change Calls Try.prog _ _ (w.alloc (.cells #[.slice xa x.1.length xc, .slice ya x.2.length yc] 41)) _
  rw [ex]
  clear ex
  refine (Ha.out _ A0).mono ?_
  rintro e w' ⟨rfl, rfl⟩
  cases ma with
  | false => go_wp2; go_ret; exact ⟨by rw [H.out]; rfl, A0⟩
  | true =>
  go_wp2_with fail
  refine (Hb.out _ A0).mono ?_
  rintro e w' ⟨rfl, rfl⟩
  cases mb with
  | false => go_wp2; go_ret; exact ⟨by rw [H.out]; rfl, A0⟩
  | true =>
  go_wp2_with fail
  refine (Hr.out _ A0).mono ?_
  rintro e w' ⟨rfl, rfl⟩
  cases cr with
  | false => go_wp2; go_ret; exact ⟨by rw [H.out]; rfl, A0⟩
  | true =>
  go_wp2_with fail
  refine (Hs.out _ A0).mono ?_
  rintro e w' ⟨rfl, rfl⟩
  cases cs with
  | false => go_wp2; go_ret; exact ⟨by rw [H.out]; rfl, A0⟩
  | true =>
  go_wp2_with fail
  refine (Hp.out _ A0).mono ?_
  rintro e w2 ⟨rfl, hb2⟩
  replace c0 := (hb2.cell (p := ⟨w.heap.size, 0, none⟩) m1).trans c0
  replace c1 := (hb2.cell (p := ⟨w.heap.size, 1, none⟩) m1).trans c1
  replace A0 := A0.trans (hb2.mono A0.size)
  clear hb2
  cases pr with
  | false => go_wp2; go_ret; exact ⟨by rw [H.out]; rfl, A0⟩
  | true =>
  go_wp2_with fail
  refine (Hq.out _ A0).mono ?_
  rintro e w3 ⟨rfl, hb3⟩
  replace A0 := A0.trans (hb3.mono A0.size)
  clear hb3
  go_wp2
  go_ret
  exact ⟨by rw [H.out]; rfl, A0⟩
set_option maxHeartbeats 1000000 in
theorem spec_IsStep_c {w : World} {va vb vx : Value} {a b : List (List Int)} {x : Tb × Tb} (h1 : Tab w va a) (h2 : Tab w vb b) (h3 : StepR w vx x) :
    Calls Try.prog 176 #[va, vb, vx] w fun e w' => e = .returned (.bool (stepM a b x)) ∧ Below w.heap.size w w' := by
  have H := Lib.hid (show stepM a b x = (isMat a && (isMat b && (countM x.1 && (countM x.2 && ((ttOk x.1 x.2 && decide (ttV x.1 x.2 = a)) && (ttOk x.2 x.1 && decide (ttV x.2 x.1 = b))))))) from rfl)
  generalize stepM a b x = T at H ⊢
  obtain ⟨v1, v2, rfl, t1, t2⟩ := h3
  have Ha := Lib.hid (fun w1 (hb : Below w.heap.size w w1) => spec_IsMatrix_c (Tab.frame _ _ _ _ h1 hb))
  have Hb := Lib.hid (fun w1 (hb : Below w.heap.size w w1) => spec_IsMatrix_c (Tab.frame _ _ _ _ h2 hb))
  have Hr := Lib.hid (fun w1 (hb : Below w.heap.size w w1) => l19Rows_c (Tab.frame _ _ _ _ t1 hb))
  have Hs := Lib.hid (fun w1 (hb : Below w.heap.size w w1) => l19Rows_c (Tab.frame _ _ _ _ t2 hb))
  have Hp := Lib.hid (fun w1 (hb : Below w.heap.size w w1) => spec_TableTimes_c (Tab.frame _ _ _ _ t1 hb) (Tab.frame _ _ _ _ t2 hb))
  have Hq := Lib.hid (fun w1 (hb : Below w.heap.size w w1) => spec_TableTimes_c (Tab.frame _ _ _ _ t2 hb) (Tab.frame _ _ _ _ t1 hb))
  have Hpe := Lib.hid (fun w1 v (hb : Below w.heap.size w w1) (h : Tab w1 v (ttV x.1 x.2)) => spec_EqualMatrix_c h (Tab.frame _ _ _ _ h1 hb))
  have Hqe := Lib.hid (fun w1 v (hb : Below w.heap.size w w1) (h : Tab w1 v (ttV x.2 x.1)) => spec_EqualMatrix_c h (Tab.frame _ _ _ _ h2 hb))
  generalize isMat a = ma at *
  generalize isMat b = mb at *
  generalize countM x.1 = cr at *
  generalize countM x.2 = cs at *
  generalize decide (ttV x.1 x.2 = a) = d1 at *
  generalize decide (ttV x.2 x.1 = b) = d2 at *
  generalize ttV x.1 x.2 = z1 at *
  generalize ttV x.2 x.1 = z2 at *
  generalize ttOk x.1 x.2 = k1 at *
  generalize ttOk x.2 x.1 = k2 at *
  obtain ⟨_, _, rfl, _, _, _⟩ := h1.shape
  obtain ⟨_, _, rfl, _, _, _⟩ := h2.shape
  obtain ⟨xa, xc, rfl, _, _, _⟩ := t1.shape
  obtain ⟨ya, yc, rfl, _, _, _⟩ := t2.shape
  clear h1 h2 t1 t2
  go_enter Try.func176, Try.ntmps176
  go_wp2_with fail
  obtain ⟨w1, ex, A0, c0, c1, m1⟩ := boxA_ex w 41 (.slice xa x.1.length xc) (.slice ya x.2.length yc)
  change Calls Try.prog _ _ (w.alloc (.cells #[.slice xa x.1.length xc, .slice ya x.2.length yc] 41)) _
  rw [ex]
  clear ex
  refine (Ha.out _ A0).mono ?_
  rintro e w' ⟨rfl, rfl⟩
  cases ma with
  | false => go_wp2; go_ret; exact ⟨by rw [H.out]; rfl, A0⟩
  | true =>
  go_wp2_with fail
  refine (Hb.out _ A0).mono ?_
  rintro e w' ⟨rfl, rfl⟩
  cases mb with
  | false => go_wp2; go_ret; exact ⟨by rw [H.out]; rfl, A0⟩
  | true =>
  go_wp2_with fail
  refine (Hr.out _ A0).mono ?_
  rintro e w' ⟨rfl, rfl⟩
  cases cr with
  | false => go_wp2; go_ret; exact ⟨by rw [H.out]; rfl, A0⟩
  | true =>
  go_wp2_with fail
  refine (Hs.out _ A0).mono ?_
  rintro e w' ⟨rfl, rfl⟩
  cases cs with
  | false => go_wp2; go_ret; exact ⟨by rw [H.out]; rfl, A0⟩
  | true =>
  go_wp2_with fail
  refine (Hp.out _ A0).mono ?_
  rintro e w2 ⟨u1, rfl, hn2, hb2⟩
  replace c0 := (hb2.cell (p := ⟨w.heap.size, 0, none⟩) m1).trans c0
  replace c1 := (hb2.cell (p := ⟨w.heap.size, 1, none⟩) m1).trans c1
  replace A0 := A0.trans (hb2.mono A0.size)
  have R1 := hn2.tab
  obtain ⟨_, _, _, rfl⟩ := hn2.slice
  clear hb2 hn2
  have HR1 := Lib.hid R1
  clear R1
  go_wp2_with fail
  refine (Hq.out _ A0).mono ?_
  rintro e w3 ⟨u2, rfl, hn3, hb3⟩
  have HR1' := Lib.hid (Tab.frame _ _ _ _ HR1.out hb3)
  replace A0 := A0.trans (hb3.mono A0.size)
  have HR2 := Lib.hid hn3.tab
  obtain ⟨_, _, _, rfl⟩ := hn3.slice
  clear hb3 hn3 c0 c1
  cases k1 with
  | false => go_wp2; go_ret; exact ⟨by rw [H.out]; rfl, A0⟩
  | true =>
  cases k2 with
  | false => go_wp2; go_ret; exact ⟨by rw [H.out]; cases d1 <;> rfl, A0⟩
  | true =>
  go_wp2_with fail
  refine (Hpe.out _ _ A0 HR1'.out).mono ?_
  rintro e w4 ⟨rfl, hd4⟩
  have HR2' := Lib.hid (hd4.read Tab.frame HR2.out)
  replace A0 := A0.trans (hd4.below _)
  clear hd4
  cases d1 with
  | false => go_wp2; go_ret; exact ⟨by rw [H.out]; rfl, A0⟩
  | true =>
  go_wp2_with fail
  refine (Hqe.out _ _ A0 HR2'.out).mono ?_
  rintro e w5 ⟨rfl, hd5⟩
  replace A0 := A0.trans (hd5.below _)
  clear hd5
  go_wp2
  go_ret
  exact ⟨by rw [H.out]; rfl, A0⟩
end Go.Proofs.Ytlkgkfgpnnahdaa
end

section
/-
  FindStep's model: the tables with digits in base 3, the search.
-/
namespace Go.Proofs.Ytlkgkfgpnnahdaa
open Go.RowKit Go.Deep Go.Sd

def dig (n m : Nat) : Int := ((n / 3 ^ m % 3 : Nat) : Int)
theorem dig_bd (n m : Nat) : 0 ≤ dig n m ∧ dig n m ≤ 2 := by unfold dig; omega
def tabN (n p r : Nat) : Tb := tabOf p r (fun i j => dig n (p * r - 1 - i * r - j))
def tabsN (p r : Nat) : List Tb := (List.range (3 ^ (p * r))).map fun n => tabN n p r
def findS (P : Tb × Tb → Bool) (r : Tb) : List Tb → Option (Tb × Tb)
  | [] => none
  | s :: l => if P (r, s) = true then some (r, s) else findS P r l
def findR (P : Tb × Tb → Bool) (ss : List Tb) : List Tb → Option (Tb × Tb)
  | [] => none
  | r :: l => match findS P r ss with
    | some x => some x
    | none => findR P ss l
def findOk (a b : Tb) : Bool := isMat a && (isMat b && (decide (a.length ≤ 2) && decide (b.length ≤ 2)))
def findV (a b : Tb) : Option (Tb × Tb) := if findOk a b = true then findR (stepM a b) (tabsN b.length a.length) (tabsN a.length b.length) else none
def found (o : Option (Tb × Tb)) : Tb × Tb := o.getD ([], [])

theorem tabN_len (n p r : Nat) : (tabN n p r).length = p := tabOf_len _ _ _
theorem tabN_row {n p r : Nat} {x : List Int} (h : x ∈ tabN n p r) : x.length = r := mem_tabOf h
theorem tabN_bd {n p r : Nat} {x : List Int} (h : x ∈ tabN n p r) {y : Int} (hy : y ∈ x) : 0 ≤ y ∧ y ≤ 2 := by
  obtain ⟨i, _, rfl⟩ := List.mem_map.1 h
  obtain ⟨j, _, rfl⟩ := List.mem_map.1 hy
  exact dig_bd _ _
theorem tabN_Bd (n p r : Nat) : Bd 1000000 (tabN n p r) := fun x hx y hy => by have := tabN_bd hx hy; omega
theorem tabN_head {n p r : Nat} (hp : 0 < p) : ((tabN n p r).headD []).length = r := by
  have hl := tabN_len n p r
  cases h : tabN n p r with
  | nil => rw [h] at hl; simp at hl; omega
  | cons x xs => exact tabN_row (n := n) (p := p) (by rw [h]; simp)
theorem tabN_count (n p r : Nat) : countM (tabN n p r) = true := by
  unfold countM
  simp only [List.all_eq_true]
  intro x hx y hy
  have := tabN_bd hx hy
  unfold nnOk
  exact decide_eq_true (by omega)
theorem tabN_tab {n p r : Nat} (hp : 0 < p) (hp9 : p ≤ 9) (hr : 0 < r) (hr9 : r ≤ 9) : isTab r (tabN n p r) = true := by
  unfold isTab
  rw [tabN_len]
  simp only [Bool.and_eq_true, decide_eq_true_eq, List.all_eq_true]
  refine ⟨by omega, fun x hx => ?_⟩
  rw [tabRow_yes (tabN_row hx)]
  simp only [List.all_eq_true]
  intro y hy
  have := tabN_bd hx hy
  unfold tabEnt
  exact decide_eq_true (by omega)
theorem tabN_ok {n m p r : Nat} (hp : 0 < p) (hp9 : p ≤ 9) (hr : 0 < r) (hr9 : r ≤ 9) : ttOk (tabN n p r) (tabN m r p) = true := by
  unfold ttOk
  rw [tabN_len m, tabN_head hr, tabN_tab hp hp9 hr hr9, tabN_tab hr hr9 hp hp9]
  simp; omega
theorem prodIs_N {n m p r : Nat} (c : Tb) (hp : 0 < p) (hp9 : p ≤ 9) (hr : 0 < r) (hr9 : r ≤ 9) : prodIs (tabN n p r) (tabN m r p) c = decide (prodT (tabN n p r) (tabN m r p) p r p = c) := by
  unfold prodIs ttV
  rw [tabN_ok hp hp9 hr hr9, if_pos rfl, tabN_head hr, tabN_len, tabN_len]
  rfl
theorem stepM_N {a b : Tb} {n m p r : Nat} (ha : isMat a = true) (hb : isMat b = true) (hp : 0 < p) (hp9 : p ≤ 9) (hr : 0 < r) (hr9 : r ≤ 9) :
    stepM a b (tabN n p r, tabN m r p) = (decide (prodT (tabN n p r) (tabN m r p) p r p = a) && decide (prodT (tabN m r p) (tabN n p r) r p r = b)) := by
  unfold stepM
  rw [ha, hb, tabN_count, tabN_count, prodIs_N a hp hp9 hr hr9, prodIs_N b hr hr9 hp hp9]
  rfl
theorem isMat_len {m : Tb} (h : isMat m = true) : 0 < m.length ∧ m.length ≤ 9 := by
  unfold isMat at h
  rw [Bool.and_eq_true, decide_eq_true_eq] at h
  omega
theorem findS_in {P : Tb × Tb → Bool} {r : Tb} : ∀ {l : List Tb} {x : Tb × Tb}, findS P r l = some x → x.1 = r ∧ x.2 ∈ l
  | [], x, h => by cases h
  | s :: l, x, h => by
    unfold findS at h
    by_cases hP : P (r, s) = true
    · rw [if_pos hP] at h
      cases h
      exact ⟨rfl, by simp⟩
    · rw [if_neg hP] at h
      have := findS_in h
      exact ⟨this.1, List.mem_cons_of_mem _ this.2⟩
theorem findR_in {P : Tb × Tb → Bool} {ss : List Tb} : ∀ {l : List Tb} {x : Tb × Tb}, findR P ss l = some x → x.1 ∈ l ∧ x.2 ∈ ss
  | [], x, h => by cases h
  | r :: l, x, h => by
    unfold findR at h
    cases hf : findS P r ss with
    | some y =>
      rw [hf] at h
      cases h
      have := findS_in hf
      exact ⟨by rw [this.1]; simp, this.2⟩
    | none =>
      rw [hf] at h
      have := findR_in h
      exact ⟨List.mem_cons_of_mem _ this.1, this.2⟩
theorem tabsN_mem {p r : Nat} {t : Tb} (h : t ∈ tabsN p r) : ∃ n, t = tabN n p r := by
  obtain ⟨n, _, rfl⟩ := List.mem_map.1 h
  exact ⟨n, rfl⟩
/-- What is found is small. -/
theorem found_bd (a b : Tb) : cntStp (found (findV a b)) ≤ 1048576 := by
  have h0 : cntStp (([], []) : Tb × Tb) ≤ 1048576 := by decide
  unfold found
  cases hf : findV a b with
  | none => exact h0
  | some x =>
    unfold findV at hf
    by_cases hok : findOk a b = true
    · rw [if_pos hok] at hf
      unfold findOk at hok
      simp only [Bool.and_eq_true, decide_eq_true_eq] at hok
      have h1 := findR_in hf
      obtain ⟨n, hn⟩ := tabsN_mem h1.1
      obtain ⟨m, hm⟩ := tabsN_mem h1.2
      have e1 : cntSS x.1 ≤ 1000 := by
        rw [hn]
        exact Int.le_trans (cntSS_bd (p := 9) (r := 9) (by rw [tabN_len]; omega) (fun r hr => by rw [tabN_row hr]; omega)) (by decide)
      have e2 : cntSS x.2 ≤ 1000 := by
        rw [hm]
        exact Int.le_trans (cntSS_bd (p := 9) (r := 9) (by rw [tabN_len]; omega) (fun r hr => by rw [tabN_row hr]; omega)) (by decide)
      unfold cntStp
      simp only [Option.getD_some]
      omega
    · rw [if_neg hok] at hf
      cases hf
/-! The reference fills a table from its end. -/
def tabS (n t p r : Nat) : Tb := tabOf p r (fun i j => if t ≤ i * r + j then dig n (p * r - 1 - i * r - j) else 0)
theorem idx_lt {p r i j : Nat} (hi : i < p) (hj : j < r) : i * r + j < p * r := by
  have : (i + 1) * r ≤ p * r := Nat.mul_le_mul_right r hi
  rw [Nat.add_mul] at this
  omega
theorem tabS_start (n p r : Nat) : tabS n (p * r) p r = List.replicate p (List.replicate r 0) := by
  rw [← tabOf_const]
  exact tabOf_congr fun i hi j hj => by rw [if_neg (by have := idx_lt hi hj; omega)]
theorem tabS_end (n p r : Nat) : tabS n 0 p r = tabN n p r := tabOf_congr fun i _ j _ => by rw [if_pos (Nat.zero_le _)]
theorem tabS_row {n t p r i : Nat} (hi : i < p) : (tabS n t p r)[i]? = some (rowOf' r (fun j => if t ≤ i * r + j then dig n (p * r - 1 - i * r - j) else 0)) := by
  unfold tabS; rw [tabOf_at hi]
theorem tabS_set {n t p r : Nat} (ht : t < p * r) (hr : 0 < r) :
    (tabS n (t + 1) p r).set (t / r) ((rowOf' r (fun j => if t + 1 ≤ t / r * r + j then dig n (p * r - 1 - t / r * r - j) else 0)).set (t % r) (dig n (p * r - 1 - t))) = tabS n t p r := by
  unfold tabS
  rw [tabOf_set2 p r (fun i j => if t + 1 ≤ i * r + j then dig n (p * r - 1 - i * r - j) else 0) (t / r) (t % r)]
  refine tabOf_congr fun i hi j hj => ?_
  have hd : t / r * r + t % r = t := by rw [Nat.mul_comm]; exact Nat.div_add_mod t r
  have hm := Nat.mod_lt t hr
  by_cases h : i = t / r ∧ j = t % r
  · obtain ⟨rfl, rfl⟩ := h
    rw [if_pos ⟨rfl, rfl⟩, if_pos (by omega)]
    congr 1
    omega
  · rw [if_neg h]
    by_cases h2 : t + 1 ≤ i * r + j
    · rw [if_pos h2, if_pos (by omega)]
    · rw [if_neg h2, if_neg ?_]
      intro h3
      have e : i * r + j = t := by omega
      apply h
      subst e
      constructor
      · rw [Nat.mul_comm, Nat.mul_add_div hr, Nat.div_eq_of_lt hj]; rfl
      · rw [Nat.mul_comm, Nat.mul_add_mod, Nat.mod_eq_of_lt hj]
end Go.Proofs.Ytlkgkfgpnnahdaa
end

section
/-
  FindStep, the reference's.
-/
namespace Go.Proofs.Ytlkgkfgpnnahdaa
open Go.RowKit Go.Deep Go.Sd

set_option maxHeartbeats 1000000 in
set_option maxRecDepth 100000 in
theorem l19Table_c {w : World} {n p r : Nat} (hn : n ≤ 81) (hp0 : 0 < p) (hp : p ≤ 2) (hr0 : 0 < r) (hr : r ≤ 2) :
    Calls Try.prog 112 #[.int .i64 n, .int .i64 p, .int .i64 r] w (Makes (OTab 3 33) w (tabN n p r)) := by
  have Hz := Lib.hid (l4Zero_c (w := w) (p := p) (r := r) (by omega) (by omega))
  have hpr : p * r ≤ 4 := Nat.mul_le_mul hp hr
  have hprI : ((p : Int) * (r : Int)) = ((p * r : Nat) : Int) := by push_cast; rfl
  have HprI := Lib.hid hprI
  have hm0 : (p : Int) * (r : Int) ≤ 4 := by omega
  have hm1 : 0 ≤ (p : Int) * (r : Int) := by omega
  clear hprI
  go_enter Try.func112, Try.ntmps112
  go_wp2_with fail
  refine Hz.out.mono ?_
  rintro e w1 ⟨v1, rfl, hn1, hb1⟩
  rw [← tabS_start n p r] at hn1
  have hlen : (tabS n (p * r) p r).length = p := tabOf_len _ _ _
  obtain ⟨gb, gc, _, _, rfl, _, hgb, hgb2, _⟩ := hn1.tab_at (tabS_row hp0) (rowOf_at hr0)
  rw [hlen] at hn1 ⊢
  have Hn1 := Lib.hid hn1
  have Hb1 := Lib.hid hb1
  clear hn1 hb1 Hz hlen
  go_wp2
  go_loopg [0, 8] (p * r) (fun g nn kk wr => ∃ (t m : Nat) (x : Int), nn = .int .i64 m ∧ kk = .int .i64 x ∧ t = g ∧ x + 1 = (t : Int) ∧ t ≤ p * r ∧ m ≤ 81 ∧ Hid (m = n / 3 ^ (p * r - t)) ∧ Hid (New (OTab 3 33) w.heap.size wr (.slice (some ⟨gb, 0, none⟩) p gc) (tabS n t p r)) ∧ Hid (Below w.heap.size w wr))
  case atStart => exact ⟨p * r, n, (p : Int) * (r : Int) - 1, rfl, by go_num, rfl, by rw [HprI.out]; omega, Nat.le_refl _, hn, Lib.hid (by simp), Hn1, Hb1⟩
  case round =>
    obtain ⟨t, m, x, rfl, rfl, rfl, hx, ht, hm, HM, hnew, hbel⟩ := hrel
    clear Hn1 Hb1
    by_cases h0 : t = 0
    · subst h0
      have HF := Lib.hid (show New (OTab 3 33) w.heap.size wr (.slice (some ⟨gb, 0, none⟩) p gc) (tabN n p r) from by rw [← tabS_end]; exact hnew.out)
      have hx1 : x = -1 := by omega
      subst hx1
      clear hnew HM
      go_wp2
      go_ret
      exact ⟨_, rfl, HF.out, hbel.out⟩
    · obtain ⟨s, rfl⟩ : ∃ s, t = s + 1 := ⟨t - 1, by omega⟩
      obtain rfl : x = (s : Int) := by omega
      have hi : s / r < p := by rw [Nat.div_lt_iff_lt_mul hr0]; omega
      have hj : s % r < r := Nat.mod_lt _ hr0
      have HDm := Lib.hid (show (m : Int).tmod 3 = dig n (p * r - 1 - s) from by
        rw [Int.tmod_eq_emod_of_nonneg (Int.natCast_nonneg _), HM.out, show p * r - (s + 1) = p * r - 1 - s from by omega]
        unfold dig; push_cast; rfl)
      have HM2 := Lib.hid (show m / 3 = n / 3 ^ (p * r - s) from by
        rw [HM.out, Nat.div_div_eq_div_mul, ← Nat.pow_succ, show (p * r - (s + 1)).succ = p * r - s from by omega])
      have HM3 := Lib.hid (show (m : Int) / 3 = ((m / 3 : Nat) : Int) from by push_cast; rfl)
      have HQ := Lib.hid (show (s : Int) / (r : Int) = ((s / r : Nat) : Int) from by push_cast; rfl)
      have HR2 := Lib.hid (show (s : Int) % (r : Int) = ((s % r : Nat) : Int) from by push_cast; rfl)
      have HR := Lib.hid (show (s : Int).tmod (r : Int) = ((s % r : Nat) : Int) from by rw [Int.tmod_eq_emod_of_nonneg (Int.natCast_nonneg _)]; push_cast; rfl)
      obtain ⟨b', c', sb, sc, hv, _, _, _, hcl1, _, hsb, _, hcl2, hfr, hst⟩ := hnew.out.tab_at (tabS_row hi) (rowOf_at hj)
      obtain rfl : b' = gb := by simp at hv; exact hv.1.symm
      rw [rowOf_len] at hcl1
      have Hst := Lib.hid (show New (OTab 3 33) w.heap.size (wr.setCell ⟨sb, s % r, none⟩ (.int .i64 (dig n (p * r - 1 - s)))) _ (tabS n s p r) from by have := hst (dig n (p * r - 1 - s)); rw [tabS_set (by omega) hr0] at this; exact this)
      have Hb3 := Lib.hid (hbel.out.setCell (p := ⟨sb, s % r, none⟩) hsb (.int .i64 (dig n (p * r - 1 - s))))
      have hd0 := dig_bd n (p * r - 1 - s)
      have hs1 : s < p * r := by omega
      have hDm := HDm.out
      have hQ := HQ.out
      have hR := HR.out
      have hR2 := HR2.out
      have hrn : r ≠ 0 := by omega
      generalize hqq : s / r = i at *
      generalize hrr : s % r = j at *
      have hii : (i : Int) < (p : Int) := Int.ofNat_lt.2 hi
      have hjj : (j : Int) < (r : Int) := Int.ofNat_lt.2 hj
      generalize dig n (p * r - 1 - s) = D at *
      have hWi : IntKind.i64.wrap (i : Int) = (i : Int) := IntWalk.i64_in _ ⟨by omega, by omega⟩
      have hWj : IntKind.i64.wrap (j : Int) = (j : Int) := IntWalk.i64_in _ ⟨by omega, by omega⟩
      have hWD : IntKind.i64.wrap D = D := IntWalk.i64_in _ ⟨by omega, by omega⟩
      clear hv hst hnew hbel HM hqq hrr HDm HQ HR HR2
      go_wp2
      go_still_tail 12, (by kernel_rfl)
      go_wp2
      go_roundg s
      case measure => omega
      case rel => exact ⟨s, m / 3, (s : Int) - 1, by first | rfl | (rw [← HM3.out]; rfl) | (simp only [← HM3.out]; go_num), by go_num, rfl, by omega, by omega, by omega, HM2, Lib.hid (New.heap (OTab.kept _ _) Hst.out rfl), Lib.hid Hb3.out.drew⟩
end Go.Proofs.Ytlkgkfgpnnahdaa
end

section
/-
  The laws' comparisons of rows and tables.
-/
namespace Go.Proofs.Ytlkgkfgpnnahdaa
open Go.RowKit Go.Deep Go.Sd

set_option maxHeartbeats 400000 in
theorem sameInts_c {w : World} {v1 v2 : Value} {xs ys : List Int} (h1 : Ints w v1 xs) (h2 : Ints w v2 ys) :
    Calls Try.prog 96 #[v1, v2] w (Reads w (.bool (decide (xs = ys)))) := by
  have hlen1 := h1.len
  have hlen2 := h2.len
  obtain ⟨a1, c1, rfl, _, _, hc1⟩ := h1.shape
  obtain ⟨a2, c2, rfl, _, _, hc2⟩ := h2.shape
  clear h1 h2
  by_cases hl : xs.length = ys.length
  · have H0 := Lib.hid (show decide (xs = ys) = eqLoop (xs.drop 0) (ys.drop 0) from (eqLoop_iff xs ys hl).symm)
    have hl1 : ((ys.length : Int) != ys.length) = false := by simp
    have hl2 := Lib.hid hl
    obtain ⟨n, hn⟩ : ∃ n, n = xs.length := ⟨_, rfl⟩
    rw [← hl, ← hn]
    have hnb : n ≤ 9223372036854775807 := by omega
    have hl3 := Lib.hid hn
    clear hl hn
    go_enter Try.func96, Try.ntmps96
    go_wp2
    go_loopg [5] n (fun g i wr => ∃ (k : Nat), i = .int .i64 k ∧ k + g = n ∧ Hid (decide (xs = ys) = eqLoop (xs.drop k) (ys.drop k)) ∧ Drawn w wr)
    case atStart => exact ⟨0, rfl, by omega, H0, Drawn.refl _⟩
    case round =>
      obtain ⟨k, rfl, hk, H, hdr⟩ := hrel
      by_cases hlt : k < n
      · obtain ⟨b1, o1, rfl, _, hx1⟩ := hc1 (by have := hl3.out; omega)
        obtain ⟨b2, o2, rfl, _, hx2⟩ := hc2 (by have := hl3.out; have := hl2.out; omega)
        obtain ⟨x, hx, hdx⟩ := at_lt (xs := xs) (k := k) (by have := hl3.out; omega)
        obtain ⟨y, hy, hdy⟩ := at_lt (xs := ys) (k := k) (by have := hl3.out; have := hl2.out; omega)
        obtain ⟨u1, hu1, rfl⟩ := hx1 k x hx
        obtain ⟨u2, hu2, rfl⟩ := hx2 k y hy
        rw [← hdr.cell] at hu1 hu2
        have H1 := Lib.hid (show decide (xs = ys) = if x = y then eqLoop (xs.drop (k + 1)) (ys.drop (k + 1)) else false from by rw [H.out, hdx, hdy]; rfl)
        clear H hx hdx hy hdy hx1 hx2 hc1 hc2 H0
        by_cases hxy : x = y
        · have H2 := Lib.hid (show decide (xs = ys) = eqLoop (xs.drop (k + 1)) (ys.drop (k + 1)) from by rw [H1.out, if_pos hxy])
          have hd : (x != y) = false := by simp [hxy]
          have hi1 : (k : Int) < (n : Int) := by omega
          clear hxy H1
          go_wp2
          go_quiet (fail)
          go_wp2
          go_roundg (n - (k + 1))
          case measure => omega
          case rel => exact ⟨k + 1, by go_num, by omega, H2, hdr.drewN _⟩
        · have H2 := Lib.hid (show decide (xs = ys) = false from by rw [H1.out, if_neg hxy])
          have hd : (x != y) = true := by simp [hxy]
          have hi1 : (k : Int) < (n : Int) := by omega
          clear hxy H1
          go_wp2
          go_quiet (fail)
          go_wp2
          go_ret
          exact ⟨by rw [H2.out]; rfl, hdr.drewN _⟩
      · have H1 := Lib.hid (show decide (xs = ys) = true from by rw [H.out, drop_len (by have := hl3.out; omega)]; rfl)
        clear H
        go_wp2
        go_ret
        exact ⟨by rw [H1.out]; rfl, hdr⟩
  · have H := Lib.hid (show decide (xs = ys) = false from by simp; intro h; exact hl (by rw [h]))
    have hl1 : ((xs.length : Int) != ys.length) = true := by simp; omega
    go_enter Try.func96, Try.ntmps96
    go_wp2
    go_ret
    exact ⟨by rw [H.out]; rfl, Drawn.refl _⟩
set_option maxHeartbeats 400000 in
theorem sameLists_c {w : World} {v1 v2 : Value} {xs ys : List (List Int)} (h1 : Tab w v1 xs) (h2 : Tab w v2 ys) :
    Calls Try.prog 20 #[v1, v2] w (Reads w (.bool (decide (xs = ys)))) := by
  have hlen1 := h1.len
  have hlen2 := h2.len
  obtain ⟨a1, c1, rfl, _, _, hc1⟩ := h1.shape
  obtain ⟨a2, c2, rfl, _, _, hc2⟩ := h2.shape
  clear h1 h2
  by_cases hl : xs.length = ys.length
  · have H0 := Lib.hid (show decide (xs = ys) = eqLoopT (xs.drop 0) (ys.drop 0) from (eqLoopT_iff xs ys hl).symm)
    have hl2 := Lib.hid hl
    obtain ⟨n, hn⟩ : ∃ n, n = xs.length := ⟨_, rfl⟩
    rw [← hl, ← hn]
    have hnb : n ≤ 9223372036854775807 := by omega
    have hl3 := Lib.hid hn
    clear hl hn
    go_enter Try.func20, Try.ntmps20
    go_wp2
    go_loopg [5] n (fun g i wr => ∃ (k : Nat), i = .int .i64 k ∧ k + g = n ∧ Hid (decide (xs = ys) = eqLoopT (xs.drop k) (ys.drop k)) ∧ Drawn w wr)
    case atStart => exact ⟨0, rfl, by omega, H0, Drawn.refl _⟩
    case round =>
      obtain ⟨k, rfl, hk, H, hdr⟩ := hrel
      by_cases hlt : k < n
      · obtain ⟨b1, o1, rfl, _, hx1⟩ := hc1 (by have := hl3.out; omega)
        obtain ⟨b2, o2, rfl, _, hx2⟩ := hc2 (by have := hl3.out; have := hl2.out; omega)
        obtain ⟨x, hx, hdx⟩ := at_lt (xs := xs) (k := k) (by have := hl3.out; omega)
        obtain ⟨y, hy, hdy⟩ := at_lt (xs := ys) (k := k) (by have := hl3.out; have := hl2.out; omega)
        obtain ⟨u1, hu1, hr1⟩ := hx1 k x hx
        obtain ⟨u2, hu2, hr2⟩ := hx2 k y hy
        rw [← hdr.cell] at hu1 hu2
        have H1 := Lib.hid (show decide (xs = ys) = if x = y then eqLoopT (xs.drop (k + 1)) (ys.drop (k + 1)) else false from by rw [H.out, hdx, hdy]; rfl)
        have hi1 : (k : Int) < (n : Int) := by omega
        have Hc := Lib.hid (fun n => Reads.quiet (sameInts_c ((hdr.read Ints.frame hr1).dn n) ((hdr.read Ints.frame hr2).dn n)))
        clear H hx hdx hy hdy hx1 hx2 hc1 hc2 H0 hr1 hr2
        by_cases hxy : x = y
        · have H2 := Lib.hid (show decide (xs = ys) = eqLoopT (xs.drop (k + 1)) (ys.drop (k + 1)) from by rw [H1.out, if_pos hxy])
          have hd : decide (x = y) = true := by simp [hxy]
          rw [hd] at Hc
          clear hxy H1 hd
          go_wp2
          go_quiet ((go_at_call 96; exact Hc.out _))
          go_wp2
          go_roundg (n - (k + 1))
          case measure => omega
          case rel => exact ⟨k + 1, by go_num, by omega, H2, hdr.drewN _⟩
        · have H2 := Lib.hid (show decide (xs = ys) = false from by rw [H1.out, if_neg hxy])
          have hd : decide (x = y) = false := by simp [hxy]
          rw [hd] at Hc
          clear hxy H1 hd
          go_wp2
          go_quiet ((go_at_call 96; exact Hc.out _))
          go_wp2
          go_ret
          exact ⟨by rw [H2.out]; rfl, hdr.drewN _⟩
      · have H1 := Lib.hid (show decide (xs = ys) = true from by rw [H.out, drop_len (by have := hl3.out; omega)]; rfl)
        clear H
        go_wp2
        go_ret
        exact ⟨by rw [H1.out]; rfl, hdr⟩
  · have H := Lib.hid (show decide (xs = ys) = false from by simp; intro h; exact hl (by rw [h]))
    have hl1 : ((xs.length : Int) != ys.length) = true := by simp; omega
    go_enter Try.func20, Try.ntmps20
    go_wp2
    go_ret
    exact ⟨by rw [H.out]; rfl, Drawn.refl _⟩

end Go.Proofs.Ytlkgkfgpnnahdaa
end

section
/-
  The draws of lags: two small matrices that are often linked; steps compared.
-/
namespace Go.Proofs.Ytlkgkfgpnnahdaa
open Go.RowKit Go.Deep Go.Sd
set_option linter.unusedSimpArgs false
theorem times_N {w : World} {va vb : Value} {n m p q : Nat} (h1 : Tab w va (tabN n p q)) (h2 : Tab w vb (tabN m q p)) (hp0 : 0 < p) (hq0 : 0 < q) (hp : p ≤ 2) (hq : q ≤ 2) :
    Calls Try.prog 114 #[va, vb, .int .i64 p] w (Makes (OTab 3 33) w (prodT (tabN n p q) (tabN m q p) p q p)) :=
  l4Times_c h1 h2 (tabN_len _ _ _) (fun _ h => tabN_row h) (tabN_len _ _ _) (fun _ h => tabN_row h) hp0 hq0 hp0 (by omega) (by omega) (by omega) (tabN_Bd _ _ _) (tabN_Bd _ _ _)
theorem l19T22 {w : World} {n : Nat} (hn : n ≤ 81) : Calls Try.prog 112 #[.int .i64 n, .int .i64 2, .int .i64 2] w (Makes (OTab 3 33) w (tabN n 2 2)) := l19Table_c (p := 2) (r := 2) hn (by decide) (by decide) (by decide) (by decide)
theorem l19T12 {w : World} {n : Nat} (hn : n ≤ 81) : Calls Try.prog 112 #[.int .i64 n, .int .i64 1, .int .i64 2] w (Makes (OTab 3 33) w (tabN n 1 2)) := l19Table_c (p := 1) (r := 2) hn (by decide) (by decide) (by decide) (by decide)
theorem l19T21 {w : World} {n : Nat} (hn : n ≤ 81) : Calls Try.prog 112 #[.int .i64 n, .int .i64 2, .int .i64 1] w (Makes (OTab 3 33) w (tabN n 2 1)) := l19Table_c (p := 2) (r := 1) hn (by decide) (by decide) (by decide) (by decide)
/-- Two tables drawn. -/
def TwoP (lo : Nat) (w' : World) (v vb : Value) : Prop := ∃ a b : List (List Int), (1 ≤ a.length ∧ a.length ≤ 4) ∧ Far lo w' v a ∧ Far lo w' vb b
set_option maxHeartbeats 4000000 in
set_option maxRecDepth 100000 in
theorem l19Two_c {w : World} {vc : Value} {xs : List Int} (h : BytR w vc xs) :
    Calls Try.prog 101 #[vc] w fun e w' => ∃ v vb : Value, e = .returned (.tuple #[v, vb]) ∧ TwoP w.heap.size w' v vb ∧ Below w.heap.size w w' := by
  have HN := Lib.hid (l1New_c h)
  have HK := Lib.hid (fun w' (hb : Below w.heap.size w w') => BytR.frame _ _ _ _ h hb)
  obtain ⟨a, c, rfl, -⟩ := h.cellsB
  clear h
  go_enter Try.func101, Try.ntmps101
  go_wp2_with fail
  (with_reducible refine HN.out.mono ?_)
  rintro e w1 ⟨rfl, ⟨hh, hs⟩, hb⟩
  have HB1 := Lib.hid hb
  have hc : Cur w.heap.size w1 w.heap.size (.slice a xs.length c) xs.length [] := ⟨0, hh, Nat.zero_le _, hs⟩
  have HP := Lib.hid (l1Below_i (z := 81) (fun w' hb' => HK.out w' (HB1.out.trans hb')) hc HB1.out.size (by decide) (by decide))
  clear hs hb HN hc
  go_wp2_with fail
  (with_reducible refine HP.out.mono ?_)
  rintro e w2 ⟨x, rfl, hx, hc, hb, -⟩
  have HB2 := Lib.hid (HB1.out.trans hb)
  have HC2 := Lib.hid hc
  have HT := Lib.hid (l19T22 (w := w2) (n := x) (by have : x < 81 := hx; omega))
  clear hc hb HP HB1
  go_wp2_with fail
  (with_reducible refine HT.out.mono ?_)
  rintro e w3 ⟨vr, rfl, hn, hb⟩
  have HC3 := Lib.hid (HC2.out.new (OTab.kept 3 33).held hb HB2.out.size hn)
  have HB3 := Lib.hid (HB2.out.trans (hb.mono HB2.out.size))
  obtain ⟨ra, rc, rfl, -⟩ := hn.tab.shape
  rw [tabN_len] at HC3 ⊢
  have HP := Lib.hid (l1Below_i (z := 81) (fun w' hb' => HK.out w' (HB3.out.trans hb')) HC3.out HB3.out.size (by decide) (by decide))
  clear hn hb HT HC2 HB2 hx HC3
  go_wp2_with fail
  (with_reducible refine HP.out.mono ?_)
  rintro e w4 ⟨y, rfl, hy, hc, hb, -⟩
  have HB4 := Lib.hid (HB3.out.trans hb)
  have HC4 := Lib.hid hc
  have HT := Lib.hid (l19T22 (w := w4) (n := y) (by have : y < 81 := hy; omega))
  clear hc hb HP HB3
  go_wp2_with fail
  (with_reducible refine HT.out.mono ?_)
  rintro e w5 ⟨vs, rfl, hn, hb⟩
  have HC5 := Lib.hid (HC4.out.new (OTab.kept 3 33).held hb HB4.out.size hn)
  have HB5 := Lib.hid (HB4.out.trans (hb.mono HB4.out.size))
  obtain ⟨sa, sc, rfl, -⟩ := hn.tab.shape
  rw [tabN_len] at HC5 ⊢
  have HP := Lib.hid (l1Below_i (z := 4) (fun w' hb' => HK.out w' (HB5.out.trans hb')) HC5.out HB5.out.size (by decide) (by decide))
  clear hn hb HT HC4 HB4 hy HC5
  go_wp2_with fail
  (with_reducible refine HP.out.mono ?_)
  rintro e w6 ⟨t, rfl, ht, hc, hb, -⟩
  have HB6 := Lib.hid (HB5.out.trans hb)
  have HC6 := Lib.hid hc
  have hz6 : w.heap.size ≤ w6.heap.size := HB6.out.size
  clear hc hb HP HB5
  by_cases ht0 : t = 0
  · have t0 : ((t : Int) == 0) = true := by simp [ht0]
    have HD := Lib.hid (show Calls Try.prog 165 #[.pointer (some ⟨w.heap.size, 0, none⟩), .int .i64 2] w6 _ from l4Draw_c (most := 2) (fun w' hb' => HK.out w' (HB6.out.trans hb')) HC6.out hz6 (by omega) (by omega))
    go_wp2_with fail
    (with_reducible refine HD.out.mono ?_)
    rintro e w7 ⟨v7, rfl, m, hm, hc, hb⟩
    have HB7 := Lib.hid (HB6.out.trans hb)
    have Hm := Lib.hid hm
    have HD2 := Lib.hid (show Calls Try.prog 165 #[.pointer (some ⟨w.heap.size, 0, none⟩), .int .i64 3] w7 _ from l4Draw_c (most := 3) (fun w' hb' => HK.out w' (HB7.out.trans hb')) hc HB7.out.size (by omega) (by omega))
    obtain ⟨ma, mc, rfl, -⟩ := (hc.out.headNew).tab.shape
    clear hm hc hb HD HC6 HB6 hz6
    generalize hml : m.length = ml at HD2 ⊢
    clear hml
    go_wp2_with fail
    (with_reducible refine HD2.out.mono ?_)
    rintro e w8 ⟨v8, rfl, m2, -, hc, hb⟩
    have HB8 := Lib.hid (HB7.out.trans hb)
    have HTw := Lib.hid (show TwoP w.heap.size w8 (.slice ma ml mc) v8 from ⟨m, m2, ⟨(isMat_sq Hm.out.1).2.1, Hm.out.2.1⟩, hc.farOf (by simp), hc.farOf (by simp)⟩)
    clear hc hb HD2 HB7
    go_wp2
    go_ret2
    exact ⟨_, _, rfl, HTw.out, HB8.out⟩
  have t0 : ((t : Int) == 0) = false := by simp; omega
  by_cases ht1 : t = 1
  · have t1 : ((t : Int) == 1) = true := by simp [ht1]
    have HP := Lib.hid (l1Below_i (z := 9) (fun w' hb' => HK.out w' (HB6.out.trans hb')) HC6.out hz6 (by decide) (by decide))
    go_wp2_with fail
    (with_reducible refine HP.out.mono ?_)
    rintro e w7 ⟨x2, rfl, hx2, hc, hb, -⟩
    have HB7 := Lib.hid (HB6.out.trans hb)
    have HC7 := Lib.hid hc
    have HT := Lib.hid (l19T12 (w := w7) (n := x2) (by have : x2 < 9 := hx2; omega))
    clear hc hb HP HB6 HC6 hz6
    go_wp2_with fail
    (with_reducible refine HT.out.mono ?_)
    rintro e w8 ⟨v8, rfl, hn, hb⟩
    have HC8 := Lib.hid (HC7.out.new (OTab.kept 3 33).held hb HB7.out.size hn)
    have HB8 := Lib.hid (HB7.out.trans (hb.mono HB7.out.size))
    obtain ⟨ra2, rc2, rfl, -⟩ := hn.tab.shape
    rw [tabN_len] at HC8 ⊢
    have HP := Lib.hid (l1Below_i (z := 9) (fun w' hb' => HK.out w' (HB8.out.trans hb')) HC8.out HB8.out.size (by decide) (by decide))
    clear hn hb HT HC7 HB7 hx2 HC8
    go_wp2_with fail
    (with_reducible refine HP.out.mono ?_)
    rintro e w9 ⟨y2, rfl, hy2, hc, hb, -⟩
    have HB9 := Lib.hid (HB8.out.trans hb)
    have HC9 := Lib.hid hc
    have HT := Lib.hid (l19T21 (w := w9) (n := y2) (by have : y2 < 9 := hy2; omega))
    clear hc hb HP HB8
    go_wp2_with fail
    (with_reducible refine HT.out.mono ?_)
    rintro e w10 ⟨v10, rfl, hn, hb⟩
    have HC10 := Lib.hid (HC9.out.new (OTab.kept 3 33).held hb HB9.out.size hn)
    have HB10 := Lib.hid (HB9.out.trans (hb.mono HB9.out.size))
    obtain ⟨sa2, sc2, rfl, -⟩ := hn.tab.shape
    rw [tabN_len] at HC10 ⊢
    have HM := Lib.hid (show Calls Try.prog 114 #[.slice ra2 1 rc2, .slice sa2 2 sc2, .int .i64 1] w10 _ from times_N (p := 1) (q := 2) (HC10.out.tabOf (v := .slice ra2 1 rc2) (m := tabN x2 1 2) (by simp)) (HC10.out.tabOf (v := .slice sa2 2 sc2) (m := tabN y2 2 1) (by simp)) (by decide) (by decide) (by decide) (by decide))
    clear hn hb HT HC9 HB9 hy2
    go_wp2_with fail
    (with_reducible refine HM.out.mono ?_)
    rintro e w11 ⟨v11, rfl, hn, hb⟩
    have HC11 := Lib.hid (HC10.out.new (OTab.kept 3 33).held hb HB10.out.size hn)
    have HB11 := Lib.hid (HB10.out.trans (hb.mono HB10.out.size))
    obtain ⟨pa, pc, rfl, -⟩ := hn.tab.shape
    have HM := Lib.hid (show Calls Try.prog 114 #[.slice sa2 2 sc2, .slice ra2 1 rc2, .int .i64 2] w11 _ from times_N (p := 2) (q := 1) (HC11.out.tabOf (v := .slice sa2 2 sc2) (m := tabN y2 2 1) (by simp)) (HC11.out.tabOf (v := .slice ra2 1 rc2) (m := tabN x2 1 2) (by simp)) (by decide) (by decide) (by decide) (by decide))
    clear hn hb HC10 HB10
    generalize hpl : (prodT (tabN x2 1 2) (tabN y2 2 1) 1 2 1).length = pl at HM HC11 ⊢
    have Hpl := Lib.hid hpl
    clear hpl
    go_wp2_with fail
    (with_reducible refine HM.out.mono ?_)
    rintro e w12 ⟨v12, rfl, hn, hb⟩
    have HC12 := Lib.hid (HC11.out.new (OTab.kept 3 33).held hb HB11.out.size hn)
    have HB12 := Lib.hid (HB11.out.trans (hb.mono HB11.out.size))
    have HTw := Lib.hid (show TwoP w.heap.size w12 (.slice pa pl pc) v12 from ⟨_, _, by rw [show (prodT (tabN x2 1 2) (tabN y2 2 1) 1 2 1).length = 1 from tabOf_len _ _ _]; omega, HC12.out.farOf (v := .slice pa pl pc) (m := prodT (tabN x2 1 2) (tabN y2 2 1) 1 2 1) (by simp), (Far.new hn).mono HB11.out.size⟩)
    clear hn hb HM HC11 HB11 HC12
    go_wp2
    go_ret2
    exact ⟨_, _, rfl, HTw.out, HB12.out⟩
  · have t1 : ((t : Int) == 1) = false := by simp; omega
    have HM := Lib.hid (show Calls Try.prog 114 #[.slice ra 2 rc, .slice sa 2 sc, .int .i64 2] w6 _ from times_N (p := 2) (q := 2) (HC6.out.tabOf (v := .slice ra 2 rc) (m := tabN x 2 2) (by simp)) (HC6.out.tabOf (v := .slice sa 2 sc) (m := tabN y 2 2) (by simp)) (by decide) (by decide) (by decide) (by decide))
    go_wp2_with fail
    (with_reducible refine HM.out.mono ?_)
    rintro e w7 ⟨v7, rfl, hn, hb⟩
    have HC7 := Lib.hid (HC6.out.new (OTab.kept 3 33).held hb hz6 hn)
    have HB7 := Lib.hid (HB6.out.trans (hb.mono hz6))
    obtain ⟨pa, pc, rfl, -⟩ := hn.tab.shape
    have HM := Lib.hid (show Calls Try.prog 114 #[.slice sa 2 sc, .slice ra 2 rc, .int .i64 2] w7 _ from times_N (p := 2) (q := 2) (HC7.out.tabOf (v := .slice sa 2 sc) (m := tabN y 2 2) (by simp)) (HC7.out.tabOf (v := .slice ra 2 rc) (m := tabN x 2 2) (by simp)) (by decide) (by decide) (by decide) (by decide))
    clear hn hb HC6 HB6 hz6
    generalize hpl : (prodT (tabN x 2 2) (tabN y 2 2) 2 2 2).length = pl at HM HC7 ⊢
    have Hpl := Lib.hid hpl
    clear hpl
    go_wp2_with fail
    (with_reducible refine HM.out.mono ?_)
    rintro e w8 ⟨v8, rfl, hn, hb⟩
    have HC8 := Lib.hid (HC7.out.new (OTab.kept 3 33).held hb HB7.out.size hn)
    have HB8 := Lib.hid (HB7.out.trans (hb.mono HB7.out.size))
    have HTw := Lib.hid (show TwoP w.heap.size w8 (.slice pa pl pc) v8 from ⟨_, _, by rw [show (prodT (tabN x 2 2) (tabN y 2 2) 2 2 2).length = 2 from tabOf_len _ _ _]; omega, HC8.out.farOf (v := .slice pa pl pc) (m := prodT (tabN x 2 2) (tabN y 2 2) 2 2 2) (by simp), (Far.new hn).mono HB7.out.size⟩)
    clear hn hb HM HC7 HB7 HC8
    go_wp2
    go_ret2
    exact ⟨_, _, rfl, HTw.out, HB8.out⟩
theorem l1Bit_d (b : Bool) (w : World) : Calls Try.prog 109 #[.bool b] w fun e w' => ∃ y : Nat, e = .returned (.int .i64 y) ∧ y ≤ 1 ∧ w = w' := by
  cases b with
  | true =>
    go_enter Try.func109, Try.ntmps109
    go_wp2
    go_ret
    exact ⟨1, rfl, by omega, rfl⟩
  | false =>
    go_enter Try.func109, Try.ntmps109
    go_wp2
    go_ret
    exact ⟨0, rfl, by omega, rfl⟩
set_option maxHeartbeats 1000000 in
set_option maxRecDepth 100000 in
theorem DrawFindLag_c {w : World} {vc : Value} {xs : List Int} (h : BytR w vc xs) :
    Calls Try.prog 33 #[vc] w fun e w' => ∃ (v vb : Value) (n : Int), e = .returned (.tuple #[v, vb, .int .i64 n]) ∧ I64 n ∧ TwoP w.heap.size w' v vb ∧ Below w.heap.size w w' := by
  have HN := Lib.hid (l1New_c h)
  have HK := Lib.hid (fun w' (hb : Below w.heap.size w w') => BytR.frame _ _ _ _ h hb)
  have HTwo := Lib.hid (fun w' (hb : Below w.heap.size w w') => l19Two_c (BytR.frame _ _ _ _ h hb))
  obtain ⟨a, c, rfl, -⟩ := h.cellsB
  clear h
  go_enter Try.func33, Try.ntmps33
  go_wp2_with fail
  (with_reducible refine HN.out.mono ?_)
  rintro e w1 ⟨rfl, ⟨hh, hs⟩, hb⟩
  have HB1 := Lib.hid hb
  have HC1 := Lib.hid (show Cur w.heap.size w1 w.heap.size (.slice a xs.length c) xs.length [] from ⟨0, hh, Nat.zero_le _, hs⟩)
  have Hcl := Lib.hid (show w.heap.size < w1.heap.size from hs.headBox.2.1)
  clear hs hb HN
  go_wp2_with fail
  (with_reducible refine (HTwo.out _ HB1.out).mono ?_)
  rintro e w2 ⟨v, vb, rfl, ⟨ma, mb, hl, ta, tb⟩, hb⟩
  have HB2 := Lib.hid (HB1.out.trans (hb.mono HB1.out.size))
  have HC2 := Lib.hid (HC1.out.below hb)
  have HTa := Lib.hid ta
  have HTb := Lib.hid tb
  have Hl := Lib.hid hl
  have hlt : w.heap.size < w1.heap.size := Hcl.out
  obtain ⟨aa, ac, rfl, -⟩ := ta.tab.shape
  obtain ⟨ba, bc, rfl, -⟩ := tb.tab.shape
  have HP := Lib.hid (l1Below_i (z := 3) (fun w' hb' => HK.out w' (HB2.out.trans hb')) HC2.out HB2.out.size (by decide) (by decide))
  clear hb HC1 HB1 ta tb hl HC2
  generalize hna : ma.length = na at HTa ⊢
  generalize hnb : mb.length = nb at HTb ⊢
  clear hna hnb
  go_wp2_with fail
  (with_reducible refine HP.out.mono ?_)
  rintro e w3 ⟨x, rfl, hx, hc, hb, ho⟩
  have hx3 : x < 3 := hx
  have HB3 := Lib.hid (HB2.out.trans hb)
  have HO := Lib.hid (l1Once_i (z := 12) (fun w' hb' => HK.out w' (HB3.out.trans hb')) hc HB3.out.size (by decide) (by decide))
  replace HTa := Lib.hid (HTa.out.off ho (by simp; exact hlt))
  replace HTb := Lib.hid (HTb.out.off ho (by simp; exact hlt))
  clear hb hc hx HP ho
  go_wp2_with fail
  (with_reducible refine HO.out.mono ?_)
  rintro e w4 ⟨q, rfl, -, hb, ho⟩
  have HB4 := Lib.hid (HB3.out.trans hb)
  have HBit := Lib.hid (l1Bit_d q w4)
  replace HTa := Lib.hid (HTa.out.off ho (by simp; exact hlt))
  replace HTb := Lib.hid (HTb.out.off ho (by simp; exact hlt))
  have HT := Lib.hid (show TwoP w.heap.size w4 (.slice aa na ac) (.slice ba nb bc) from ⟨ma, mb, Hl.out, HTa.out.mono (Nat.le_of_lt hlt), HTb.out.mono (Nat.le_of_lt hlt)⟩)
  clear hb ho HO HTa HTb hlt
  go_wp2_with fail
  (with_reducible refine HBit.out.mono ?_)
  rintro e w9 ⟨y, rfl, hy, hw9⟩
  rw [← hw9]
  clear hw9 w9 HBit
  have H64 := Lib.hid (show I64 (1 + (x : Int) - (y : Int)) from by unfold I64; omega)
  go_wp2
  go_ret3
  exact ⟨_, _, _, rfl, H64.out, HT.out, HB4.out⟩
set_option maxHeartbeats 1000000 in
set_option maxRecDepth 100000 in
theorem sameStep_c {w : World} {v1 v2 : Value} {x y : Tb × Tb} (h1 : StepR w v1 x) (h2 : StepR w v2 y) :
    Calls Try.prog 41 #[v1, v2] w fun e w' => e = .returned (.bool (decide (x = y))) ∧ Below w.heap.size w w' := by
  obtain ⟨p1, p2, rfl, tp1, tp2⟩ := h1
  obtain ⟨q1, q2, rfl, tq1, tq2⟩ := h2
  obtain ⟨w1, e1, hb1, c0, c1, m1⟩ := boxA_ex w 41 p1 p2
  obtain ⟨w2, e2, hb2, d0, d1, m2⟩ := boxA_ex w1 41 q1 q2
  replace c0 := (hb2.cell (p := ⟨w.heap.size, 0, none⟩) m1).trans c0
  replace c1 := (hb2.cell (p := ⟨w.heap.size, 1, none⟩) m1).trans c1
  have hb := hb1.trans (hb2.mono (Nat.le_of_lt m1))
  have HX1 := Lib.hid (sameLists_c (Tab.frame _ _ _ _ tp1 hb) (Tab.frame _ _ _ _ tq1 hb))
  have HX2 := Lib.hid (fun (w' : World) (hb' : Below w2.heap.size w2 w') => sameLists_c (Tab.frame _ _ _ _ (Tab.frame _ _ _ _ tp2 hb) hb') (Tab.frame _ _ _ _ (Tab.frame _ _ _ _ tq2 hb) hb'))
  have HB := Lib.hid hb
  have Hd := Lib.hid (show decide (x = y) = (decide (x.1 = y.1) && decide (x.2 = y.2)) from by rw [← Bool.decide_and]; exact decide_eq_decide.2 Prod.ext_iff)
  generalize decide (x = y) = D at Hd ⊢
  generalize decide (x.1 = y.1) = D1 at Hd HX1
  generalize decide (x.2 = y.2) = D2 at Hd HX2
  have hle : w.heap.size ≤ w2.heap.size := HB.out.size
  obtain ⟨pa, pn, pc, rfl⟩ : ∃ a n c, p1 = .slice a n c := by obtain ⟨a, c, h, -⟩ := tp1.shape; exact ⟨_, _, _, h⟩
  obtain ⟨pa2, pn2, pc2, rfl⟩ : ∃ a n c, p2 = .slice a n c := by obtain ⟨a, c, h, -⟩ := tp2.shape; exact ⟨_, _, _, h⟩
  obtain ⟨qa, qn, qc, rfl⟩ : ∃ a n c, q1 = .slice a n c := by obtain ⟨a, c, h, -⟩ := tq1.shape; exact ⟨_, _, _, h⟩
  obtain ⟨qa2, qn2, qc2, rfl⟩ : ∃ a n c, q2 = .slice a n c := by obtain ⟨a, c, h, -⟩ := tq2.shape; exact ⟨_, _, _, h⟩
  clear tp1 tp2 tq1 tq2 hb1 hb2 hb
  go_enter Try.func41, Try.ntmps41
  go_wp2_with fail
  (with_reducible refine HX1.out.mono ?_)
  rintro e w3 ⟨rfl, hd⟩
  have HB3 := Lib.hid (HB.out.trans (hd.below _))
  have HX2' := Lib.hid (HX2.out _ (hd.below _))
  replace c1 := (hd.cell ⟨w.heap.size, 1, none⟩).trans c1
  replace d1 := (hd.cell ⟨w1.heap.size, 1, none⟩).trans d1
  clear hd HX1 HX2 HB c0 d0 e1 e2
  cases D1 with
  | false =>
    go_wp2
    go_ret
    exact ⟨by rw [Hd.out]; rfl, HB3.out⟩
  | true =>
    go_wp2_with fail
    (with_reducible refine HX2'.out.mono ?_)
    rintro e w4 ⟨rfl, hd⟩
    have HB4 := Lib.hid (HB3.out.trans (hd.below _))
    clear hd HX2' HB3
    go_wp2
    go_ret
    exact ⟨by rw [Hd.out]; rfl, HB4.out⟩
end Go.Proofs.Ytlkgkfgpnnahdaa
end

section
/-
  The empty pair of tables.
-/
namespace Go.Proofs.Ytlkgkfgpnnahdaa
open Go.RowKit Go.Deep Go.Sd
theorem New.none2 {eI eR : TypeId} {lo : Nat} {w : World} (h : lo ≤ w.heap.size) : New (OStep eI eR) lo w (.agg #[.slice none 0 0, .slice none 0 0]) ([], []) :=
  New.pair (New.nil lo w) (New.nil w.heap.size w) (Below.refl _ _) h
end Go.Proofs.Ytlkgkfgpnnahdaa
end
