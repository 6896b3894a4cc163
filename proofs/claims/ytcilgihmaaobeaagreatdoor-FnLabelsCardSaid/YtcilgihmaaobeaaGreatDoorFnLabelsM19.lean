/-
  Laws for this claim's walks, contracts of the functions that it reaches.
-/
import Derived.Test.YtcilgihmaaobeaaGreatDoorFnLabelsM12
import Derived.Test.YtcilgihmaaobeaaGreatDoorFnLabelsM13
import Derived.Test.YtcilgihmaaobeaaGreatDoorFnLabelsM14
import Derived.Test.YtcilgihmaaobeaaGreatDoorFnLabelsM8
set_option linter.unusedVariables false
set_option linter.unusedSimpArgs false
section
namespace Go.Proofs.YtcilgihmaaobeaaGreatDoor
open Go.RowKit Go.Deep Go.Sd

def bump (m : List (List Int)) (a : Arc3) : List (List Int) := m.set a.1.toNat ((m.getD a.1.toNat []).set a.2.1.toNat (ent m a.1.toNat a.2.1.toNat + 1))
def bumps : List Arc3 → List (List Int) → List (List Int)
  | [], m => m
  | a :: l, m => bumps l (bump m a)
def matOk (l : Lb) : Bool := isLab l && decide (l.2.1 ≤ 9)
def matV (l : Lb) : List (List Int) := if matOk l = true then bumps l.2.2 (List.replicate l.2.1.toNat (List.replicate l.2.1.toNat 0)) else []
def EB (B : Int) (m : List (List Int)) : Prop := ∀ i j, 0 ≤ ent m i j ∧ ent m i j ≤ B
theorem EB.set {B : Int} {m : List (List Int)} (h : EB B m) (a b : Nat) {y : Int} (h0 : 0 ≤ y) (h1 : y ≤ B + 1) : EB (B + 1) (m.set a ((m.getD a []).set b y)) := by
  intro i j
  have hij := h i j
  have haj := h a j
  unfold ent at hij haj ⊢
  simp only [List.getD_eq_getElem?_getD, List.getElem?_set] at hij haj ⊢
  by_cases e : a = i
  · subst e
    rw [if_pos rfl]
    by_cases hl : a < m.length
    · rw [if_pos hl]
      simp only [Option.getD_some, List.getElem?_set]
      by_cases e2 : b = j
      · subst e2
        rw [if_pos rfl]
        split
        · simp; omega
        · simp; omega
      · rw [if_neg e2]; omega
    · rw [if_neg hl]
      simp
      omega
  · rw [if_neg e]
    omega
theorem EB.zeros (n : Nat) : EB 0 (List.replicate n (List.replicate n 0)) := by
  intro i j
  have h : ent (List.replicate n (List.replicate n 0)) i j = 0 := by
    unfold ent
    simp only [List.getD_eq_getElem?_getD, List.getElem?_replicate]
    split
    · simp only [Option.getD_some, List.getElem?_replicate]; split <;> rfl
    · rfl
  rw [h]; omega
theorem bump_sq {n : Nat} {m : List (List Int)} (h : Sq n m) {a : Arc3} (ha : a.1.toNat < n) : Sq n (bump m a) := h.set ha _ _
theorem bumps_sq {n : Nat} : ∀ {xs : List Arc3} {m : List (List Int)}, Sq n m → (∀ a, a ∈ xs → a.1.toNat < n) → Sq n (bumps xs m)
  | [], _, h, _ => h
  | a :: l, m, h, ha => bumps_sq (xs := l) (bump_sq h (ha a (by simp))) fun b hb => ha b (List.mem_cons_of_mem _ hb)
set_option maxHeartbeats 4000000 in
set_option maxRecDepth 100000 in
theorem impl_MatrixOf_c {w : World} {v : Value} {l : Lb} (h : LabR w v l) :
    Calls Tryz.prog 15 #[v] w (Makes2 (OTab 3 61) w (matV l) (matOk l)) := by
  have H1 := Lib.hid (fun w1 (hb : Below w.heap.size w w1) => impl_IsLabels_c (LabR.frame _ _ _ _ h hb))
  have H0 := Lib.hid (show matOk l = (isLab l && decide (l.2.1 ≤ 9)) from rfl)
  have HV := Lib.hid (show matV l = if matOk l = true then bumps l.2.2 (List.replicate l.2.1.toNat (List.replicate l.2.1.toNat 0)) else [] from rfl)
  have Hok := Lib.hid (fun h => isLab_ok (l := l) h)
  generalize matV l = V at HV ⊢
  generalize matOk l = K at H0 HV ⊢
  generalize hil : isLab l = il at H0 H1 Hok
  clear hil
  obtain ⟨L, S, xs⟩ := l
  obtain ⟨va, rfl, hlen, a, c, rfl, _, _, _, hcell⟩ := h
  simp only at *
  generalize hn : xs.length = n at *
  have Hn := Lib.hid hn.symm
  clear hn
  cases il with
  | false =>
    have HK := Lib.hid (show K = false from by rw [H0.out]; first | rfl | (rw [decide_eq_false (by omega)]; rfl))
    have HE := Lib.hid (show V = [] from by rw [HV.out, HK.out]; rfl)
    clear H0 HV Hok hcell
    go_enter Tryz.func15, Tryz.ntmps15
    go_wp2_with fail
    obtain ⟨w1, ex, A0, c0, c1, c2, m1⟩ := boxA3_ex w 26 (.int .i64 L) (.int .i64 S) (.slice a n c)
    change Calls Tryz.prog _ _ (w.alloc (.cells #[.int .i64 L, .int .i64 S, .slice a n c] 26)) _
    rw [ex]
    clear ex
    (with_reducible refine (H1.out _ A0).mono ?_)
    rintro e w2 ⟨rfl, hb⟩
    replace c0 := (hb.cell (p := ⟨w.heap.size, 0, none⟩) m1).trans c0
    replace c1 := (hb.cell (p := ⟨w.heap.size, 1, none⟩) m1).trans c1
    replace c2 := (hb.cell (p := ⟨w.heap.size, 2, none⟩) m1).trans c2
    replace m1 := Nat.lt_of_lt_of_le m1 hb.size
    replace A0 := A0.trans (hb.mono A0.size)
    clear hb
    go_wp2
    go_ret2
    exact ⟨_, by rw [HK.out]; rfl, by rw [HE.out]; exact New.nil _ _, A0⟩
  | true =>
  by_cases h9 : S ≤ 9
  rotate_left
  · have h9' : 9 < S := by omega
    have HK := Lib.hid (show K = false from by rw [H0.out]; first | rfl | (rw [decide_eq_false (by omega)]; rfl))
    have HE := Lib.hid (show V = [] from by rw [HV.out, HK.out]; rfl)
    clear H0 HV Hok hcell
    go_enter Tryz.func15, Tryz.ntmps15
    go_wp2_with fail
    obtain ⟨w1, ex, A0, c0, c1, c2, m1⟩ := boxA3_ex w 26 (.int .i64 L) (.int .i64 S) (.slice a n c)
    change Calls Tryz.prog _ _ (w.alloc (.cells #[.int .i64 L, .int .i64 S, .slice a n c] 26)) _
    rw [ex]
    clear ex
    (with_reducible refine (H1.out _ A0).mono ?_)
    rintro e w2 ⟨rfl, hb⟩
    replace c0 := (hb.cell (p := ⟨w.heap.size, 0, none⟩) m1).trans c0
    replace c1 := (hb.cell (p := ⟨w.heap.size, 1, none⟩) m1).trans c1
    replace c2 := (hb.cell (p := ⟨w.heap.size, 2, none⟩) m1).trans c2
    replace m1 := Nat.lt_of_lt_of_le m1 hb.size
    replace A0 := A0.trans (hb.mono A0.size)
    clear hb
    go_wp2
    go_ret2
    exact ⟨_, by rw [HK.out]; rfl, by rw [HE.out]; exact New.nil _ _, A0⟩
  have HK := Lib.hid (show K = true from by rw [H0.out, decide_eq_true h9]; rfl)
  obtain ⟨ho, hS1, hS2, _, _⟩ := Hok.out rfl
  obtain ⟨p, rfl⟩ := Int.eq_ofNat_of_zero_le (show 0 ≤ S by omega)
  have HE := Lib.hid (show V = bumps (xs.drop 0) (List.replicate p (List.replicate p 0)) from by rw [HV.out, HK.out]; rfl)
  have Hz := Lib.hid (fun w1 => zeros_c (w := w1) (p := p) (by omega))
  have Ho := Lib.hid ho
  have hp9 : p ≤ 9 := by omega
  have hp0 : 0 < p := by omega
  clear H0 HV Hok ho hS1 hS2
  go_enter Tryz.func15, Tryz.ntmps15
  go_wp2_with fail
  obtain ⟨w1, ex, A0, c0, c1, c2, m1⟩ := boxA3_ex w 26 (.int .i64 L) (.int .i64 p) (.slice a n c)
  change Calls Tryz.prog _ _ (w.alloc (.cells #[.int .i64 L, .int .i64 p, .slice a n c] 26)) _
  rw [ex]
  clear ex
  (with_reducible refine (H1.out _ A0).mono ?_)
  rintro e w2 ⟨rfl, hb⟩
  replace c0 := (hb.cell (p := ⟨w.heap.size, 0, none⟩) m1).trans c0
  replace c1 := (hb.cell (p := ⟨w.heap.size, 1, none⟩) m1).trans c1
  replace c2 := (hb.cell (p := ⟨w.heap.size, 2, none⟩) m1).trans c2
  replace m1 := Nat.lt_of_lt_of_le m1 hb.size
  replace A0 := A0.trans (hb.mono A0.size)
  clear hb
  go_wp2_with fail
  (with_reducible refine (Hz.out _).mono ?_)
  rintro e w3 ⟨tv, rfl, hnew, hb⟩
  obtain ⟨gb, gc, _, _, rfl, _, hgb, hgb2, _⟩ := hnew.tab_at (i := 0) (j := 0) ((Sq.zeros p).row hp0).1 ((Sq.zeros p).entry hp0 hp0)
  rw [(Sq.zeros p).1] at hnew ⊢
  replace hnew := hnew.mono (Nat.succ_le_of_lt m1)
  replace hgb := Nat.le_trans A0.size hgb
  replace c0 := (hb.cell (p := ⟨w.heap.size, 0, none⟩) m1).trans c0
  replace c1 := (hb.cell (p := ⟨w.heap.size, 1, none⟩) m1).trans c1
  replace c2 := (hb.cell (p := ⟨w.heap.size, 2, none⟩) m1).trans c2
  replace m1 := Nat.lt_of_lt_of_le m1 hb.size
  replace A0 := A0.trans (hb.mono A0.size)
  clear hb
  have Hnew := Lib.hid hnew
  have HA0 := Lib.hid A0
  clear hnew A0 H1 Hz
  go_wp2
  go_loopg [21] n (fun g i wr => ∃ (k : Nat) (m : List (List Int)), i = .int .i64 k ∧ k + g = n ∧ Hid (Sq p m ∧ EB k m) ∧ Hid (V = bumps (xs.drop k) m) ∧ Hid (New (OTab 3 61) (w.heap.size + 1) wr (.slice (some ⟨gb, 0, none⟩) p gc) m) ∧ wr.cell? ⟨w.heap.size, 2, none⟩ = some (.slice a n c) ∧ w.heap.size < wr.heap.size ∧ gb < wr.heap.size ∧ Hid (Below w.heap.size w wr))
  case atStart => exact ⟨0, _, rfl, by omega, Lib.hid ⟨Sq.zeros p, EB.zeros p⟩, HE, Hnew, c2, m1, hgb2, HA0⟩
  case round =>
    obtain ⟨k, m, rfl, hk, hsq, HK2, hnew, r2, hwr, hgb3, hbel⟩ := hrel
    by_cases hlt : k < n
    · obtain ⟨b, o, rfl, hb, hx0⟩ := hcell (by omega)
      obtain ⟨y, hy, hd⟩ := at_lt (xs := xs) (k := k) (by have := Hn.out; omega)
      obtain ⟨f0, f1, f2⟩ := hx0 k y hy
      obtain ⟨i0, i1, i2, i3⟩ := okArcs_at Ho.out hy
      have g0 : wr.cell? ⟨b, o + k * 3, none⟩ = some (.int .i64 y.1) := (hbel.out.cell (p := ⟨b, o + k * 3, none⟩) hb).trans f0
      have g1 : wr.cell? ⟨b, o + k * 3 + 1, none⟩ = some (.int .i64 y.2.1) := (hbel.out.cell (p := ⟨b, o + k * 3 + 1, none⟩) hb).trans f1
      have g2 : wr.cell? ⟨b, o + k * 3 + 2, none⟩ = some (.int .i64 y.2.2) := (hbel.out.cell (p := ⟨b, o + k * 3 + 2, none⟩) hb).trans f2
      have HK3 := Lib.hid (show V = bumps (xs.drop (k + 1)) (bump m y) from by rw [HK2.out, hd]; rfl)
      obtain ⟨y0, y1, y2⟩ := y
      simp only at g0 g1 g2 i0 i1 i2 i3
      obtain ⟨p0, rfl⟩ := Int.eq_ofNat_of_zero_le i0
      obtain ⟨p1, rfl⟩ := Int.eq_ofNat_of_zero_le i2
      clear hx0 hcell hy hd f0 f1 f2 HK2
      go_wp2
      obtain ⟨wn, ex, hbn0, c0', c1', c2', mn⟩ := boxA3_ex wr 68 (.int .i64 p0) (.int .i64 p1) (.int .i64 y2)
      rw [ex]
      clear ex g0 g1 g2
      have hq0 : p0 < p := by omega
      have hq1 : p1 < p := by omega
      obtain ⟨hsq1, heb⟩ := hsq.out
      have hn2 := hnew.out.keep (OTab.kept _ _) hbn0 (Nat.le_refl _)
      obtain ⟨b', c'', sb, sc, hv, _, _, _, hcl1, _, hsb, hsb2, hcl2, hfr, hst⟩ := hn2.tab_at (hsq1.row hq0).1 (hsq1.entry hq0 hq1)
      obtain rfl : b' = gb := by simp at hv; exact hv.1.symm
      rw [(hsq1.row hq0).2] at hcl1
      have hbd := heb p0 p1
      have HB := Lib.hid (show bump m ((p0 : Int), (p1 : Int), y2) = m.set p0 ((m.getD p0 []).set p1 (ent m p0 p1 + 1)) from rfl)
      have Hsq2 := Lib.hid (show Sq p (bump m ((p0 : Int), (p1 : Int), y2)) ∧ EB ((k + 1 : Nat) : Int) (bump m ((p0 : Int), (p1 : Int), y2)) from ⟨bump_sq hsq1 hq0, by rw [HB.out, show ((k + 1 : Nat) : Int) = (k : Int) + 1 from rfl]; exact heb.set p0 p1 (by omega) (by omega)⟩)
      have Hst := Lib.hid (show New (OTab 3 61) (w.heap.size + 1) (wn.setCell ⟨sb, p1, none⟩ (.int .i64 (ent m p0 p1 + 1))) _ (bump m ((p0 : Int), (p1 : Int), y2)) from hst (ent m p0 p1 + 1))
      have r2n := (hbn0.cell (p := ⟨w.heap.size, 2, none⟩) hwr).trans r2
      generalize ent m p0 p1 = X at *
      generalize bump m ((p0 : Int), (p1 : Int), y2) = m' at *
      have Hb3 := Lib.hid ((hbel.out.trans (hbn0.mono hbel.out.size)).setCell (p := ⟨sb, p1, none⟩) (Nat.le_of_succ_le hsb) (.int .i64 (X + 1)))
      have hj0 : (p0 : Int) < (p : Int) := by omega
      have hj1 : (p1 : Int) < (p : Int) := by omega
      obtain ⟨hbd0, hbd1⟩ := hbd
      have hz9 := hbn0.size
      have Hlt := Lib.hid (show w.heap.size < wn.heap.size ∧ b' < wn.heap.size from ⟨by omega, by omega⟩)
      have Hc2 := Lib.hid ((World.cell?_setCell_other wn ⟨sb, p1, none⟩ ⟨w.heap.size, 2, none⟩ (.int .i64 (X + 1)) (by simp <;> omega)).trans r2n)
      clear hv hst hn2 hnew hbel hbn0 HB hsq hsq1 heb r2 r2n
      go_wp2
      go_still_tail 11, (by kernel_rfl)
      go_wp2
      go_roundg (n - (k + 1))
      case measure => omega
      case rel => exact ⟨k + 1, m', by go_num, by omega, Hsq2, HK3, Lib.hid (New.heap (OTab.kept _ _) Hst.out rfl), Hc2.out, by simp; exact Hlt.out.1, by simp; exact Hlt.out.2, Lib.hid Hb3.out.drew⟩
    · have HF := Lib.hid (show V = m from by rw [HK2.out, drop_len (by have := Hn.out; omega)]; rfl)
      clear hcell HK2 hsq
      go_wp2
      go_ret2
      exact ⟨_, by rw [HK.out]; rfl, by rw [HF.out]; exact hnew.out.mono (by omega), hbel.out⟩
set_option maxHeartbeats 4000000 in
set_option maxRecDepth 100000 in
theorem spec_MatrixOf_c {w : World} {v : Value} {l : Lb} (h : LabR w v l) :
    Calls Tryz.prog 16 #[v] w (Makes2 (OTab 3 61) w (matV l) (matOk l)) := by
  have H1 := Lib.hid (fun w1 (hb : Below w.heap.size w w1) => spec_IsLabels_c (LabR.frame _ _ _ _ h hb))
  have H0 := Lib.hid (show matOk l = (isLab l && decide (l.2.1 ≤ 9)) from rfl)
  have HV := Lib.hid (show matV l = if matOk l = true then bumps l.2.2 (List.replicate l.2.1.toNat (List.replicate l.2.1.toNat 0)) else [] from rfl)
  have Hok := Lib.hid (fun h => isLab_ok (l := l) h)
  generalize matV l = V at HV ⊢
  generalize matOk l = K at H0 HV ⊢
  generalize hil : isLab l = il at H0 H1 Hok
  clear hil
  obtain ⟨L, S, xs⟩ := l
  obtain ⟨va, rfl, hlen, a, c, rfl, _, _, _, hcell⟩ := h
  simp only at *
  generalize hn : xs.length = n at *
  have Hn := Lib.hid hn.symm
  clear hn
  cases il with
  | false =>
    have HK := Lib.hid (show K = false from by rw [H0.out]; first | rfl | (rw [decide_eq_false (by omega)]; rfl))
    have HE := Lib.hid (show V = [] from by rw [HV.out, HK.out]; rfl)
    clear H0 HV Hok hcell
    go_enter Tryz.func16, Tryz.ntmps16
    go_wp2_with fail
    obtain ⟨w1, ex, A0, c0, c1, c2, m1⟩ := boxA3_ex w 26 (.int .i64 L) (.int .i64 S) (.slice a n c)
    change Calls Tryz.prog _ _ (w.alloc (.cells #[.int .i64 L, .int .i64 S, .slice a n c] 26)) _
    rw [ex]
    clear ex
    (with_reducible refine (H1.out _ A0).mono ?_)
    rintro e w2 ⟨rfl, hb⟩
    replace c0 := (hb.cell (p := ⟨w.heap.size, 0, none⟩) m1).trans c0
    replace c1 := (hb.cell (p := ⟨w.heap.size, 1, none⟩) m1).trans c1
    replace c2 := (hb.cell (p := ⟨w.heap.size, 2, none⟩) m1).trans c2
    replace m1 := Nat.lt_of_lt_of_le m1 hb.size
    replace A0 := A0.trans (hb.mono A0.size)
    clear hb
    go_wp2
    go_ret2
    exact ⟨_, by rw [HK.out]; rfl, by rw [HE.out]; exact New.empty _ (A0.size), A0.alloc A0.size _⟩
  | true =>
  by_cases h9 : S ≤ 9
  rotate_left
  · have h9' : 9 < S := by omega
    have HK := Lib.hid (show K = false from by rw [H0.out]; first | rfl | (rw [decide_eq_false (by omega)]; rfl))
    have HE := Lib.hid (show V = [] from by rw [HV.out, HK.out]; rfl)
    clear H0 HV Hok hcell
    go_enter Tryz.func16, Tryz.ntmps16
    go_wp2_with fail
    obtain ⟨w1, ex, A0, c0, c1, c2, m1⟩ := boxA3_ex w 26 (.int .i64 L) (.int .i64 S) (.slice a n c)
    change Calls Tryz.prog _ _ (w.alloc (.cells #[.int .i64 L, .int .i64 S, .slice a n c] 26)) _
    rw [ex]
    clear ex
    (with_reducible refine (H1.out _ A0).mono ?_)
    rintro e w2 ⟨rfl, hb⟩
    replace c0 := (hb.cell (p := ⟨w.heap.size, 0, none⟩) m1).trans c0
    replace c1 := (hb.cell (p := ⟨w.heap.size, 1, none⟩) m1).trans c1
    replace c2 := (hb.cell (p := ⟨w.heap.size, 2, none⟩) m1).trans c2
    replace m1 := Nat.lt_of_lt_of_le m1 hb.size
    replace A0 := A0.trans (hb.mono A0.size)
    clear hb
    go_wp2
    go_ret2
    exact ⟨_, by rw [HK.out]; rfl, by rw [HE.out]; exact New.empty _ (A0.size), A0.alloc A0.size _⟩
  have HK := Lib.hid (show K = true from by rw [H0.out, decide_eq_true h9]; rfl)
  obtain ⟨ho, hS1, hS2, _, _⟩ := Hok.out rfl
  obtain ⟨p, rfl⟩ := Int.eq_ofNat_of_zero_le (show 0 ≤ S by omega)
  have HE := Lib.hid (show V = bumps (xs.drop 0) (List.replicate p (List.replicate p 0)) from by rw [HV.out, HK.out]; rfl)
  have Hz := Lib.hid (fun w1 => l4Zero_c (w := w1) (p := p) (r := p) (by omega) (by omega))
  have Ho := Lib.hid ho
  have hp9 : p ≤ 9 := by omega
  have hp0 : 0 < p := by omega
  clear H0 HV Hok ho hS1 hS2
  go_enter Tryz.func16, Tryz.ntmps16
  go_wp2_with fail
  obtain ⟨w1, ex, A0, c0, c1, c2, m1⟩ := boxA3_ex w 26 (.int .i64 L) (.int .i64 p) (.slice a n c)
  change Calls Tryz.prog _ _ (w.alloc (.cells #[.int .i64 L, .int .i64 p, .slice a n c] 26)) _
  rw [ex]
  clear ex
  (with_reducible refine (H1.out _ A0).mono ?_)
  rintro e w2 ⟨rfl, hb⟩
  replace c0 := (hb.cell (p := ⟨w.heap.size, 0, none⟩) m1).trans c0
  replace c1 := (hb.cell (p := ⟨w.heap.size, 1, none⟩) m1).trans c1
  replace c2 := (hb.cell (p := ⟨w.heap.size, 2, none⟩) m1).trans c2
  replace m1 := Nat.lt_of_lt_of_le m1 hb.size
  replace A0 := A0.trans (hb.mono A0.size)
  clear hb
  go_wp2_with fail
  (with_reducible refine (Hz.out _).mono ?_)
  rintro e w3 ⟨tv, rfl, hnew, hb⟩
  obtain ⟨gb, gc, _, _, rfl, _, hgb, hgb2, _⟩ := hnew.tab_at (i := 0) (j := 0) ((Sq.zeros p).row hp0).1 ((Sq.zeros p).entry hp0 hp0)
  rw [(Sq.zeros p).1] at hnew ⊢
  replace hnew := hnew.mono (Nat.succ_le_of_lt m1)
  replace hgb := Nat.le_trans A0.size hgb
  replace c0 := (hb.cell (p := ⟨w.heap.size, 0, none⟩) m1).trans c0
  replace c1 := (hb.cell (p := ⟨w.heap.size, 1, none⟩) m1).trans c1
  replace c2 := (hb.cell (p := ⟨w.heap.size, 2, none⟩) m1).trans c2
  replace m1 := Nat.lt_of_lt_of_le m1 hb.size
  replace A0 := A0.trans (hb.mono A0.size)
  clear hb
  have Hnew := Lib.hid hnew
  have HA0 := Lib.hid A0
  clear hnew A0 H1 Hz
  go_wp2
  go_loopg [5] n (fun g i wr => ∃ (k : Nat) (m : List (List Int)), i = .int .i64 k ∧ k + g = n ∧ Hid (Sq p m ∧ EB k m) ∧ Hid (V = bumps (xs.drop k) m) ∧ Hid (New (OTab 3 61) (w.heap.size + 1) wr (.slice (some ⟨gb, 0, none⟩) p gc) m) ∧ wr.cell? ⟨w.heap.size, 2, none⟩ = some (.slice a n c) ∧ w.heap.size < wr.heap.size ∧ gb < wr.heap.size ∧ Hid (Below w.heap.size w wr))
  case atStart => exact ⟨0, _, rfl, by omega, Lib.hid ⟨Sq.zeros p, EB.zeros p⟩, HE, Hnew, c2, m1, hgb2, HA0⟩
  case round =>
    obtain ⟨k, m, rfl, hk, hsq, HK2, hnew, r2, hwr, hgb3, hbel⟩ := hrel
    by_cases hlt : k < n
    · obtain ⟨b, o, rfl, hb, hx0⟩ := hcell (by omega)
      obtain ⟨y, hy, hd⟩ := at_lt (xs := xs) (k := k) (by have := Hn.out; omega)
      obtain ⟨f0, f1, f2⟩ := hx0 k y hy
      obtain ⟨i0, i1, i2, i3⟩ := okArcs_at Ho.out hy
      have g0 : wr.cell? ⟨b, o + k * 3, none⟩ = some (.int .i64 y.1) := (hbel.out.cell (p := ⟨b, o + k * 3, none⟩) hb).trans f0
      have g1 : wr.cell? ⟨b, o + k * 3 + 1, none⟩ = some (.int .i64 y.2.1) := (hbel.out.cell (p := ⟨b, o + k * 3 + 1, none⟩) hb).trans f1
      have g2 : wr.cell? ⟨b, o + k * 3 + 2, none⟩ = some (.int .i64 y.2.2) := (hbel.out.cell (p := ⟨b, o + k * 3 + 2, none⟩) hb).trans f2
      have HK3 := Lib.hid (show V = bumps (xs.drop (k + 1)) (bump m y) from by rw [HK2.out, hd]; rfl)
      obtain ⟨y0, y1, y2⟩ := y
      simp only at g0 g1 g2 i0 i1 i2 i3
      obtain ⟨p0, rfl⟩ := Int.eq_ofNat_of_zero_le i0
      obtain ⟨p1, rfl⟩ := Int.eq_ofNat_of_zero_le i2
      clear hx0 hcell hy hd f0 f1 f2 HK2
      go_wp2
      obtain ⟨wn, ex, hbn0, c0', c1', c2', mn⟩ := boxA3_ex wr 68 (.int .i64 p0) (.int .i64 p1) (.int .i64 y2)
      rw [ex]
      clear ex g0 g1 g2
      have hq0 : p0 < p := by omega
      have hq1 : p1 < p := by omega
      obtain ⟨hsq1, heb⟩ := hsq.out
      have hn2 := hnew.out.keep (OTab.kept _ _) hbn0 (Nat.le_refl _)
      obtain ⟨b', c'', sb, sc, hv, _, _, _, hcl1, _, hsb, hsb2, hcl2, hfr, hst⟩ := hn2.tab_at (hsq1.row hq0).1 (hsq1.entry hq0 hq1)
      obtain rfl : b' = gb := by simp at hv; exact hv.1.symm
      rw [(hsq1.row hq0).2] at hcl1
      have hbd := heb p0 p1
      have HB := Lib.hid (show bump m ((p0 : Int), (p1 : Int), y2) = m.set p0 ((m.getD p0 []).set p1 (ent m p0 p1 + 1)) from rfl)
      have Hsq2 := Lib.hid (show Sq p (bump m ((p0 : Int), (p1 : Int), y2)) ∧ EB ((k + 1 : Nat) : Int) (bump m ((p0 : Int), (p1 : Int), y2)) from ⟨bump_sq hsq1 hq0, by rw [HB.out, show ((k + 1 : Nat) : Int) = (k : Int) + 1 from rfl]; exact heb.set p0 p1 (by omega) (by omega)⟩)
      have Hst := Lib.hid (show New (OTab 3 61) (w.heap.size + 1) (wn.setCell ⟨sb, p1, none⟩ (.int .i64 (ent m p0 p1 + 1))) _ (bump m ((p0 : Int), (p1 : Int), y2)) from hst (ent m p0 p1 + 1))
      have r2n := (hbn0.cell (p := ⟨w.heap.size, 2, none⟩) hwr).trans r2
      generalize ent m p0 p1 = X at *
      generalize bump m ((p0 : Int), (p1 : Int), y2) = m' at *
      have Hb3 := Lib.hid ((hbel.out.trans (hbn0.mono hbel.out.size)).setCell (p := ⟨sb, p1, none⟩) (Nat.le_of_succ_le hsb) (.int .i64 (X + 1)))
      have hj0 : (p0 : Int) < (p : Int) := by omega
      have hj1 : (p1 : Int) < (p : Int) := by omega
      obtain ⟨hbd0, hbd1⟩ := hbd
      have hz9 := hbn0.size
      have Hlt := Lib.hid (show w.heap.size < wn.heap.size ∧ b' < wn.heap.size from ⟨by omega, by omega⟩)
      have Hc2 := Lib.hid ((World.cell?_setCell_other wn ⟨sb, p1, none⟩ ⟨w.heap.size, 2, none⟩ (.int .i64 (X + 1)) (by simp <;> omega)).trans r2n)
      clear hv hst hn2 hnew hbel hbn0 HB hsq hsq1 heb r2 r2n
      go_wp2
      go_still_tail 18, (by kernel_rfl)
      go_wp2
      go_roundg (n - (k + 1))
      case measure => omega
      case rel => exact ⟨k + 1, m', by go_num, by omega, Hsq2, HK3, Lib.hid (New.heap (OTab.kept _ _) Hst.out rfl), Hc2.out, by simp; exact Hlt.out.1, by simp; exact Hlt.out.2, Lib.hid Hb3.out.drew⟩
    · have HF := Lib.hid (show V = m from by rw [HK2.out, drop_len (by have := Hn.out; omega)]; rfl)
      clear hcell HK2 hsq
      go_wp2
      go_ret2
      exact ⟨_, by rw [HK.out]; rfl, by rw [HF.out]; exact hnew.out.mono (by omega), hbel.out⟩
end Go.Proofs.YtcilgihmaaobeaaGreatDoor
end

section
namespace Go.Sd
open Go.RowKit Go.Deep
theorem Clos.congr {E E' : Nat → Nat → Prop} {n : Nat} (h : ∀ i j, i < n → j < n → (E i j ↔ E' i j)) {S : Nat → Prop} (hc : Clos E n S) : Clos E' n S := fun i hi => by
  obtain ⟨h1, ⟨j, hj, he⟩, k, hk, hf⟩ := hc i hi
  exact ⟨h1, ⟨j, hj, (h i j h1 (hc j hj).1).1 he⟩, k, hk, (h k i (hc k hk).1 h1).1 hf⟩
theorem liveL_congr {E E' : Nat → Nat → Prop} {n : Nat} (h : ∀ i j, i < n → j < n → (E i j ↔ E' i j)) : liveL E n = liveL E' n := by
  have hg : ∀ i, Gr E n i ↔ Gr E' n i := fun i => ⟨fun ⟨S, hS, hi⟩ => ⟨S, hS.congr h, hi⟩, fun ⟨S, hS, hi⟩ => ⟨S, hS.congr (fun i j a b => (h i j a b).symm), hi⟩⟩
  unfold liveL
  exact List.map_congr_left fun i _ => decide_eq_decide.2 (hg i)
end Go.Sd
namespace Go.Proofs.YtcilgihmaaobeaaGreatDoor
open Go.RowKit Go.Deep Go.Sd
/-- Some arc leads from i to j. -/
def ArcP (xs : List Arc3) (i j : Nat) : Prop := ∃ a, a ∈ xs ∧ a.1 = (i : Int) ∧ a.2.1 = (j : Int)
def MatA (p : Nat) (m : List (List Int)) (xs : List Arc3) : Prop := Sq p m ∧ ∀ i j, i < p → j < p → (0 < ent m i j ↔ ArcP xs i j)
theorem MatA.start (p : Nat) : MatA p (List.replicate p (List.replicate p 0)) [] := by
  refine ⟨Sq.zeros p, fun i j hi hj => ?_⟩
  have := EB.zeros p i j
  constructor
  · intro h; omega
  · rintro ⟨a, ha, _⟩; simp at ha
theorem ent_set1 {p : Nat} {m : List (List Int)} (h : Sq p m) {p0 p1 : Nat} (h0 : p0 < p) (h1 : p1 < p) (i j : Nat) : ent (m.set p0 ((m.getD p0 []).set p1 1)) i j = if i = p0 ∧ j = p1 then 1 else ent m i j := by
  have hr := h.row h0
  unfold ent
  simp only [List.getD_eq_getElem?_getD, List.getElem?_set] at hr ⊢
  by_cases e : p0 = i
  · subst e
    have hl : p0 < m.length := by rw [h.1]; exact h0
    rw [if_pos rfl, if_pos hl]
    simp only [Option.getD_some, List.getElem?_set]
    by_cases e2 : p1 = j
    · subst e2
      simp [hr.2, h1]
    · rw [if_neg e2, if_neg (fun h => e2 h.2.symm)]
  · rw [if_neg e, if_neg (fun h => e h.1.symm)]
theorem MatA.step {p : Nat} {m : List (List Int)} {xs : List Arc3} (h : MatA p m xs) {p0 p1 : Nat} {y2 : Int} (h0 : p0 < p) (h1 : p1 < p) : MatA p (m.set p0 ((m.getD p0 []).set p1 1)) (xs ++ [((p0 : Int), (p1 : Int), y2)]) := by
  refine ⟨h.1.set h0 _ _, fun i j hi hj => ?_⟩
  rw [ent_set1 h.1 h0 h1]
  by_cases e : i = p0 ∧ j = p1
  · rw [if_pos e]
    obtain ⟨rfl, rfl⟩ := e
    exact ⟨fun _ => ⟨((i : Int), (j : Int), y2), by simp, rfl, rfl⟩, fun _ => by omega⟩
  · rw [if_neg e, h.2 i j hi hj]
    constructor
    · rintro ⟨a, ha, b⟩; exact ⟨a, by simp [ha], b⟩
    · rintro ⟨a, ha, b1, b2⟩
      rcases List.mem_append.1 ha with ha | ha
      · exact ⟨a, ha, b1, b2⟩
      · simp at ha
        subst ha
        simp at b1 b2
        exact absurd ⟨by omega, by omega⟩ e
theorem MatA.live {p : Nat} {m : List (List Int)} {xs : List Arc3} (h : MatA p m xs) : liveL (EntP m) p = liveL (ArcP xs) p :=
  liveL_congr fun i j hi hj => by rw [← h.2 i j hi hj]; unfold EntP entP; simp
set_option maxHeartbeats 4000000 in
set_option maxRecDepth 100000 in
theorem l14Live_c {w : World} {v : Value} {l : Lb} (h : LabR w v l) (hok : isLab l = true) :
    Calls Tryz.prog 44 #[v] w (Makes (OwnOf 4 (OValR Value.bool)) w (liveL (ArcP l.2.2) l.2.1.toNat)) := by
  obtain ⟨ho, hS1, hS2, _, _⟩ := isLab_ok hok
  clear hok
  obtain ⟨L, S, xs⟩ := l
  obtain ⟨va, rfl, hlen, a, c, rfl, _, _, _, hcell⟩ := h
  simp only at *
  obtain ⟨p, rfl⟩ := Int.eq_ofNat_of_zero_le (show 0 ≤ S by omega)
  generalize hn : xs.length = n at *
  have Hn := Lib.hid hn.symm
  clear hn
  have hp12 : p ≤ 12 := by omega
  have hp0 : 0 < p := by omega
  have Hz := Lib.hid (fun w1 => l4Zero_c (w := w1) (p := p) (r := p) (by omega) (by omega))
  have Ho := Lib.hid ho
  rw [show ((p : Int)).toNat = p from rfl]
  clear ho hS1 hS2
  go_enter Tryz.func44, Tryz.ntmps44
  go_wp2_with fail
  obtain ⟨w1, ex, A0, c0, c1, c2, m1⟩ := boxA3_ex w 26 (.int .i64 L) (.int .i64 p) (.slice a n c)
  change Calls Tryz.prog _ _ (w.alloc (.cells #[.int .i64 L, .int .i64 p, .slice a n c] 26)) _
  rw [ex]
  clear ex
  (with_reducible refine (Hz.out _).mono ?_)
  rintro e w3 ⟨tv, rfl, hnew, hb⟩
  obtain ⟨gb, gc, _, _, rfl, _, hgb, hgb2, _⟩ := hnew.tab_at (i := 0) (j := 0) ((Sq.zeros p).row hp0).1 ((Sq.zeros p).entry hp0 hp0)
  rw [(Sq.zeros p).1] at hnew ⊢
  replace hnew := hnew.mono (Nat.succ_le_of_lt m1)
  replace hgb := Nat.le_trans A0.size hgb
  replace c2 := (hb.cell (p := ⟨w.heap.size, 2, none⟩) m1).trans c2
  replace m1 := Nat.lt_of_lt_of_le m1 hb.size
  replace A0 := A0.trans (hb.mono A0.size)
  clear hb c0 c1
  have Hnew := Lib.hid hnew
  have HA0 := Lib.hid A0
  have HM0 := Lib.hid (show MatA p (List.replicate p (List.replicate p 0)) (xs.take 0) from MatA.start p)
  clear hnew A0 Hz
  go_wp2
  go_loopg [4] n (fun g i wr => ∃ (k : Nat) (m : List (List Int)), i = .int .i64 k ∧ k + g = n ∧ Hid (MatA p m (xs.take k)) ∧ Hid (New (OTab 3 61) (w.heap.size + 1) wr (.slice (some ⟨gb, 0, none⟩) p gc) m) ∧ wr.cell? ⟨w.heap.size, 2, none⟩ = some (.slice a n c) ∧ w.heap.size < wr.heap.size ∧ gb < wr.heap.size ∧ Hid (Below w.heap.size w wr))
  case atStart => exact ⟨0, _, rfl, by omega, HM0, Hnew, c2, m1, hgb2, HA0⟩
  case round =>
    obtain ⟨k, m, rfl, hk, hma, hnew, r2, hwr, hgb3, hbel⟩ := hrel
    clear HM0 Hnew HA0
    by_cases hlt : k < n
    · obtain ⟨b, o, rfl, hb, hx0⟩ := hcell (by omega)
      obtain ⟨y, hy, _⟩ := at_lt (xs := xs) (k := k) (by have := Hn.out; omega)
      obtain ⟨f0, f1, f2⟩ := hx0 k y hy
      obtain ⟨i0, i1, i2, i3⟩ := okArcs_at Ho.out hy
      have g0 : wr.cell? ⟨b, o + k * 3, none⟩ = some (.int .i64 y.1) := (hbel.out.cell (p := ⟨b, o + k * 3, none⟩) hb).trans f0
      have g1 : wr.cell? ⟨b, o + k * 3 + 1, none⟩ = some (.int .i64 y.2.1) := (hbel.out.cell (p := ⟨b, o + k * 3 + 1, none⟩) hb).trans f1
      have HT := Lib.hid (show xs.take (k + 1) = xs.take k ++ [y] from (take_snoc' hy).symm)
      obtain ⟨y0, y1, y2⟩ := y
      simp only at g0 g1 i0 i1 i2 i3
      obtain ⟨p0, rfl⟩ := Int.eq_ofNat_of_zero_le i0
      obtain ⟨p1, rfl⟩ := Int.eq_ofNat_of_zero_le i2
      have hq0 : p0 < p := by omega
      have hq1 : p1 < p := by omega
      obtain ⟨b', c'', sb, sc, hv, _, _, _, hcl1, _, hsb, hsb2, hcl2, hfr, hst⟩ := hnew.out.tab_at (hma.out.1.row hq0).1 (hma.out.1.entry hq0 hq1)
      obtain rfl : b' = gb := by simp at hv; exact hv.1.symm
      rw [(hma.out.1.row hq0).2] at hcl1
      have HM := Lib.hid (show MatA p (m.set p0 ((m.getD p0 []).set p1 1)) (xs.take (k + 1)) from by rw [HT.out]; exact hma.out.step hq0 hq1)
      have Hst := Lib.hid (hst 1)
      have Hb3 := Lib.hid (hbel.out.setCell (p := ⟨sb, p1, none⟩) (Nat.le_of_succ_le hsb) (.int .i64 1))
      have Hc2 := Lib.hid ((World.cell?_setCell_other wr ⟨sb, p1, none⟩ ⟨w.heap.size, 2, none⟩ (.int .i64 1) (by simp <;> omega)).trans r2)
      have hj0 : (p0 : Int) < (p : Int) := by omega
      have hj1 : (p1 : Int) < (p : Int) := by omega
      have hkn : (k : Int) < (n : Int) := by omega
      have Hlt := Lib.hid (show w.heap.size < wr.heap.size ∧ b' < wr.heap.size from ⟨hwr, hgb3⟩)
      generalize m.set p0 ((m.getD p0 []).set p1 1) = m' at *
      generalize ent m p0 p1 = X at *
      clear hx0 hcell hy f0 f1 f2 hv hst hnew hbel hma HT
      go_wp2
      go_still_tail 16, (by kernel_rfl)
      go_wp2
      go_roundg (n - (k + 1))
      case measure => omega
      case rel => exact ⟨k + 1, m', by go_num, by omega, HM, Lib.hid (New.heap (OTab.kept _ _) Hst.out rfl), Hc2.out, by simp; exact Hlt.out.1, by simp; exact Hlt.out.2, Lib.hid Hb3.out.drew⟩
    · have HF := Lib.hid (show liveL (EntP m) p = liveL (ArcP xs) p from by have h := hma.out; rw [List.take_of_length_le (by have := Hn.out; omega)] at h; exact h.live)
      have H5 := Lib.hid (l5Live_c hnew.out.tab hma.out.1 hp0 (by omega))
      rw [HF.out] at H5
      clear hcell hma hnew
      go_wp2_with fail
      refine H5.out.mono ?_
      rintro e w5 ⟨r, rfl, hn5, hb5⟩
      have HN := Lib.hid (hn5.mono (Nat.le_of_lt hwr))
      have HB := Lib.hid (hbel.out.trans (hb5.mono (Nat.le_of_lt hwr)))
      clear hn5 hb5 H5
      go_wp2
      go_ret
      exact ⟨_, rfl, HN.out, HB.out⟩
end Go.Proofs.YtcilgihmaaobeaaGreatDoor
end
