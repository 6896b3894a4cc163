/-
  Laws for this claim's walks, contracts of the functions that it reaches.
-/
import Derived.Test.YtcilgihmaaobeaaGreatDoorFnLabelsM29
import Derived.Test.YtcilgihmaaobeaaGreatDoorFnLabelsM48
import Derived.Test.YtcilgihmaaobeaaGreatDoorFnLabelsM38
import Derived.Test.YtcilgihmaaobeaaGreatDoorFnLabelsM34
import Derived.Test.YtcilgihmaaobeaaGreatDoorFnLabelsM43
import Derived.Test.YtcilgihmaaobeaaGreatDoorFnLabelsM30
set_option linter.unusedVariables false
set_option linter.unusedSimpArgs false
section
namespace Go.Proofs.YtcilgihmaaobeaaGreatDoor
open Go.RowKit Go.Deep Go.Sd
set_option linter.unusedSimpArgs false
theorem tkL {P : Program} {ops : Array Oper} {Q : Exit → Act → World → Prop} {md : Region.Mode} {S : World → Prop} (i : Nat) {oi : Oper} {v : Value} {fuel : Nat} {listed : Array Bool} {a : Act} {w : World} (hi : ops[i]? = some oi)
    (hb : (Region.noSelect ops && (Region.free md ops listed i && ((Region.ready md ops listed).contains i && Go.Sd.waited md ops listed i))) = true)
    (hQ : ∀ c a w, Q (.panic c) (a.put oi.dst v) w → Q (.panic c) a w) (hy : YieldsIf P ops S oi v a) (hS : S w)
    (h : Go.Sd.wpAnyL P md ops Q S fuel (listed.setIfInBounds i true) (a.put oi.dst v) w) : Go.Sd.wpAnyL P md ops Q S (fuel + 1) listed a w := by
  simp only [Bool.and_eq_true] at hb
  exact Go.Sd.wpAnyL_take i hi hb.1 hb.2.1 hb.2.2.1 hb.2.2.2 hQ hy hS h
theorem sameTexts_b {w : World} {v1 v2 : Value} {xs : List ByteArray} (h1 : StrsR w v1 xs) (h2 : StrsR w v2 xs) : Calls Tryz.prog 18 #[v1, v2] w fun e w' => e = .returned (.bool true) ∧ Below w.heap.size w w' :=
  (sameTexts_same h1 h2).mono fun _ _ h => ⟨h.1, h.2.below _⟩
theorem sameLists_b {w : World} {v1 v2 : Value} {xs ys : List (List Int)} (h1 : Tab w v1 xs) (h2 : Tab w v2 ys) : Calls Tryz.prog 25 #[v1, v2] w fun e w' => e = .returned (.bool (decide (xs = ys))) ∧ Below w.heap.size w w' :=
  (sameLists_c h1 h2).mono fun _ _ h => ⟨h.1, h.2.below _⟩
theorem sumOf_q {w : World} {v : Value} {m : List (List Int)} (h : Tab w v m) : Calls Tryz.prog 31 #[v] w (Reads w (.int .i64 (sumV m))) :=
  (spec_SumOf_c h).mono fun _ _ h => ⟨h.1, by rw [h.2]; exact Drawn.refl _⟩
theorem strs_cell {w : World} {v : Value} {xs : List ByteArray} (h : StrsR w v xs) {k : Nat} {x : ByteArray} (hx : xs[k]? = some x) : ∃ b o c, v = .slice (some ⟨b, o, none⟩) xs.length c ∧ b < w.heap.size ∧ w.cell? ⟨b, o + k, none⟩ = some (.string x) := by
  obtain ⟨a, c, rfl, -, -, hc⟩ := h.shape
  obtain ⟨hk, -⟩ := List.getElem?_eq_some_iff.1 hx
  obtain ⟨b, o, rfl, hb, hcl⟩ := hc (by omega)
  obtain ⟨u, hu, e⟩ := hcl k x hx
  exact ⟨b, o, c, rfl, hb, by rw [hu, ← e]⟩
theorem ShR.slice {w : World} {v : Value} {z : Sh} (h : ShR w v z) : ∃ a c, v = .agg #[.int .i64 z.1, .slice a z.2.length c] := by
  obtain ⟨va, rfl, h⟩ := h
  obtain ⟨a, c, rfl, -⟩ := h.shape
  exact ⟨a, c, rfl⟩
theorem str_tail {s : ByteArray} (h : 1 ≤ s.size) (w : World) : (Instr.slice 9 (.string s) (some (.int .i64 1)) none none).run Tryz.prog w = .ok (.string (s.extract 1 s.size)) w := by
  have h1 : (1 : Int) ≤ (s.size : Int) := by omega
  simp [go_sem, h1]
set_option linter.unusedVariables false in
set_option maxHeartbeats 8000000 in
set_option maxRecDepth 100000 in
theorem law_FnLabels {w : World} (hMx : MaxOk w) {v0 : Value} {a0 : List Int} (t0 : BytR w v0 a0) (b0 : True) :
    Calls Tryz.prog 3 #[v0] w fun e w' => e = .returned (.bool true) ∧ Below w.heap.size w w' := by
  have hlen := t0.len
  have HMx := Lib.hid hMx
  clear hMx
  have HD := Lib.hid t0
  obtain ⟨va, vc, rfl, -⟩ := t0.cellsB
  obtain ⟨n0, hn0⟩ : ∃ n, n = a0.length := ⟨_, rfl⟩
  rw [← hn0] at HD hlen ⊢
  have HBig := Lib.hid (big_c (w := w) (a := va) (c := vc) hlen)
  clear t0 b0 hn0 hlen
  by_cases hbig : 1048576 < n0
  · rw [decide_eq_true hbig] at HBig
    clear HD
    go_enter Tryz.func3, Tryz.ntmps3
    go_wp2_with fail
    (with_reducible refine HBig.out.mono ?_)
    rintro e w9 ⟨rfl, hw9⟩
    rw [← hw9]
    clear hw9 w9
    go_wp2
    go_ret
    exact ⟨rfl, Below.refl _ _⟩
  rw [decide_eq_false hbig] at HBig
  clear hbig
  have HB := Lib.hid (Below.refl w.heap.size w)
  go_enter Tryz.func3, Tryz.ntmps3
  go_wp2_with fail
  (with_reducible refine HBig.out.mono ?_)
  rintro e w9 ⟨rfl, hw9⟩
  rw [← hw9]
  clear hw9 w9 HBig
  have HQ := Lib.hid (DrawReadWords_c HD.out)
  go_wp2_with fail
  (with_reducible refine HQ.out.mono ?_)
  clear HQ
  rintro e w1 ⟨vl, l, n, rfl, hn, hbd, hb⟩
  replace HD := Lib.hid (BytR.frame _ _ _ _ HD.out hb)
  replace HMx := Lib.hid (MaxOk.below HMx.out hb)
  replace HB := Lib.hid (HB.out.trans (hb.mono HB.out.size))
  have Hnb := Lib.hid hbd
  have Hl := Lib.hid (New.lab hn)
  obtain ⟨_, hv, -, xa_l, xc_l, hv2, -⟩ := Hl.out
  subst hv2
  subst hv
  generalize hn_l : l.2.2.length = n_l at Hl ⊢
  have Hn_l := Lib.hid hn_l
  clear hn_l
  clear hn hb hbd
  obtain ⟨w2, eb_l, hb, cell_l0, cell_l1, cell_l2, mb_l⟩ := boxA3_ex w1 26 (.int .i64 l.1) (.int .i64 l.2.1) (.slice xa_l n_l xc_l)
  replace HD := Lib.hid (BytR.frame _ _ _ _ HD.out hb)
  replace HMx := Lib.hid (MaxOk.below HMx.out hb)
  replace Hl := Lib.hid (LabR.frame _ _ _ _ Hl.out hb)
  replace HB := Lib.hid (HB.out.trans (hb.mono HB.out.size))
  clear hb
  obtain ⟨RW, h_RW⟩ : ∃ bb_, bb_ = rdwM l n := ⟨_, rfl⟩
  have H_RW := Lib.hid h_RW
  clear h_RW
  have HQ := Lib.hid (impl_ReadWords_c (nn := n) Hl.out (show I64 n from by have := Hnb.out; unfold I64; omega))
  rw [← H_RW.out] at HQ
  go_wp2_with fail
  (with_reducible refine HQ.out.mono ?_)
  clear HQ
  rintro e w3 ⟨vw, rfl, hn, hb⟩
  replace HD := Lib.hid (BytR.frame _ _ _ _ HD.out hb)
  replace HMx := Lib.hid (MaxOk.below HMx.out hb)
  replace Hl := Lib.hid (LabR.frame _ _ _ _ Hl.out hb)
  replace cell_l0 := (hb.cell (p := ⟨w1.heap.size, 0, none⟩) mb_l).trans cell_l0
  replace cell_l1 := (hb.cell (p := ⟨w1.heap.size, 1, none⟩) mb_l).trans cell_l1
  replace cell_l2 := (hb.cell (p := ⟨w1.heap.size, 2, none⟩) mb_l).trans cell_l2
  replace mb_l := Nat.lt_of_lt_of_le mb_l hb.size
  replace HB := Lib.hid (HB.out.trans (hb.mono HB.out.size))
  clear eb_l
  have Hwo := Lib.hid (New.strs hn)
  obtain ⟨sa_wo, sc_wo, hv, -⟩ := Hwo.out.shape
  subst hv
  generalize hn_wo : (RW).length = n_wo at Hwo ⊢
  have Hn_wo := Lib.hid hn_wo
  clear hn_wo
  clear hn hb
  have HQ := Lib.hid (DrawReadFrom_c HD.out)
  go_wp2_with fail
  (with_reducible refine HQ.out.mono ?_)
  clear HQ
  rintro e w4 ⟨va', a, set, wd1, rfl, hn, ⟨hbd, hs⟩, hb⟩
  replace HD := Lib.hid (BytR.frame _ _ _ _ HD.out hb)
  replace HMx := Lib.hid (MaxOk.below HMx.out hb)
  replace Hl := Lib.hid (LabR.frame _ _ _ _ Hl.out hb)
  replace Hwo := Lib.hid (StrsR.frame _ _ _ _ Hwo.out hb)
  replace cell_l0 := (hb.cell (p := ⟨w1.heap.size, 0, none⟩) mb_l).trans cell_l0
  replace cell_l1 := (hb.cell (p := ⟨w1.heap.size, 1, none⟩) mb_l).trans cell_l1
  replace cell_l2 := (hb.cell (p := ⟨w1.heap.size, 2, none⟩) mb_l).trans cell_l2
  replace mb_l := Nat.lt_of_lt_of_le mb_l hb.size
  replace HB := Lib.hid (HB.out.trans (hb.mono HB.out.size))
  have Hset := Lib.hid hbd
  have Hwd1 := Lib.hid hs
  have Ha := Lib.hid (New.lab hn)
  obtain ⟨_, hv, -, xa_a, xc_a, hv2, -⟩ := Ha.out
  subst hv2
  subst hv
  generalize hn_a : a.2.2.length = n_a at Ha ⊢
  have Hn_a := Lib.hid hn_a
  clear hn_a
  clear hn hb hbd hs
  obtain ⟨w5, eb_a, hb, cell_a0, cell_a1, cell_a2, mb_a⟩ := boxA3_ex w4 26 (.int .i64 a.1) (.int .i64 a.2.1) (.slice xa_a n_a xc_a)
  replace HD := Lib.hid (BytR.frame _ _ _ _ HD.out hb)
  replace HMx := Lib.hid (MaxOk.below HMx.out hb)
  replace Hl := Lib.hid (LabR.frame _ _ _ _ Hl.out hb)
  replace Hwo := Lib.hid (StrsR.frame _ _ _ _ Hwo.out hb)
  replace Ha := Lib.hid (LabR.frame _ _ _ _ Ha.out hb)
  replace cell_l0 := (hb.cell (p := ⟨w1.heap.size, 0, none⟩) mb_l).trans cell_l0
  replace cell_l1 := (hb.cell (p := ⟨w1.heap.size, 1, none⟩) mb_l).trans cell_l1
  replace cell_l2 := (hb.cell (p := ⟨w1.heap.size, 2, none⟩) mb_l).trans cell_l2
  replace mb_l := Nat.lt_of_lt_of_le mb_l hb.size
  replace HB := Lib.hid (HB.out.trans (hb.mono HB.out.size))
  clear hb
  have HQ := Lib.hid (DrawTrimLabels_b HD.out)
  go_wp2_with fail
  (with_reducible refine HQ.out.mono ?_)
  clear HQ
  rintro e w6 ⟨vt, t, rfl, hl82, hn, hb⟩
  replace HD := Lib.hid (BytR.frame _ _ _ _ HD.out hb)
  replace HMx := Lib.hid (MaxOk.below HMx.out hb)
  replace Hl := Lib.hid (LabR.frame _ _ _ _ Hl.out hb)
  replace Hwo := Lib.hid (StrsR.frame _ _ _ _ Hwo.out hb)
  replace Ha := Lib.hid (LabR.frame _ _ _ _ Ha.out hb)
  replace cell_l0 := (hb.cell (p := ⟨w1.heap.size, 0, none⟩) mb_l).trans cell_l0
  replace cell_l1 := (hb.cell (p := ⟨w1.heap.size, 1, none⟩) mb_l).trans cell_l1
  replace cell_l2 := (hb.cell (p := ⟨w1.heap.size, 2, none⟩) mb_l).trans cell_l2
  replace mb_l := Nat.lt_of_lt_of_le mb_l hb.size
  replace cell_a0 := (hb.cell (p := ⟨w4.heap.size, 0, none⟩) mb_a).trans cell_a0
  replace cell_a1 := (hb.cell (p := ⟨w4.heap.size, 1, none⟩) mb_a).trans cell_a1
  replace cell_a2 := (hb.cell (p := ⟨w4.heap.size, 2, none⟩) mb_a).trans cell_a2
  replace mb_a := Nat.lt_of_lt_of_le mb_a hb.size
  replace HB := Lib.hid (HB.out.trans (hb.mono HB.out.size))
  clear eb_a
  have Ht82 := Lib.hid (show t.2.2.length ≤ 1048576 from by omega)
  have Ht := Lib.hid (New.lab hn)
  obtain ⟨_, hv, -, xa_t, xc_t, hv2, -⟩ := Ht.out
  subst hv2
  subst hv
  generalize hn_t : t.2.2.length = n_t at Ht ⊢
  have Hn_t := Lib.hid hn_t
  clear hn_t
  clear hn hb hl82
  obtain ⟨w7, eb_t, hb, cell_t0, cell_t1, cell_t2, mb_t⟩ := boxA3_ex w6 26 (.int .i64 t.1) (.int .i64 t.2.1) (.slice xa_t n_t xc_t)
  replace HD := Lib.hid (BytR.frame _ _ _ _ HD.out hb)
  replace HMx := Lib.hid (MaxOk.below HMx.out hb)
  replace Hl := Lib.hid (LabR.frame _ _ _ _ Hl.out hb)
  replace Hwo := Lib.hid (StrsR.frame _ _ _ _ Hwo.out hb)
  replace Ha := Lib.hid (LabR.frame _ _ _ _ Ha.out hb)
  replace Ht := Lib.hid (LabR.frame _ _ _ _ Ht.out hb)
  replace cell_l0 := (hb.cell (p := ⟨w1.heap.size, 0, none⟩) mb_l).trans cell_l0
  replace cell_l1 := (hb.cell (p := ⟨w1.heap.size, 1, none⟩) mb_l).trans cell_l1
  replace cell_l2 := (hb.cell (p := ⟨w1.heap.size, 2, none⟩) mb_l).trans cell_l2
  replace mb_l := Nat.lt_of_lt_of_le mb_l hb.size
  replace cell_a0 := (hb.cell (p := ⟨w4.heap.size, 0, none⟩) mb_a).trans cell_a0
  replace cell_a1 := (hb.cell (p := ⟨w4.heap.size, 1, none⟩) mb_a).trans cell_a1
  replace cell_a2 := (hb.cell (p := ⟨w4.heap.size, 2, none⟩) mb_a).trans cell_a2
  replace mb_a := Nat.lt_of_lt_of_le mb_a hb.size
  replace HB := Lib.hid (HB.out.trans (hb.mono HB.out.size))
  clear hb
  obtain ⟨X, h_X⟩ : ∃ bb_, bb_ = trimV t := ⟨_, rfl⟩
  have H_X := Lib.hid h_X
  clear h_X
  obtain ⟨ok, h_ok⟩ : ∃ bb_, bb_ = trimOk t := ⟨_, rfl⟩
  have H_ok := Lib.hid h_ok
  clear h_ok
  have tn_ok : (ok != ok) = false := by cases ok <;> rfl
  have HQ := Lib.hid (impl_TrimLabels_c Ht.out)
  rw [← H_X.out] at HQ
  rw [← H_ok.out] at HQ
  go_wp2_with fail
  (with_reducible refine HQ.out.mono ?_)
  clear HQ
  rintro e w8 ⟨vx, rfl, hn, hb⟩
  replace HD := Lib.hid (BytR.frame _ _ _ _ HD.out hb)
  replace HMx := Lib.hid (MaxOk.below HMx.out hb)
  replace Hl := Lib.hid (LabR.frame _ _ _ _ Hl.out hb)
  replace Hwo := Lib.hid (StrsR.frame _ _ _ _ Hwo.out hb)
  replace Ha := Lib.hid (LabR.frame _ _ _ _ Ha.out hb)
  replace Ht := Lib.hid (LabR.frame _ _ _ _ Ht.out hb)
  replace cell_l0 := (hb.cell (p := ⟨w1.heap.size, 0, none⟩) mb_l).trans cell_l0
  replace cell_l1 := (hb.cell (p := ⟨w1.heap.size, 1, none⟩) mb_l).trans cell_l1
  replace cell_l2 := (hb.cell (p := ⟨w1.heap.size, 2, none⟩) mb_l).trans cell_l2
  replace mb_l := Nat.lt_of_lt_of_le mb_l hb.size
  replace cell_a0 := (hb.cell (p := ⟨w4.heap.size, 0, none⟩) mb_a).trans cell_a0
  replace cell_a1 := (hb.cell (p := ⟨w4.heap.size, 1, none⟩) mb_a).trans cell_a1
  replace cell_a2 := (hb.cell (p := ⟨w4.heap.size, 2, none⟩) mb_a).trans cell_a2
  replace mb_a := Nat.lt_of_lt_of_le mb_a hb.size
  replace cell_t0 := (hb.cell (p := ⟨w6.heap.size, 0, none⟩) mb_t).trans cell_t0
  replace cell_t1 := (hb.cell (p := ⟨w6.heap.size, 1, none⟩) mb_t).trans cell_t1
  replace cell_t2 := (hb.cell (p := ⟨w6.heap.size, 2, none⟩) mb_t).trans cell_t2
  replace mb_t := Nat.lt_of_lt_of_le mb_t hb.size
  replace HB := Lib.hid (HB.out.trans (hb.mono HB.out.size))
  clear eb_t
  have Hx := Lib.hid (New.lab hn)
  obtain ⟨_, hv, -, xa_x, xc_x, hv2, -⟩ := Hx.out
  subst hv2
  subst hv
  generalize hn_x : X.2.2.length = n_x at Hx ⊢
  have Hn_x := Lib.hid hn_x
  clear hn_x
  clear hn hb
  obtain ⟨w9, eb_x, hb, cell_x0, cell_x1, cell_x2, mb_x⟩ := boxA3_ex w8 26 (.int .i64 X.1) (.int .i64 X.2.1) (.slice xa_x n_x xc_x)
  replace HD := Lib.hid (BytR.frame _ _ _ _ HD.out hb)
  replace HMx := Lib.hid (MaxOk.below HMx.out hb)
  replace Hl := Lib.hid (LabR.frame _ _ _ _ Hl.out hb)
  replace Hwo := Lib.hid (StrsR.frame _ _ _ _ Hwo.out hb)
  replace Ha := Lib.hid (LabR.frame _ _ _ _ Ha.out hb)
  replace Ht := Lib.hid (LabR.frame _ _ _ _ Ht.out hb)
  replace Hx := Lib.hid (LabR.frame _ _ _ _ Hx.out hb)
  replace cell_l0 := (hb.cell (p := ⟨w1.heap.size, 0, none⟩) mb_l).trans cell_l0
  replace cell_l1 := (hb.cell (p := ⟨w1.heap.size, 1, none⟩) mb_l).trans cell_l1
  replace cell_l2 := (hb.cell (p := ⟨w1.heap.size, 2, none⟩) mb_l).trans cell_l2
  replace mb_l := Nat.lt_of_lt_of_le mb_l hb.size
  replace cell_a0 := (hb.cell (p := ⟨w4.heap.size, 0, none⟩) mb_a).trans cell_a0
  replace cell_a1 := (hb.cell (p := ⟨w4.heap.size, 1, none⟩) mb_a).trans cell_a1
  replace cell_a2 := (hb.cell (p := ⟨w4.heap.size, 2, none⟩) mb_a).trans cell_a2
  replace mb_a := Nat.lt_of_lt_of_le mb_a hb.size
  replace cell_t0 := (hb.cell (p := ⟨w6.heap.size, 0, none⟩) mb_t).trans cell_t0
  replace cell_t1 := (hb.cell (p := ⟨w6.heap.size, 1, none⟩) mb_t).trans cell_t1
  replace cell_t2 := (hb.cell (p := ⟨w6.heap.size, 2, none⟩) mb_t).trans cell_t2
  replace mb_t := Nat.lt_of_lt_of_le mb_t hb.size
  replace HB := Lib.hid (HB.out.trans (hb.mono HB.out.size))
  clear hb
  have HQ := Lib.hid (spec_TrimLabels_c Ht.out)
  rw [← H_X.out] at HQ
  rw [← H_ok.out] at HQ
  go_wp2_with fail
  (with_reducible refine HQ.out.mono ?_)
  clear HQ
  rintro e w10 ⟨vu, rfl, hn, hb⟩
  replace HD := Lib.hid (BytR.frame _ _ _ _ HD.out hb)
  replace HMx := Lib.hid (MaxOk.below HMx.out hb)
  replace Hl := Lib.hid (LabR.frame _ _ _ _ Hl.out hb)
  replace Hwo := Lib.hid (StrsR.frame _ _ _ _ Hwo.out hb)
  replace Ha := Lib.hid (LabR.frame _ _ _ _ Ha.out hb)
  replace Ht := Lib.hid (LabR.frame _ _ _ _ Ht.out hb)
  replace Hx := Lib.hid (LabR.frame _ _ _ _ Hx.out hb)
  replace cell_l0 := (hb.cell (p := ⟨w1.heap.size, 0, none⟩) mb_l).trans cell_l0
  replace cell_l1 := (hb.cell (p := ⟨w1.heap.size, 1, none⟩) mb_l).trans cell_l1
  replace cell_l2 := (hb.cell (p := ⟨w1.heap.size, 2, none⟩) mb_l).trans cell_l2
  replace mb_l := Nat.lt_of_lt_of_le mb_l hb.size
  replace cell_a0 := (hb.cell (p := ⟨w4.heap.size, 0, none⟩) mb_a).trans cell_a0
  replace cell_a1 := (hb.cell (p := ⟨w4.heap.size, 1, none⟩) mb_a).trans cell_a1
  replace cell_a2 := (hb.cell (p := ⟨w4.heap.size, 2, none⟩) mb_a).trans cell_a2
  replace mb_a := Nat.lt_of_lt_of_le mb_a hb.size
  replace cell_t0 := (hb.cell (p := ⟨w6.heap.size, 0, none⟩) mb_t).trans cell_t0
  replace cell_t1 := (hb.cell (p := ⟨w6.heap.size, 1, none⟩) mb_t).trans cell_t1
  replace cell_t2 := (hb.cell (p := ⟨w6.heap.size, 2, none⟩) mb_t).trans cell_t2
  replace mb_t := Nat.lt_of_lt_of_le mb_t hb.size
  replace cell_x0 := (hb.cell (p := ⟨w8.heap.size, 0, none⟩) mb_x).trans cell_x0
  replace cell_x1 := (hb.cell (p := ⟨w8.heap.size, 1, none⟩) mb_x).trans cell_x1
  replace cell_x2 := (hb.cell (p := ⟨w8.heap.size, 2, none⟩) mb_x).trans cell_x2
  replace mb_x := Nat.lt_of_lt_of_le mb_x hb.size
  replace HB := Lib.hid (HB.out.trans (hb.mono HB.out.size))
  clear eb_x
  have Hu := Lib.hid (New.lab hn)
  obtain ⟨_, hv, -, xa_u, xc_u, hv2, -⟩ := Hu.out
  subst hv2
  subst hv
  generalize hn_u : X.2.2.length = n_u at Hu ⊢
  have Hn_u := Lib.hid hn_u
  clear hn_u
  clear hn hb
  obtain ⟨w11, eb_u, hb, cell_u0, cell_u1, cell_u2, mb_u⟩ := boxA3_ex w10 26 (.int .i64 X.1) (.int .i64 X.2.1) (.slice xa_u n_u xc_u)
  replace HD := Lib.hid (BytR.frame _ _ _ _ HD.out hb)
  replace HMx := Lib.hid (MaxOk.below HMx.out hb)
  replace Hl := Lib.hid (LabR.frame _ _ _ _ Hl.out hb)
  replace Hwo := Lib.hid (StrsR.frame _ _ _ _ Hwo.out hb)
  replace Ha := Lib.hid (LabR.frame _ _ _ _ Ha.out hb)
  replace Ht := Lib.hid (LabR.frame _ _ _ _ Ht.out hb)
  replace Hx := Lib.hid (LabR.frame _ _ _ _ Hx.out hb)
  replace Hu := Lib.hid (LabR.frame _ _ _ _ Hu.out hb)
  replace cell_l0 := (hb.cell (p := ⟨w1.heap.size, 0, none⟩) mb_l).trans cell_l0
  replace cell_l1 := (hb.cell (p := ⟨w1.heap.size, 1, none⟩) mb_l).trans cell_l1
  replace cell_l2 := (hb.cell (p := ⟨w1.heap.size, 2, none⟩) mb_l).trans cell_l2
  replace mb_l := Nat.lt_of_lt_of_le mb_l hb.size
  replace cell_a0 := (hb.cell (p := ⟨w4.heap.size, 0, none⟩) mb_a).trans cell_a0
  replace cell_a1 := (hb.cell (p := ⟨w4.heap.size, 1, none⟩) mb_a).trans cell_a1
  replace cell_a2 := (hb.cell (p := ⟨w4.heap.size, 2, none⟩) mb_a).trans cell_a2
  replace mb_a := Nat.lt_of_lt_of_le mb_a hb.size
  replace cell_t0 := (hb.cell (p := ⟨w6.heap.size, 0, none⟩) mb_t).trans cell_t0
  replace cell_t1 := (hb.cell (p := ⟨w6.heap.size, 1, none⟩) mb_t).trans cell_t1
  replace cell_t2 := (hb.cell (p := ⟨w6.heap.size, 2, none⟩) mb_t).trans cell_t2
  replace mb_t := Nat.lt_of_lt_of_le mb_t hb.size
  replace cell_x0 := (hb.cell (p := ⟨w8.heap.size, 0, none⟩) mb_x).trans cell_x0
  replace cell_x1 := (hb.cell (p := ⟨w8.heap.size, 1, none⟩) mb_x).trans cell_x1
  replace cell_x2 := (hb.cell (p := ⟨w8.heap.size, 2, none⟩) mb_x).trans cell_x2
  replace mb_x := Nat.lt_of_lt_of_le mb_x hb.size
  replace HB := Lib.hid (HB.out.trans (hb.mono HB.out.size))
  clear hb
  have HQ := Lib.hid (DrawLabelsOf_c HD.out)
  go_wp2_with fail
  (with_reducible refine HQ.out.mono ?_)
  clear HQ
  rintro e w12 ⟨vs, s, rfl, hsr, hsf, hb⟩
  replace HD := Lib.hid (BytR.frame _ _ _ _ HD.out hb)
  replace HMx := Lib.hid (MaxOk.below HMx.out hb)
  replace Hl := Lib.hid (LabR.frame _ _ _ _ Hl.out hb)
  replace Hwo := Lib.hid (StrsR.frame _ _ _ _ Hwo.out hb)
  replace Ha := Lib.hid (LabR.frame _ _ _ _ Ha.out hb)
  replace Ht := Lib.hid (LabR.frame _ _ _ _ Ht.out hb)
  replace Hx := Lib.hid (LabR.frame _ _ _ _ Hx.out hb)
  replace Hu := Lib.hid (LabR.frame _ _ _ _ Hu.out hb)
  replace cell_l0 := (hb.cell (p := ⟨w1.heap.size, 0, none⟩) mb_l).trans cell_l0
  replace cell_l1 := (hb.cell (p := ⟨w1.heap.size, 1, none⟩) mb_l).trans cell_l1
  replace cell_l2 := (hb.cell (p := ⟨w1.heap.size, 2, none⟩) mb_l).trans cell_l2
  replace mb_l := Nat.lt_of_lt_of_le mb_l hb.size
  replace cell_a0 := (hb.cell (p := ⟨w4.heap.size, 0, none⟩) mb_a).trans cell_a0
  replace cell_a1 := (hb.cell (p := ⟨w4.heap.size, 1, none⟩) mb_a).trans cell_a1
  replace cell_a2 := (hb.cell (p := ⟨w4.heap.size, 2, none⟩) mb_a).trans cell_a2
  replace mb_a := Nat.lt_of_lt_of_le mb_a hb.size
  replace cell_t0 := (hb.cell (p := ⟨w6.heap.size, 0, none⟩) mb_t).trans cell_t0
  replace cell_t1 := (hb.cell (p := ⟨w6.heap.size, 1, none⟩) mb_t).trans cell_t1
  replace cell_t2 := (hb.cell (p := ⟨w6.heap.size, 2, none⟩) mb_t).trans cell_t2
  replace mb_t := Nat.lt_of_lt_of_le mb_t hb.size
  replace cell_x0 := (hb.cell (p := ⟨w8.heap.size, 0, none⟩) mb_x).trans cell_x0
  replace cell_x1 := (hb.cell (p := ⟨w8.heap.size, 1, none⟩) mb_x).trans cell_x1
  replace cell_x2 := (hb.cell (p := ⟨w8.heap.size, 2, none⟩) mb_x).trans cell_x2
  replace mb_x := Nat.lt_of_lt_of_le mb_x hb.size
  replace cell_u0 := (hb.cell (p := ⟨w10.heap.size, 0, none⟩) mb_u).trans cell_u0
  replace cell_u1 := (hb.cell (p := ⟨w10.heap.size, 1, none⟩) mb_u).trans cell_u1
  replace cell_u2 := (hb.cell (p := ⟨w10.heap.size, 2, none⟩) mb_u).trans cell_u2
  replace mb_u := Nat.lt_of_lt_of_le mb_u hb.size
  replace HB := Lib.hid (HB.out.trans (hb.mono HB.out.size))
  clear eb_u
  have Hs := Lib.hid hsr
  have Hsf := Lib.hid (show ∀ f, f ∈ s.2 → f.size ≤ 1048576 from fun f hf => by have := hsf f hf; omega)
  clear hsr hsf hb
  obtain ⟨xa_s, xc_s, hv⟩ := ShR.slice Hs.out
  subst hv
  generalize hn_s : s.2.length = n_s at Hs ⊢
  clear hn_s
  obtain ⟨w13, eb_s, hb, cell_s0, cell_s1, mb_s⟩ := boxA_ex w12 37 (.int .i64 s.1) (.slice xa_s n_s xc_s)
  replace HD := Lib.hid (BytR.frame _ _ _ _ HD.out hb)
  replace HMx := Lib.hid (MaxOk.below HMx.out hb)
  replace Hl := Lib.hid (LabR.frame _ _ _ _ Hl.out hb)
  replace Hwo := Lib.hid (StrsR.frame _ _ _ _ Hwo.out hb)
  replace Ha := Lib.hid (LabR.frame _ _ _ _ Ha.out hb)
  replace Ht := Lib.hid (LabR.frame _ _ _ _ Ht.out hb)
  replace Hx := Lib.hid (LabR.frame _ _ _ _ Hx.out hb)
  replace Hu := Lib.hid (LabR.frame _ _ _ _ Hu.out hb)
  replace Hs := Lib.hid (ShR.frame _ _ _ _ Hs.out hb)
  replace cell_l0 := (hb.cell (p := ⟨w1.heap.size, 0, none⟩) mb_l).trans cell_l0
  replace cell_l1 := (hb.cell (p := ⟨w1.heap.size, 1, none⟩) mb_l).trans cell_l1
  replace cell_l2 := (hb.cell (p := ⟨w1.heap.size, 2, none⟩) mb_l).trans cell_l2
  replace mb_l := Nat.lt_of_lt_of_le mb_l hb.size
  replace cell_a0 := (hb.cell (p := ⟨w4.heap.size, 0, none⟩) mb_a).trans cell_a0
  replace cell_a1 := (hb.cell (p := ⟨w4.heap.size, 1, none⟩) mb_a).trans cell_a1
  replace cell_a2 := (hb.cell (p := ⟨w4.heap.size, 2, none⟩) mb_a).trans cell_a2
  replace mb_a := Nat.lt_of_lt_of_le mb_a hb.size
  replace cell_t0 := (hb.cell (p := ⟨w6.heap.size, 0, none⟩) mb_t).trans cell_t0
  replace cell_t1 := (hb.cell (p := ⟨w6.heap.size, 1, none⟩) mb_t).trans cell_t1
  replace cell_t2 := (hb.cell (p := ⟨w6.heap.size, 2, none⟩) mb_t).trans cell_t2
  replace mb_t := Nat.lt_of_lt_of_le mb_t hb.size
  replace cell_x0 := (hb.cell (p := ⟨w8.heap.size, 0, none⟩) mb_x).trans cell_x0
  replace cell_x1 := (hb.cell (p := ⟨w8.heap.size, 1, none⟩) mb_x).trans cell_x1
  replace cell_x2 := (hb.cell (p := ⟨w8.heap.size, 2, none⟩) mb_x).trans cell_x2
  replace mb_x := Nat.lt_of_lt_of_le mb_x hb.size
  replace cell_u0 := (hb.cell (p := ⟨w10.heap.size, 0, none⟩) mb_u).trans cell_u0
  replace cell_u1 := (hb.cell (p := ⟨w10.heap.size, 1, none⟩) mb_u).trans cell_u1
  replace cell_u2 := (hb.cell (p := ⟨w10.heap.size, 2, none⟩) mb_u).trans cell_u2
  replace mb_u := Nat.lt_of_lt_of_le mb_u hb.size
  replace HB := Lib.hid (HB.out.trans (hb.mono HB.out.size))
  clear hb
  obtain ⟨Y, h_Y⟩ : ∃ bb_, bb_ = lofV s := ⟨_, rfl⟩
  have H_Y := Lib.hid h_Y
  clear h_Y
  obtain ⟨one, h_one⟩ : ∃ bb_, bb_ = lofOk s := ⟨_, rfl⟩
  have H_one := Lib.hid h_one
  clear h_one
  have tn_one : (one != one) = false := by cases one <;> rfl
  have HQ := Lib.hid (impl_LabelsOf_c Hs.out Hsf.out HMx.out)
  rw [← H_Y.out] at HQ
  rw [← H_one.out] at HQ
  go_wp2_with fail
  (with_reducible refine HQ.out.mono ?_)
  clear HQ
  rintro e w14 ⟨vy, rfl, hn, hb⟩
  replace HD := Lib.hid (BytR.frame _ _ _ _ HD.out hb)
  replace HMx := Lib.hid (MaxOk.below HMx.out hb)
  replace Hl := Lib.hid (LabR.frame _ _ _ _ Hl.out hb)
  replace Hwo := Lib.hid (StrsR.frame _ _ _ _ Hwo.out hb)
  replace Ha := Lib.hid (LabR.frame _ _ _ _ Ha.out hb)
  replace Ht := Lib.hid (LabR.frame _ _ _ _ Ht.out hb)
  replace Hx := Lib.hid (LabR.frame _ _ _ _ Hx.out hb)
  replace Hu := Lib.hid (LabR.frame _ _ _ _ Hu.out hb)
  replace Hs := Lib.hid (ShR.frame _ _ _ _ Hs.out hb)
  replace cell_l0 := (hb.cell (p := ⟨w1.heap.size, 0, none⟩) mb_l).trans cell_l0
  replace cell_l1 := (hb.cell (p := ⟨w1.heap.size, 1, none⟩) mb_l).trans cell_l1
  replace cell_l2 := (hb.cell (p := ⟨w1.heap.size, 2, none⟩) mb_l).trans cell_l2
  replace mb_l := Nat.lt_of_lt_of_le mb_l hb.size
  replace cell_a0 := (hb.cell (p := ⟨w4.heap.size, 0, none⟩) mb_a).trans cell_a0
  replace cell_a1 := (hb.cell (p := ⟨w4.heap.size, 1, none⟩) mb_a).trans cell_a1
  replace cell_a2 := (hb.cell (p := ⟨w4.heap.size, 2, none⟩) mb_a).trans cell_a2
  replace mb_a := Nat.lt_of_lt_of_le mb_a hb.size
  replace cell_t0 := (hb.cell (p := ⟨w6.heap.size, 0, none⟩) mb_t).trans cell_t0
  replace cell_t1 := (hb.cell (p := ⟨w6.heap.size, 1, none⟩) mb_t).trans cell_t1
  replace cell_t2 := (hb.cell (p := ⟨w6.heap.size, 2, none⟩) mb_t).trans cell_t2
  replace mb_t := Nat.lt_of_lt_of_le mb_t hb.size
  replace cell_x0 := (hb.cell (p := ⟨w8.heap.size, 0, none⟩) mb_x).trans cell_x0
  replace cell_x1 := (hb.cell (p := ⟨w8.heap.size, 1, none⟩) mb_x).trans cell_x1
  replace cell_x2 := (hb.cell (p := ⟨w8.heap.size, 2, none⟩) mb_x).trans cell_x2
  replace mb_x := Nat.lt_of_lt_of_le mb_x hb.size
  replace cell_u0 := (hb.cell (p := ⟨w10.heap.size, 0, none⟩) mb_u).trans cell_u0
  replace cell_u1 := (hb.cell (p := ⟨w10.heap.size, 1, none⟩) mb_u).trans cell_u1
  replace cell_u2 := (hb.cell (p := ⟨w10.heap.size, 2, none⟩) mb_u).trans cell_u2
  replace mb_u := Nat.lt_of_lt_of_le mb_u hb.size
  replace cell_s0 := (hb.cell (p := ⟨w12.heap.size, 0, none⟩) mb_s).trans cell_s0
  replace cell_s1 := (hb.cell (p := ⟨w12.heap.size, 1, none⟩) mb_s).trans cell_s1
  replace mb_s := Nat.lt_of_lt_of_le mb_s hb.size
  replace HB := Lib.hid (HB.out.trans (hb.mono HB.out.size))
  clear eb_s
  have Hy := Lib.hid (New.lab hn)
  obtain ⟨_, hv, -, xa_y, xc_y, hv2, -⟩ := Hy.out
  subst hv2
  subst hv
  generalize hn_y : Y.2.2.length = n_y at Hy ⊢
  have Hn_y := Lib.hid hn_y
  clear hn_y
  clear hn hb
  obtain ⟨w15, eb_y, hb, cell_y0, cell_y1, cell_y2, mb_y⟩ := boxA3_ex w14 26 (.int .i64 Y.1) (.int .i64 Y.2.1) (.slice xa_y n_y xc_y)
  replace HD := Lib.hid (BytR.frame _ _ _ _ HD.out hb)
  replace HMx := Lib.hid (MaxOk.below HMx.out hb)
  replace Hl := Lib.hid (LabR.frame _ _ _ _ Hl.out hb)
  replace Hwo := Lib.hid (StrsR.frame _ _ _ _ Hwo.out hb)
  replace Ha := Lib.hid (LabR.frame _ _ _ _ Ha.out hb)
  replace Ht := Lib.hid (LabR.frame _ _ _ _ Ht.out hb)
  replace Hx := Lib.hid (LabR.frame _ _ _ _ Hx.out hb)
  replace Hu := Lib.hid (LabR.frame _ _ _ _ Hu.out hb)
  replace Hs := Lib.hid (ShR.frame _ _ _ _ Hs.out hb)
  replace Hy := Lib.hid (LabR.frame _ _ _ _ Hy.out hb)
  replace cell_l0 := (hb.cell (p := ⟨w1.heap.size, 0, none⟩) mb_l).trans cell_l0
  replace cell_l1 := (hb.cell (p := ⟨w1.heap.size, 1, none⟩) mb_l).trans cell_l1
  replace cell_l2 := (hb.cell (p := ⟨w1.heap.size, 2, none⟩) mb_l).trans cell_l2
  replace mb_l := Nat.lt_of_lt_of_le mb_l hb.size
  replace cell_a0 := (hb.cell (p := ⟨w4.heap.size, 0, none⟩) mb_a).trans cell_a0
  replace cell_a1 := (hb.cell (p := ⟨w4.heap.size, 1, none⟩) mb_a).trans cell_a1
  replace cell_a2 := (hb.cell (p := ⟨w4.heap.size, 2, none⟩) mb_a).trans cell_a2
  replace mb_a := Nat.lt_of_lt_of_le mb_a hb.size
  replace cell_t0 := (hb.cell (p := ⟨w6.heap.size, 0, none⟩) mb_t).trans cell_t0
  replace cell_t1 := (hb.cell (p := ⟨w6.heap.size, 1, none⟩) mb_t).trans cell_t1
  replace cell_t2 := (hb.cell (p := ⟨w6.heap.size, 2, none⟩) mb_t).trans cell_t2
  replace mb_t := Nat.lt_of_lt_of_le mb_t hb.size
  replace cell_x0 := (hb.cell (p := ⟨w8.heap.size, 0, none⟩) mb_x).trans cell_x0
  replace cell_x1 := (hb.cell (p := ⟨w8.heap.size, 1, none⟩) mb_x).trans cell_x1
  replace cell_x2 := (hb.cell (p := ⟨w8.heap.size, 2, none⟩) mb_x).trans cell_x2
  replace mb_x := Nat.lt_of_lt_of_le mb_x hb.size
  replace cell_u0 := (hb.cell (p := ⟨w10.heap.size, 0, none⟩) mb_u).trans cell_u0
  replace cell_u1 := (hb.cell (p := ⟨w10.heap.size, 1, none⟩) mb_u).trans cell_u1
  replace cell_u2 := (hb.cell (p := ⟨w10.heap.size, 2, none⟩) mb_u).trans cell_u2
  replace mb_u := Nat.lt_of_lt_of_le mb_u hb.size
  replace cell_s0 := (hb.cell (p := ⟨w12.heap.size, 0, none⟩) mb_s).trans cell_s0
  replace cell_s1 := (hb.cell (p := ⟨w12.heap.size, 1, none⟩) mb_s).trans cell_s1
  replace mb_s := Nat.lt_of_lt_of_le mb_s hb.size
  replace HB := Lib.hid (HB.out.trans (hb.mono HB.out.size))
  clear hb
  have HQ := Lib.hid (spec_LabelsOf_c Hs.out Hsf.out)
  rw [← H_Y.out] at HQ
  rw [← H_one.out] at HQ
  go_wp2_with fail
  (with_reducible refine HQ.out.mono ?_)
  clear HQ
  rintro e w16 ⟨vz, rfl, hn, hb⟩
  replace HD := Lib.hid (BytR.frame _ _ _ _ HD.out hb)
  replace HMx := Lib.hid (MaxOk.below HMx.out hb)
  replace Hl := Lib.hid (LabR.frame _ _ _ _ Hl.out hb)
  replace Hwo := Lib.hid (StrsR.frame _ _ _ _ Hwo.out hb)
  replace Ha := Lib.hid (LabR.frame _ _ _ _ Ha.out hb)
  replace Ht := Lib.hid (LabR.frame _ _ _ _ Ht.out hb)
  replace Hx := Lib.hid (LabR.frame _ _ _ _ Hx.out hb)
  replace Hu := Lib.hid (LabR.frame _ _ _ _ Hu.out hb)
  replace Hs := Lib.hid (ShR.frame _ _ _ _ Hs.out hb)
  replace Hy := Lib.hid (LabR.frame _ _ _ _ Hy.out hb)
  replace cell_l0 := (hb.cell (p := ⟨w1.heap.size, 0, none⟩) mb_l).trans cell_l0
  replace cell_l1 := (hb.cell (p := ⟨w1.heap.size, 1, none⟩) mb_l).trans cell_l1
  replace cell_l2 := (hb.cell (p := ⟨w1.heap.size, 2, none⟩) mb_l).trans cell_l2
  replace mb_l := Nat.lt_of_lt_of_le mb_l hb.size
  replace cell_a0 := (hb.cell (p := ⟨w4.heap.size, 0, none⟩) mb_a).trans cell_a0
  replace cell_a1 := (hb.cell (p := ⟨w4.heap.size, 1, none⟩) mb_a).trans cell_a1
  replace cell_a2 := (hb.cell (p := ⟨w4.heap.size, 2, none⟩) mb_a).trans cell_a2
  replace mb_a := Nat.lt_of_lt_of_le mb_a hb.size
  replace cell_t0 := (hb.cell (p := ⟨w6.heap.size, 0, none⟩) mb_t).trans cell_t0
  replace cell_t1 := (hb.cell (p := ⟨w6.heap.size, 1, none⟩) mb_t).trans cell_t1
  replace cell_t2 := (hb.cell (p := ⟨w6.heap.size, 2, none⟩) mb_t).trans cell_t2
  replace mb_t := Nat.lt_of_lt_of_le mb_t hb.size
  replace cell_x0 := (hb.cell (p := ⟨w8.heap.size, 0, none⟩) mb_x).trans cell_x0
  replace cell_x1 := (hb.cell (p := ⟨w8.heap.size, 1, none⟩) mb_x).trans cell_x1
  replace cell_x2 := (hb.cell (p := ⟨w8.heap.size, 2, none⟩) mb_x).trans cell_x2
  replace mb_x := Nat.lt_of_lt_of_le mb_x hb.size
  replace cell_u0 := (hb.cell (p := ⟨w10.heap.size, 0, none⟩) mb_u).trans cell_u0
  replace cell_u1 := (hb.cell (p := ⟨w10.heap.size, 1, none⟩) mb_u).trans cell_u1
  replace cell_u2 := (hb.cell (p := ⟨w10.heap.size, 2, none⟩) mb_u).trans cell_u2
  replace mb_u := Nat.lt_of_lt_of_le mb_u hb.size
  replace cell_s0 := (hb.cell (p := ⟨w12.heap.size, 0, none⟩) mb_s).trans cell_s0
  replace cell_s1 := (hb.cell (p := ⟨w12.heap.size, 1, none⟩) mb_s).trans cell_s1
  replace mb_s := Nat.lt_of_lt_of_le mb_s hb.size
  replace cell_y0 := (hb.cell (p := ⟨w14.heap.size, 0, none⟩) mb_y).trans cell_y0
  replace cell_y1 := (hb.cell (p := ⟨w14.heap.size, 1, none⟩) mb_y).trans cell_y1
  replace cell_y2 := (hb.cell (p := ⟨w14.heap.size, 2, none⟩) mb_y).trans cell_y2
  replace mb_y := Nat.lt_of_lt_of_le mb_y hb.size
  replace HB := Lib.hid (HB.out.trans (hb.mono HB.out.size))
  clear eb_y
  have Hz := Lib.hid (New.lab hn)
  obtain ⟨_, hv, -, xa_z, xc_z, hv2, -⟩ := Hz.out
  subst hv2
  subst hv
  generalize hn_z : Y.2.2.length = n_z at Hz ⊢
  have Hn_z := Lib.hid hn_z
  clear hn_z
  clear hn hb
  obtain ⟨w17, eb_z, hb, cell_z0, cell_z1, cell_z2, mb_z⟩ := boxA3_ex w16 26 (.int .i64 Y.1) (.int .i64 Y.2.1) (.slice xa_z n_z xc_z)
  replace HD := Lib.hid (BytR.frame _ _ _ _ HD.out hb)
  replace HMx := Lib.hid (MaxOk.below HMx.out hb)
  replace Hl := Lib.hid (LabR.frame _ _ _ _ Hl.out hb)
  replace Hwo := Lib.hid (StrsR.frame _ _ _ _ Hwo.out hb)
  replace Ha := Lib.hid (LabR.frame _ _ _ _ Ha.out hb)
  replace Ht := Lib.hid (LabR.frame _ _ _ _ Ht.out hb)
  replace Hx := Lib.hid (LabR.frame _ _ _ _ Hx.out hb)
  replace Hu := Lib.hid (LabR.frame _ _ _ _ Hu.out hb)
  replace Hs := Lib.hid (ShR.frame _ _ _ _ Hs.out hb)
  replace Hy := Lib.hid (LabR.frame _ _ _ _ Hy.out hb)
  replace Hz := Lib.hid (LabR.frame _ _ _ _ Hz.out hb)
  replace cell_l0 := (hb.cell (p := ⟨w1.heap.size, 0, none⟩) mb_l).trans cell_l0
  replace cell_l1 := (hb.cell (p := ⟨w1.heap.size, 1, none⟩) mb_l).trans cell_l1
  replace cell_l2 := (hb.cell (p := ⟨w1.heap.size, 2, none⟩) mb_l).trans cell_l2
  replace mb_l := Nat.lt_of_lt_of_le mb_l hb.size
  replace cell_a0 := (hb.cell (p := ⟨w4.heap.size, 0, none⟩) mb_a).trans cell_a0
  replace cell_a1 := (hb.cell (p := ⟨w4.heap.size, 1, none⟩) mb_a).trans cell_a1
  replace cell_a2 := (hb.cell (p := ⟨w4.heap.size, 2, none⟩) mb_a).trans cell_a2
  replace mb_a := Nat.lt_of_lt_of_le mb_a hb.size
  replace cell_t0 := (hb.cell (p := ⟨w6.heap.size, 0, none⟩) mb_t).trans cell_t0
  replace cell_t1 := (hb.cell (p := ⟨w6.heap.size, 1, none⟩) mb_t).trans cell_t1
  replace cell_t2 := (hb.cell (p := ⟨w6.heap.size, 2, none⟩) mb_t).trans cell_t2
  replace mb_t := Nat.lt_of_lt_of_le mb_t hb.size
  replace cell_x0 := (hb.cell (p := ⟨w8.heap.size, 0, none⟩) mb_x).trans cell_x0
  replace cell_x1 := (hb.cell (p := ⟨w8.heap.size, 1, none⟩) mb_x).trans cell_x1
  replace cell_x2 := (hb.cell (p := ⟨w8.heap.size, 2, none⟩) mb_x).trans cell_x2
  replace mb_x := Nat.lt_of_lt_of_le mb_x hb.size
  replace cell_u0 := (hb.cell (p := ⟨w10.heap.size, 0, none⟩) mb_u).trans cell_u0
  replace cell_u1 := (hb.cell (p := ⟨w10.heap.size, 1, none⟩) mb_u).trans cell_u1
  replace cell_u2 := (hb.cell (p := ⟨w10.heap.size, 2, none⟩) mb_u).trans cell_u2
  replace mb_u := Nat.lt_of_lt_of_le mb_u hb.size
  replace cell_s0 := (hb.cell (p := ⟨w12.heap.size, 0, none⟩) mb_s).trans cell_s0
  replace cell_s1 := (hb.cell (p := ⟨w12.heap.size, 1, none⟩) mb_s).trans cell_s1
  replace mb_s := Nat.lt_of_lt_of_le mb_s hb.size
  replace cell_y0 := (hb.cell (p := ⟨w14.heap.size, 0, none⟩) mb_y).trans cell_y0
  replace cell_y1 := (hb.cell (p := ⟨w14.heap.size, 1, none⟩) mb_y).trans cell_y1
  replace cell_y2 := (hb.cell (p := ⟨w14.heap.size, 2, none⟩) mb_y).trans cell_y2
  replace mb_y := Nat.lt_of_lt_of_le mb_y hb.size
  replace HB := Lib.hid (HB.out.trans (hb.mono HB.out.size))
  clear hb
  clear HMx
  have HQ := Lib.hid (DrawReadsWord_c HD.out)
  go_wp2_with fail
  (with_reducible refine HQ.out.mono ?_)
  clear HQ
  rintro e w18 ⟨vb', b, wd2, rfl, hn, hs, hb⟩
  replace HD := Lib.hid (BytR.frame _ _ _ _ HD.out hb)
  replace Hl := Lib.hid (LabR.frame _ _ _ _ Hl.out hb)
  replace Hwo := Lib.hid (StrsR.frame _ _ _ _ Hwo.out hb)
  replace Ha := Lib.hid (LabR.frame _ _ _ _ Ha.out hb)
  replace Ht := Lib.hid (LabR.frame _ _ _ _ Ht.out hb)
  replace Hx := Lib.hid (LabR.frame _ _ _ _ Hx.out hb)
  replace Hu := Lib.hid (LabR.frame _ _ _ _ Hu.out hb)
  replace Hs := Lib.hid (ShR.frame _ _ _ _ Hs.out hb)
  replace Hy := Lib.hid (LabR.frame _ _ _ _ Hy.out hb)
  replace Hz := Lib.hid (LabR.frame _ _ _ _ Hz.out hb)
  replace cell_l0 := (hb.cell (p := ⟨w1.heap.size, 0, none⟩) mb_l).trans cell_l0
  replace cell_l1 := (hb.cell (p := ⟨w1.heap.size, 1, none⟩) mb_l).trans cell_l1
  replace cell_l2 := (hb.cell (p := ⟨w1.heap.size, 2, none⟩) mb_l).trans cell_l2
  replace mb_l := Nat.lt_of_lt_of_le mb_l hb.size
  replace cell_a0 := (hb.cell (p := ⟨w4.heap.size, 0, none⟩) mb_a).trans cell_a0
  replace cell_a1 := (hb.cell (p := ⟨w4.heap.size, 1, none⟩) mb_a).trans cell_a1
  replace cell_a2 := (hb.cell (p := ⟨w4.heap.size, 2, none⟩) mb_a).trans cell_a2
  replace mb_a := Nat.lt_of_lt_of_le mb_a hb.size
  replace cell_t0 := (hb.cell (p := ⟨w6.heap.size, 0, none⟩) mb_t).trans cell_t0
  replace cell_t1 := (hb.cell (p := ⟨w6.heap.size, 1, none⟩) mb_t).trans cell_t1
  replace cell_t2 := (hb.cell (p := ⟨w6.heap.size, 2, none⟩) mb_t).trans cell_t2
  replace mb_t := Nat.lt_of_lt_of_le mb_t hb.size
  replace cell_x0 := (hb.cell (p := ⟨w8.heap.size, 0, none⟩) mb_x).trans cell_x0
  replace cell_x1 := (hb.cell (p := ⟨w8.heap.size, 1, none⟩) mb_x).trans cell_x1
  replace cell_x2 := (hb.cell (p := ⟨w8.heap.size, 2, none⟩) mb_x).trans cell_x2
  replace mb_x := Nat.lt_of_lt_of_le mb_x hb.size
  replace cell_u0 := (hb.cell (p := ⟨w10.heap.size, 0, none⟩) mb_u).trans cell_u0
  replace cell_u1 := (hb.cell (p := ⟨w10.heap.size, 1, none⟩) mb_u).trans cell_u1
  replace cell_u2 := (hb.cell (p := ⟨w10.heap.size, 2, none⟩) mb_u).trans cell_u2
  replace mb_u := Nat.lt_of_lt_of_le mb_u hb.size
  replace cell_s0 := (hb.cell (p := ⟨w12.heap.size, 0, none⟩) mb_s).trans cell_s0
  replace cell_s1 := (hb.cell (p := ⟨w12.heap.size, 1, none⟩) mb_s).trans cell_s1
  replace mb_s := Nat.lt_of_lt_of_le mb_s hb.size
  replace cell_y0 := (hb.cell (p := ⟨w14.heap.size, 0, none⟩) mb_y).trans cell_y0
  replace cell_y1 := (hb.cell (p := ⟨w14.heap.size, 1, none⟩) mb_y).trans cell_y1
  replace cell_y2 := (hb.cell (p := ⟨w14.heap.size, 2, none⟩) mb_y).trans cell_y2
  replace mb_y := Nat.lt_of_lt_of_le mb_y hb.size
  replace cell_z0 := (hb.cell (p := ⟨w16.heap.size, 0, none⟩) mb_z).trans cell_z0
  replace cell_z1 := (hb.cell (p := ⟨w16.heap.size, 1, none⟩) mb_z).trans cell_z1
  replace cell_z2 := (hb.cell (p := ⟨w16.heap.size, 2, none⟩) mb_z).trans cell_z2
  replace mb_z := Nat.lt_of_lt_of_le mb_z hb.size
  replace HB := Lib.hid (HB.out.trans (hb.mono HB.out.size))
  clear eb_z
  have Hwd2 := Lib.hid hs
  have Hb := Lib.hid (New.lab hn)
  obtain ⟨_, hv, -, xa_b, xc_b, hv2, -⟩ := Hb.out
  subst hv2
  subst hv
  generalize hn_b : b.2.2.length = n_b at Hb ⊢
  have Hn_b := Lib.hid hn_b
  clear hn_b
  clear hn hb hs
  obtain ⟨w19, eb_b, hb, cell_b0, cell_b1, cell_b2, mb_b⟩ := boxA3_ex w18 26 (.int .i64 b.1) (.int .i64 b.2.1) (.slice xa_b n_b xc_b)
  replace HD := Lib.hid (BytR.frame _ _ _ _ HD.out hb)
  replace Hl := Lib.hid (LabR.frame _ _ _ _ Hl.out hb)
  replace Hwo := Lib.hid (StrsR.frame _ _ _ _ Hwo.out hb)
  replace Ha := Lib.hid (LabR.frame _ _ _ _ Ha.out hb)
  replace Ht := Lib.hid (LabR.frame _ _ _ _ Ht.out hb)
  replace Hx := Lib.hid (LabR.frame _ _ _ _ Hx.out hb)
  replace Hu := Lib.hid (LabR.frame _ _ _ _ Hu.out hb)
  replace Hs := Lib.hid (ShR.frame _ _ _ _ Hs.out hb)
  replace Hy := Lib.hid (LabR.frame _ _ _ _ Hy.out hb)
  replace Hz := Lib.hid (LabR.frame _ _ _ _ Hz.out hb)
  replace Hb := Lib.hid (LabR.frame _ _ _ _ Hb.out hb)
  replace cell_l0 := (hb.cell (p := ⟨w1.heap.size, 0, none⟩) mb_l).trans cell_l0
  replace cell_l1 := (hb.cell (p := ⟨w1.heap.size, 1, none⟩) mb_l).trans cell_l1
  replace cell_l2 := (hb.cell (p := ⟨w1.heap.size, 2, none⟩) mb_l).trans cell_l2
  replace mb_l := Nat.lt_of_lt_of_le mb_l hb.size
  replace cell_a0 := (hb.cell (p := ⟨w4.heap.size, 0, none⟩) mb_a).trans cell_a0
  replace cell_a1 := (hb.cell (p := ⟨w4.heap.size, 1, none⟩) mb_a).trans cell_a1
  replace cell_a2 := (hb.cell (p := ⟨w4.heap.size, 2, none⟩) mb_a).trans cell_a2
  replace mb_a := Nat.lt_of_lt_of_le mb_a hb.size
  replace cell_t0 := (hb.cell (p := ⟨w6.heap.size, 0, none⟩) mb_t).trans cell_t0
  replace cell_t1 := (hb.cell (p := ⟨w6.heap.size, 1, none⟩) mb_t).trans cell_t1
  replace cell_t2 := (hb.cell (p := ⟨w6.heap.size, 2, none⟩) mb_t).trans cell_t2
  replace mb_t := Nat.lt_of_lt_of_le mb_t hb.size
  replace cell_x0 := (hb.cell (p := ⟨w8.heap.size, 0, none⟩) mb_x).trans cell_x0
  replace cell_x1 := (hb.cell (p := ⟨w8.heap.size, 1, none⟩) mb_x).trans cell_x1
  replace cell_x2 := (hb.cell (p := ⟨w8.heap.size, 2, none⟩) mb_x).trans cell_x2
  replace mb_x := Nat.lt_of_lt_of_le mb_x hb.size
  replace cell_u0 := (hb.cell (p := ⟨w10.heap.size, 0, none⟩) mb_u).trans cell_u0
  replace cell_u1 := (hb.cell (p := ⟨w10.heap.size, 1, none⟩) mb_u).trans cell_u1
  replace cell_u2 := (hb.cell (p := ⟨w10.heap.size, 2, none⟩) mb_u).trans cell_u2
  replace mb_u := Nat.lt_of_lt_of_le mb_u hb.size
  replace cell_s0 := (hb.cell (p := ⟨w12.heap.size, 0, none⟩) mb_s).trans cell_s0
  replace cell_s1 := (hb.cell (p := ⟨w12.heap.size, 1, none⟩) mb_s).trans cell_s1
  replace mb_s := Nat.lt_of_lt_of_le mb_s hb.size
  replace cell_y0 := (hb.cell (p := ⟨w14.heap.size, 0, none⟩) mb_y).trans cell_y0
  replace cell_y1 := (hb.cell (p := ⟨w14.heap.size, 1, none⟩) mb_y).trans cell_y1
  replace cell_y2 := (hb.cell (p := ⟨w14.heap.size, 2, none⟩) mb_y).trans cell_y2
  replace mb_y := Nat.lt_of_lt_of_le mb_y hb.size
  replace cell_z0 := (hb.cell (p := ⟨w16.heap.size, 0, none⟩) mb_z).trans cell_z0
  replace cell_z1 := (hb.cell (p := ⟨w16.heap.size, 1, none⟩) mb_z).trans cell_z1
  replace cell_z2 := (hb.cell (p := ⟨w16.heap.size, 2, none⟩) mb_z).trans cell_z2
  replace mb_z := Nat.lt_of_lt_of_le mb_z hb.size
  replace HB := Lib.hid (HB.out.trans (hb.mono HB.out.size))
  clear hb
  obtain ⟨M, h_M⟩ : ∃ bb_, bb_ = matV t := ⟨_, rfl⟩
  have H_M := Lib.hid h_M
  clear h_M
  obtain ⟨three, h_three⟩ : ∃ bb_, bb_ = matOk t := ⟨_, rfl⟩
  have H_three := Lib.hid h_three
  clear h_three
  have tn_three : (three != three) = false := by cases three <;> rfl
  have HQ := Lib.hid (impl_MatrixOf_c Ht.out)
  rw [← H_M.out] at HQ
  rw [← H_three.out] at HQ
  go_wp2_with fail
  (with_reducible refine HQ.out.mono ?_)
  clear HQ
  rintro e w20 ⟨vm, rfl, hn, hb⟩
  replace HD := Lib.hid (BytR.frame _ _ _ _ HD.out hb)
  replace Hl := Lib.hid (LabR.frame _ _ _ _ Hl.out hb)
  replace Hwo := Lib.hid (StrsR.frame _ _ _ _ Hwo.out hb)
  replace Ha := Lib.hid (LabR.frame _ _ _ _ Ha.out hb)
  replace Ht := Lib.hid (LabR.frame _ _ _ _ Ht.out hb)
  replace Hx := Lib.hid (LabR.frame _ _ _ _ Hx.out hb)
  replace Hu := Lib.hid (LabR.frame _ _ _ _ Hu.out hb)
  replace Hs := Lib.hid (ShR.frame _ _ _ _ Hs.out hb)
  replace Hy := Lib.hid (LabR.frame _ _ _ _ Hy.out hb)
  replace Hz := Lib.hid (LabR.frame _ _ _ _ Hz.out hb)
  replace Hb := Lib.hid (LabR.frame _ _ _ _ Hb.out hb)
  replace cell_l0 := (hb.cell (p := ⟨w1.heap.size, 0, none⟩) mb_l).trans cell_l0
  replace cell_l1 := (hb.cell (p := ⟨w1.heap.size, 1, none⟩) mb_l).trans cell_l1
  replace cell_l2 := (hb.cell (p := ⟨w1.heap.size, 2, none⟩) mb_l).trans cell_l2
  replace mb_l := Nat.lt_of_lt_of_le mb_l hb.size
  replace cell_a0 := (hb.cell (p := ⟨w4.heap.size, 0, none⟩) mb_a).trans cell_a0
  replace cell_a1 := (hb.cell (p := ⟨w4.heap.size, 1, none⟩) mb_a).trans cell_a1
  replace cell_a2 := (hb.cell (p := ⟨w4.heap.size, 2, none⟩) mb_a).trans cell_a2
  replace mb_a := Nat.lt_of_lt_of_le mb_a hb.size
  replace cell_t0 := (hb.cell (p := ⟨w6.heap.size, 0, none⟩) mb_t).trans cell_t0
  replace cell_t1 := (hb.cell (p := ⟨w6.heap.size, 1, none⟩) mb_t).trans cell_t1
  replace cell_t2 := (hb.cell (p := ⟨w6.heap.size, 2, none⟩) mb_t).trans cell_t2
  replace mb_t := Nat.lt_of_lt_of_le mb_t hb.size
  replace cell_x0 := (hb.cell (p := ⟨w8.heap.size, 0, none⟩) mb_x).trans cell_x0
  replace cell_x1 := (hb.cell (p := ⟨w8.heap.size, 1, none⟩) mb_x).trans cell_x1
  replace cell_x2 := (hb.cell (p := ⟨w8.heap.size, 2, none⟩) mb_x).trans cell_x2
  replace mb_x := Nat.lt_of_lt_of_le mb_x hb.size
  replace cell_u0 := (hb.cell (p := ⟨w10.heap.size, 0, none⟩) mb_u).trans cell_u0
  replace cell_u1 := (hb.cell (p := ⟨w10.heap.size, 1, none⟩) mb_u).trans cell_u1
  replace cell_u2 := (hb.cell (p := ⟨w10.heap.size, 2, none⟩) mb_u).trans cell_u2
  replace mb_u := Nat.lt_of_lt_of_le mb_u hb.size
  replace cell_s0 := (hb.cell (p := ⟨w12.heap.size, 0, none⟩) mb_s).trans cell_s0
  replace cell_s1 := (hb.cell (p := ⟨w12.heap.size, 1, none⟩) mb_s).trans cell_s1
  replace mb_s := Nat.lt_of_lt_of_le mb_s hb.size
  replace cell_y0 := (hb.cell (p := ⟨w14.heap.size, 0, none⟩) mb_y).trans cell_y0
  replace cell_y1 := (hb.cell (p := ⟨w14.heap.size, 1, none⟩) mb_y).trans cell_y1
  replace cell_y2 := (hb.cell (p := ⟨w14.heap.size, 2, none⟩) mb_y).trans cell_y2
  replace mb_y := Nat.lt_of_lt_of_le mb_y hb.size
  replace cell_z0 := (hb.cell (p := ⟨w16.heap.size, 0, none⟩) mb_z).trans cell_z0
  replace cell_z1 := (hb.cell (p := ⟨w16.heap.size, 1, none⟩) mb_z).trans cell_z1
  replace cell_z2 := (hb.cell (p := ⟨w16.heap.size, 2, none⟩) mb_z).trans cell_z2
  replace mb_z := Nat.lt_of_lt_of_le mb_z hb.size
  replace cell_b0 := (hb.cell (p := ⟨w18.heap.size, 0, none⟩) mb_b).trans cell_b0
  replace cell_b1 := (hb.cell (p := ⟨w18.heap.size, 1, none⟩) mb_b).trans cell_b1
  replace cell_b2 := (hb.cell (p := ⟨w18.heap.size, 2, none⟩) mb_b).trans cell_b2
  replace mb_b := Nat.lt_of_lt_of_le mb_b hb.size
  replace HB := Lib.hid (HB.out.trans (hb.mono HB.out.size))
  clear eb_b
  have Hm := Lib.hid (hn.tab)
  obtain ⟨sa_m, sc_m, hv, -⟩ := Hm.out.shape
  subst hv
  generalize hn_m : (M).length = n_m at Hm ⊢
  have Hn_m := Lib.hid hn_m
  clear hn_m
  clear hn hb
  have HQ := Lib.hid (spec_MatrixOf_c Ht.out)
  rw [← H_M.out] at HQ
  rw [← H_three.out] at HQ
  go_wp2_with fail
  (with_reducible refine HQ.out.mono ?_)
  clear HQ
  rintro e w21 ⟨vk, rfl, hn, hb⟩
  replace HD := Lib.hid (BytR.frame _ _ _ _ HD.out hb)
  replace Hl := Lib.hid (LabR.frame _ _ _ _ Hl.out hb)
  replace Hwo := Lib.hid (StrsR.frame _ _ _ _ Hwo.out hb)
  replace Ha := Lib.hid (LabR.frame _ _ _ _ Ha.out hb)
  replace Ht := Lib.hid (LabR.frame _ _ _ _ Ht.out hb)
  replace Hx := Lib.hid (LabR.frame _ _ _ _ Hx.out hb)
  replace Hu := Lib.hid (LabR.frame _ _ _ _ Hu.out hb)
  replace Hs := Lib.hid (ShR.frame _ _ _ _ Hs.out hb)
  replace Hy := Lib.hid (LabR.frame _ _ _ _ Hy.out hb)
  replace Hz := Lib.hid (LabR.frame _ _ _ _ Hz.out hb)
  replace Hb := Lib.hid (LabR.frame _ _ _ _ Hb.out hb)
  replace Hm := Lib.hid (Tab.frame _ _ _ _ Hm.out hb)
  replace cell_l0 := (hb.cell (p := ⟨w1.heap.size, 0, none⟩) mb_l).trans cell_l0
  replace cell_l1 := (hb.cell (p := ⟨w1.heap.size, 1, none⟩) mb_l).trans cell_l1
  replace cell_l2 := (hb.cell (p := ⟨w1.heap.size, 2, none⟩) mb_l).trans cell_l2
  replace mb_l := Nat.lt_of_lt_of_le mb_l hb.size
  replace cell_a0 := (hb.cell (p := ⟨w4.heap.size, 0, none⟩) mb_a).trans cell_a0
  replace cell_a1 := (hb.cell (p := ⟨w4.heap.size, 1, none⟩) mb_a).trans cell_a1
  replace cell_a2 := (hb.cell (p := ⟨w4.heap.size, 2, none⟩) mb_a).trans cell_a2
  replace mb_a := Nat.lt_of_lt_of_le mb_a hb.size
  replace cell_t0 := (hb.cell (p := ⟨w6.heap.size, 0, none⟩) mb_t).trans cell_t0
  replace cell_t1 := (hb.cell (p := ⟨w6.heap.size, 1, none⟩) mb_t).trans cell_t1
  replace cell_t2 := (hb.cell (p := ⟨w6.heap.size, 2, none⟩) mb_t).trans cell_t2
  replace mb_t := Nat.lt_of_lt_of_le mb_t hb.size
  replace cell_x0 := (hb.cell (p := ⟨w8.heap.size, 0, none⟩) mb_x).trans cell_x0
  replace cell_x1 := (hb.cell (p := ⟨w8.heap.size, 1, none⟩) mb_x).trans cell_x1
  replace cell_x2 := (hb.cell (p := ⟨w8.heap.size, 2, none⟩) mb_x).trans cell_x2
  replace mb_x := Nat.lt_of_lt_of_le mb_x hb.size
  replace cell_u0 := (hb.cell (p := ⟨w10.heap.size, 0, none⟩) mb_u).trans cell_u0
  replace cell_u1 := (hb.cell (p := ⟨w10.heap.size, 1, none⟩) mb_u).trans cell_u1
  replace cell_u2 := (hb.cell (p := ⟨w10.heap.size, 2, none⟩) mb_u).trans cell_u2
  replace mb_u := Nat.lt_of_lt_of_le mb_u hb.size
  replace cell_s0 := (hb.cell (p := ⟨w12.heap.size, 0, none⟩) mb_s).trans cell_s0
  replace cell_s1 := (hb.cell (p := ⟨w12.heap.size, 1, none⟩) mb_s).trans cell_s1
  replace mb_s := Nat.lt_of_lt_of_le mb_s hb.size
  replace cell_y0 := (hb.cell (p := ⟨w14.heap.size, 0, none⟩) mb_y).trans cell_y0
  replace cell_y1 := (hb.cell (p := ⟨w14.heap.size, 1, none⟩) mb_y).trans cell_y1
  replace cell_y2 := (hb.cell (p := ⟨w14.heap.size, 2, none⟩) mb_y).trans cell_y2
  replace mb_y := Nat.lt_of_lt_of_le mb_y hb.size
  replace cell_z0 := (hb.cell (p := ⟨w16.heap.size, 0, none⟩) mb_z).trans cell_z0
  replace cell_z1 := (hb.cell (p := ⟨w16.heap.size, 1, none⟩) mb_z).trans cell_z1
  replace cell_z2 := (hb.cell (p := ⟨w16.heap.size, 2, none⟩) mb_z).trans cell_z2
  replace mb_z := Nat.lt_of_lt_of_le mb_z hb.size
  replace cell_b0 := (hb.cell (p := ⟨w18.heap.size, 0, none⟩) mb_b).trans cell_b0
  replace cell_b1 := (hb.cell (p := ⟨w18.heap.size, 1, none⟩) mb_b).trans cell_b1
  replace cell_b2 := (hb.cell (p := ⟨w18.heap.size, 2, none⟩) mb_b).trans cell_b2
  replace mb_b := Nat.lt_of_lt_of_le mb_b hb.size
  replace HB := Lib.hid (HB.out.trans (hb.mono HB.out.size))
  have Hk := Lib.hid (hn.tab)
  obtain ⟨sa_k, sc_k, hv, -⟩ := Hk.out.shape
  subst hv
  rw [Hn_m.out] at Hk ⊢
  clear hn hb
  have HQ := Lib.hid (DrawEqualLabels_c HD.out)
  go_wp2_with fail
  (with_reducible refine HQ.out.mono ?_)
  clear HQ
  rintro e w22 ⟨vc', vd', c, d, rfl, tc, td, hb⟩
  replace HD := Lib.hid (BytR.frame _ _ _ _ HD.out hb)
  replace Hl := Lib.hid (LabR.frame _ _ _ _ Hl.out hb)
  replace Hwo := Lib.hid (StrsR.frame _ _ _ _ Hwo.out hb)
  replace Ha := Lib.hid (LabR.frame _ _ _ _ Ha.out hb)
  replace Ht := Lib.hid (LabR.frame _ _ _ _ Ht.out hb)
  replace Hx := Lib.hid (LabR.frame _ _ _ _ Hx.out hb)
  replace Hu := Lib.hid (LabR.frame _ _ _ _ Hu.out hb)
  replace Hs := Lib.hid (ShR.frame _ _ _ _ Hs.out hb)
  replace Hy := Lib.hid (LabR.frame _ _ _ _ Hy.out hb)
  replace Hz := Lib.hid (LabR.frame _ _ _ _ Hz.out hb)
  replace Hb := Lib.hid (LabR.frame _ _ _ _ Hb.out hb)
  replace Hm := Lib.hid (Tab.frame _ _ _ _ Hm.out hb)
  replace Hk := Lib.hid (Tab.frame _ _ _ _ Hk.out hb)
  replace cell_l0 := (hb.cell (p := ⟨w1.heap.size, 0, none⟩) mb_l).trans cell_l0
  replace cell_l1 := (hb.cell (p := ⟨w1.heap.size, 1, none⟩) mb_l).trans cell_l1
  replace cell_l2 := (hb.cell (p := ⟨w1.heap.size, 2, none⟩) mb_l).trans cell_l2
  replace mb_l := Nat.lt_of_lt_of_le mb_l hb.size
  replace cell_a0 := (hb.cell (p := ⟨w4.heap.size, 0, none⟩) mb_a).trans cell_a0
  replace cell_a1 := (hb.cell (p := ⟨w4.heap.size, 1, none⟩) mb_a).trans cell_a1
  replace cell_a2 := (hb.cell (p := ⟨w4.heap.size, 2, none⟩) mb_a).trans cell_a2
  replace mb_a := Nat.lt_of_lt_of_le mb_a hb.size
  replace cell_t0 := (hb.cell (p := ⟨w6.heap.size, 0, none⟩) mb_t).trans cell_t0
  replace cell_t1 := (hb.cell (p := ⟨w6.heap.size, 1, none⟩) mb_t).trans cell_t1
  replace cell_t2 := (hb.cell (p := ⟨w6.heap.size, 2, none⟩) mb_t).trans cell_t2
  replace mb_t := Nat.lt_of_lt_of_le mb_t hb.size
  replace cell_x0 := (hb.cell (p := ⟨w8.heap.size, 0, none⟩) mb_x).trans cell_x0
  replace cell_x1 := (hb.cell (p := ⟨w8.heap.size, 1, none⟩) mb_x).trans cell_x1
  replace cell_x2 := (hb.cell (p := ⟨w8.heap.size, 2, none⟩) mb_x).trans cell_x2
  replace mb_x := Nat.lt_of_lt_of_le mb_x hb.size
  replace cell_u0 := (hb.cell (p := ⟨w10.heap.size, 0, none⟩) mb_u).trans cell_u0
  replace cell_u1 := (hb.cell (p := ⟨w10.heap.size, 1, none⟩) mb_u).trans cell_u1
  replace cell_u2 := (hb.cell (p := ⟨w10.heap.size, 2, none⟩) mb_u).trans cell_u2
  replace mb_u := Nat.lt_of_lt_of_le mb_u hb.size
  replace cell_s0 := (hb.cell (p := ⟨w12.heap.size, 0, none⟩) mb_s).trans cell_s0
  replace cell_s1 := (hb.cell (p := ⟨w12.heap.size, 1, none⟩) mb_s).trans cell_s1
  replace mb_s := Nat.lt_of_lt_of_le mb_s hb.size
  replace cell_y0 := (hb.cell (p := ⟨w14.heap.size, 0, none⟩) mb_y).trans cell_y0
  replace cell_y1 := (hb.cell (p := ⟨w14.heap.size, 1, none⟩) mb_y).trans cell_y1
  replace cell_y2 := (hb.cell (p := ⟨w14.heap.size, 2, none⟩) mb_y).trans cell_y2
  replace mb_y := Nat.lt_of_lt_of_le mb_y hb.size
  replace cell_z0 := (hb.cell (p := ⟨w16.heap.size, 0, none⟩) mb_z).trans cell_z0
  replace cell_z1 := (hb.cell (p := ⟨w16.heap.size, 1, none⟩) mb_z).trans cell_z1
  replace cell_z2 := (hb.cell (p := ⟨w16.heap.size, 2, none⟩) mb_z).trans cell_z2
  replace mb_z := Nat.lt_of_lt_of_le mb_z hb.size
  replace cell_b0 := (hb.cell (p := ⟨w18.heap.size, 0, none⟩) mb_b).trans cell_b0
  replace cell_b1 := (hb.cell (p := ⟨w18.heap.size, 1, none⟩) mb_b).trans cell_b1
  replace cell_b2 := (hb.cell (p := ⟨w18.heap.size, 2, none⟩) mb_b).trans cell_b2
  replace mb_b := Nat.lt_of_lt_of_le mb_b hb.size
  replace HB := Lib.hid (HB.out.trans (hb.mono HB.out.size))
  have Hc := Lib.hid (tc)
  obtain ⟨_, hv, -, xa_c, xc_c, hv2, -⟩ := Hc.out
  subst hv2
  subst hv
  generalize hn_c : c.2.2.length = n_c at Hc ⊢
  have Hn_c := Lib.hid hn_c
  clear hn_c
  have Hd := Lib.hid (td)
  obtain ⟨_, hv, -, xa_d, xc_d, hv2, -⟩ := Hd.out
  subst hv2
  subst hv
  generalize hn_d : d.2.2.length = n_d at Hd ⊢
  have Hn_d := Lib.hid hn_d
  clear hn_d
  clear tc td hb
  obtain ⟨w23, eb_c, hb, cell_c0, cell_c1, cell_c2, mb_c⟩ := boxA3_ex w22 26 (.int .i64 c.1) (.int .i64 c.2.1) (.slice xa_c n_c xc_c)
  replace HD := Lib.hid (BytR.frame _ _ _ _ HD.out hb)
  replace Hl := Lib.hid (LabR.frame _ _ _ _ Hl.out hb)
  replace Hwo := Lib.hid (StrsR.frame _ _ _ _ Hwo.out hb)
  replace Ha := Lib.hid (LabR.frame _ _ _ _ Ha.out hb)
  replace Ht := Lib.hid (LabR.frame _ _ _ _ Ht.out hb)
  replace Hx := Lib.hid (LabR.frame _ _ _ _ Hx.out hb)
  replace Hu := Lib.hid (LabR.frame _ _ _ _ Hu.out hb)
  replace Hs := Lib.hid (ShR.frame _ _ _ _ Hs.out hb)
  replace Hy := Lib.hid (LabR.frame _ _ _ _ Hy.out hb)
  replace Hz := Lib.hid (LabR.frame _ _ _ _ Hz.out hb)
  replace Hb := Lib.hid (LabR.frame _ _ _ _ Hb.out hb)
  replace Hm := Lib.hid (Tab.frame _ _ _ _ Hm.out hb)
  replace Hk := Lib.hid (Tab.frame _ _ _ _ Hk.out hb)
  replace Hc := Lib.hid (LabR.frame _ _ _ _ Hc.out hb)
  replace Hd := Lib.hid (LabR.frame _ _ _ _ Hd.out hb)
  replace cell_l0 := (hb.cell (p := ⟨w1.heap.size, 0, none⟩) mb_l).trans cell_l0
  replace cell_l1 := (hb.cell (p := ⟨w1.heap.size, 1, none⟩) mb_l).trans cell_l1
  replace cell_l2 := (hb.cell (p := ⟨w1.heap.size, 2, none⟩) mb_l).trans cell_l2
  replace mb_l := Nat.lt_of_lt_of_le mb_l hb.size
  replace cell_a0 := (hb.cell (p := ⟨w4.heap.size, 0, none⟩) mb_a).trans cell_a0
  replace cell_a1 := (hb.cell (p := ⟨w4.heap.size, 1, none⟩) mb_a).trans cell_a1
  replace cell_a2 := (hb.cell (p := ⟨w4.heap.size, 2, none⟩) mb_a).trans cell_a2
  replace mb_a := Nat.lt_of_lt_of_le mb_a hb.size
  replace cell_t0 := (hb.cell (p := ⟨w6.heap.size, 0, none⟩) mb_t).trans cell_t0
  replace cell_t1 := (hb.cell (p := ⟨w6.heap.size, 1, none⟩) mb_t).trans cell_t1
  replace cell_t2 := (hb.cell (p := ⟨w6.heap.size, 2, none⟩) mb_t).trans cell_t2
  replace mb_t := Nat.lt_of_lt_of_le mb_t hb.size
  replace cell_x0 := (hb.cell (p := ⟨w8.heap.size, 0, none⟩) mb_x).trans cell_x0
  replace cell_x1 := (hb.cell (p := ⟨w8.heap.size, 1, none⟩) mb_x).trans cell_x1
  replace cell_x2 := (hb.cell (p := ⟨w8.heap.size, 2, none⟩) mb_x).trans cell_x2
  replace mb_x := Nat.lt_of_lt_of_le mb_x hb.size
  replace cell_u0 := (hb.cell (p := ⟨w10.heap.size, 0, none⟩) mb_u).trans cell_u0
  replace cell_u1 := (hb.cell (p := ⟨w10.heap.size, 1, none⟩) mb_u).trans cell_u1
  replace cell_u2 := (hb.cell (p := ⟨w10.heap.size, 2, none⟩) mb_u).trans cell_u2
  replace mb_u := Nat.lt_of_lt_of_le mb_u hb.size
  replace cell_s0 := (hb.cell (p := ⟨w12.heap.size, 0, none⟩) mb_s).trans cell_s0
  replace cell_s1 := (hb.cell (p := ⟨w12.heap.size, 1, none⟩) mb_s).trans cell_s1
  replace mb_s := Nat.lt_of_lt_of_le mb_s hb.size
  replace cell_y0 := (hb.cell (p := ⟨w14.heap.size, 0, none⟩) mb_y).trans cell_y0
  replace cell_y1 := (hb.cell (p := ⟨w14.heap.size, 1, none⟩) mb_y).trans cell_y1
  replace cell_y2 := (hb.cell (p := ⟨w14.heap.size, 2, none⟩) mb_y).trans cell_y2
  replace mb_y := Nat.lt_of_lt_of_le mb_y hb.size
  replace cell_z0 := (hb.cell (p := ⟨w16.heap.size, 0, none⟩) mb_z).trans cell_z0
  replace cell_z1 := (hb.cell (p := ⟨w16.heap.size, 1, none⟩) mb_z).trans cell_z1
  replace cell_z2 := (hb.cell (p := ⟨w16.heap.size, 2, none⟩) mb_z).trans cell_z2
  replace mb_z := Nat.lt_of_lt_of_le mb_z hb.size
  replace cell_b0 := (hb.cell (p := ⟨w18.heap.size, 0, none⟩) mb_b).trans cell_b0
  replace cell_b1 := (hb.cell (p := ⟨w18.heap.size, 1, none⟩) mb_b).trans cell_b1
  replace cell_b2 := (hb.cell (p := ⟨w18.heap.size, 2, none⟩) mb_b).trans cell_b2
  replace mb_b := Nat.lt_of_lt_of_le mb_b hb.size
  replace HB := Lib.hid (HB.out.trans (hb.mono HB.out.size))
  clear hb
  have z_c : w23.heap.size = w22.heap.size + 1 := by rw [← eb_c]; simp
  obtain ⟨w24, eb_d, hb, cell_d0, cell_d1, cell_d2, mb_d⟩ := boxA3_ex w23 26 (.int .i64 d.1) (.int .i64 d.2.1) (.slice xa_d n_d xc_d)
  replace HD := Lib.hid (BytR.frame _ _ _ _ HD.out hb)
  replace Hl := Lib.hid (LabR.frame _ _ _ _ Hl.out hb)
  replace Hwo := Lib.hid (StrsR.frame _ _ _ _ Hwo.out hb)
  replace Ha := Lib.hid (LabR.frame _ _ _ _ Ha.out hb)
  replace Ht := Lib.hid (LabR.frame _ _ _ _ Ht.out hb)
  replace Hx := Lib.hid (LabR.frame _ _ _ _ Hx.out hb)
  replace Hu := Lib.hid (LabR.frame _ _ _ _ Hu.out hb)
  replace Hs := Lib.hid (ShR.frame _ _ _ _ Hs.out hb)
  replace Hy := Lib.hid (LabR.frame _ _ _ _ Hy.out hb)
  replace Hz := Lib.hid (LabR.frame _ _ _ _ Hz.out hb)
  replace Hb := Lib.hid (LabR.frame _ _ _ _ Hb.out hb)
  replace Hm := Lib.hid (Tab.frame _ _ _ _ Hm.out hb)
  replace Hk := Lib.hid (Tab.frame _ _ _ _ Hk.out hb)
  replace Hc := Lib.hid (LabR.frame _ _ _ _ Hc.out hb)
  replace Hd := Lib.hid (LabR.frame _ _ _ _ Hd.out hb)
  replace cell_l0 := (hb.cell (p := ⟨w1.heap.size, 0, none⟩) mb_l).trans cell_l0
  replace cell_l1 := (hb.cell (p := ⟨w1.heap.size, 1, none⟩) mb_l).trans cell_l1
  replace cell_l2 := (hb.cell (p := ⟨w1.heap.size, 2, none⟩) mb_l).trans cell_l2
  replace mb_l := Nat.lt_of_lt_of_le mb_l hb.size
  replace cell_a0 := (hb.cell (p := ⟨w4.heap.size, 0, none⟩) mb_a).trans cell_a0
  replace cell_a1 := (hb.cell (p := ⟨w4.heap.size, 1, none⟩) mb_a).trans cell_a1
  replace cell_a2 := (hb.cell (p := ⟨w4.heap.size, 2, none⟩) mb_a).trans cell_a2
  replace mb_a := Nat.lt_of_lt_of_le mb_a hb.size
  replace cell_t0 := (hb.cell (p := ⟨w6.heap.size, 0, none⟩) mb_t).trans cell_t0
  replace cell_t1 := (hb.cell (p := ⟨w6.heap.size, 1, none⟩) mb_t).trans cell_t1
  replace cell_t2 := (hb.cell (p := ⟨w6.heap.size, 2, none⟩) mb_t).trans cell_t2
  replace mb_t := Nat.lt_of_lt_of_le mb_t hb.size
  replace cell_x0 := (hb.cell (p := ⟨w8.heap.size, 0, none⟩) mb_x).trans cell_x0
  replace cell_x1 := (hb.cell (p := ⟨w8.heap.size, 1, none⟩) mb_x).trans cell_x1
  replace cell_x2 := (hb.cell (p := ⟨w8.heap.size, 2, none⟩) mb_x).trans cell_x2
  replace mb_x := Nat.lt_of_lt_of_le mb_x hb.size
  replace cell_u0 := (hb.cell (p := ⟨w10.heap.size, 0, none⟩) mb_u).trans cell_u0
  replace cell_u1 := (hb.cell (p := ⟨w10.heap.size, 1, none⟩) mb_u).trans cell_u1
  replace cell_u2 := (hb.cell (p := ⟨w10.heap.size, 2, none⟩) mb_u).trans cell_u2
  replace mb_u := Nat.lt_of_lt_of_le mb_u hb.size
  replace cell_s0 := (hb.cell (p := ⟨w12.heap.size, 0, none⟩) mb_s).trans cell_s0
  replace cell_s1 := (hb.cell (p := ⟨w12.heap.size, 1, none⟩) mb_s).trans cell_s1
  replace mb_s := Nat.lt_of_lt_of_le mb_s hb.size
  replace cell_y0 := (hb.cell (p := ⟨w14.heap.size, 0, none⟩) mb_y).trans cell_y0
  replace cell_y1 := (hb.cell (p := ⟨w14.heap.size, 1, none⟩) mb_y).trans cell_y1
  replace cell_y2 := (hb.cell (p := ⟨w14.heap.size, 2, none⟩) mb_y).trans cell_y2
  replace mb_y := Nat.lt_of_lt_of_le mb_y hb.size
  replace cell_z0 := (hb.cell (p := ⟨w16.heap.size, 0, none⟩) mb_z).trans cell_z0
  replace cell_z1 := (hb.cell (p := ⟨w16.heap.size, 1, none⟩) mb_z).trans cell_z1
  replace cell_z2 := (hb.cell (p := ⟨w16.heap.size, 2, none⟩) mb_z).trans cell_z2
  replace mb_z := Nat.lt_of_lt_of_le mb_z hb.size
  replace cell_b0 := (hb.cell (p := ⟨w18.heap.size, 0, none⟩) mb_b).trans cell_b0
  replace cell_b1 := (hb.cell (p := ⟨w18.heap.size, 1, none⟩) mb_b).trans cell_b1
  replace cell_b2 := (hb.cell (p := ⟨w18.heap.size, 2, none⟩) mb_b).trans cell_b2
  replace mb_b := Nat.lt_of_lt_of_le mb_b hb.size
  replace cell_c0 := (hb.cell (p := ⟨w22.heap.size, 0, none⟩) mb_c).trans cell_c0
  replace cell_c1 := (hb.cell (p := ⟨w22.heap.size, 1, none⟩) mb_c).trans cell_c1
  replace cell_c2 := (hb.cell (p := ⟨w22.heap.size, 2, none⟩) mb_c).trans cell_c2
  replace mb_c := Nat.lt_of_lt_of_le mb_c hb.size
  replace HB := Lib.hid (HB.out.trans (hb.mono HB.out.size))
  clear hb
  rw [z_c] at cell_d0 cell_d1 cell_d2 mb_d
  have HE_c := Lib.hid eb_c
  have HE_d := Lib.hid eb_d
  clear eb_c eb_d z_c
  clear HD
  obtain ⟨F1, h_F1⟩ : ∃ bb_, bb_ = readFromM a set wd1 := ⟨_, rfl⟩
  have H_F1 := Lib.hid h_F1
  clear h_F1
  obtain ⟨Q1, h_Q1⟩ : ∃ bb_, bb_ = readsM b wd2 := ⟨_, rfl⟩
  have H_Q1 := Lib.hid h_Q1
  clear h_Q1
  have tn_Q1 : (Q1 != Q1) = false := by cases Q1 <;> rfl
  obtain ⟨E1, h_E1⟩ : ∃ bb_, bb_ = decide (c = d) := ⟨_, rfl⟩
  have H_E1 := Lib.hid h_E1
  clear h_E1
  have tn_E1 : (E1 != E1) = false := by cases E1 <;> rfl
  obtain ⟨I1, h_I1⟩ : ∃ bb_, bb_ = isLab t := ⟨_, rfl⟩
  have H_I1 := Lib.hid h_I1
  clear h_I1
  have tn_I1 : (I1 != I1) = false := by cases I1 <;> rfl
  obtain ⟨TX, h_TX⟩ : ∃ bb_, bb_ = labText t := ⟨_, rfl⟩
  have H_TX := Lib.hid h_TX
  clear h_TX
  have tn_F1 : (F1 != F1) = false := by simp
  have tn_TX : (TX.toList != TX.toList) = false := by simp
  go_upto_region 16 with fail
  rw [HE_c.out, HE_d.out]
  clear HE_c HE_d
  go_cut [171] (fun sB0 wx => sB0 = .bool false ∧ Hid (Below w.heap.size w wx) ∧ Hid (LabR wx (.agg #[.int .i64 X.1, .int .i64 X.2.1, .slice xa_x n_x xc_x]) X) ∧ wx.cell? ⟨w8.heap.size, 0, none⟩ = some (.int .i64 X.1) ∧ wx.cell? ⟨w8.heap.size, 1, none⟩ = some (.int .i64 X.2.1) ∧ wx.cell? ⟨w8.heap.size, 2, none⟩ = some (.slice xa_x n_x xc_x) ∧ w8.heap.size < wx.heap.size ∧ Hid (LabR wx (.agg #[.int .i64 t.1, .int .i64 t.2.1, .slice xa_t n_t xc_t]) t) ∧ wx.cell? ⟨w6.heap.size, 0, none⟩ = some (.int .i64 t.1) ∧ wx.cell? ⟨w6.heap.size, 1, none⟩ = some (.int .i64 t.2.1) ∧ wx.cell? ⟨w6.heap.size, 2, none⟩ = some (.slice xa_t n_t xc_t) ∧ w6.heap.size < wx.heap.size ∧ Hid (LabR wx (.agg #[.int .i64 Y.1, .int .i64 Y.2.1, .slice xa_y n_y xc_y]) Y) ∧ wx.cell? ⟨w14.heap.size, 0, none⟩ = some (.int .i64 Y.1) ∧ wx.cell? ⟨w14.heap.size, 1, none⟩ = some (.int .i64 Y.2.1) ∧ wx.cell? ⟨w14.heap.size, 2, none⟩ = some (.slice xa_y n_y xc_y) ∧ w14.heap.size < wx.heap.size ∧ Hid (ShR wx (.agg #[.int .i64 s.1, .slice xa_s n_s xc_s]) s) ∧ wx.cell? ⟨w12.heap.size, 0, none⟩ = some (.int .i64 s.1) ∧ wx.cell? ⟨w12.heap.size, 1, none⟩ = some (.slice xa_s n_s xc_s) ∧ w12.heap.size < wx.heap.size ∧ Hid (Tab wx (.slice sa_m n_m sc_m) M))
  case first =>
    as_aux_lemma =>
      have K1 := Lib.hid (fun (w' : World) (hb : Below w24.heap.size w24 w') => spec_ReadWords_c (nn := n) (LabR.frame _ _ _ _ Hl.out hb) (show I64 n from by have := Hnb.out; unfold I64; omega))
      rw [← H_RW.out] at K1
      have K2 := Lib.hid (fun (w' : World) (v1 v2 : Value) (h1 : StrsR w' v1 RW) (h2 : StrsR w' v2 RW) => sameTexts_b h1 h2)
      have K3 := Lib.hid (fun (w' : World) (hb : Below w24.heap.size w24 w') => impl_ReadFrom_c (set := set) (LabR.frame _ _ _ _ Ha.out hb) (show I64 set from by have := Hset.out; unfold I64; omega) (s := wd1) (by unfold maxLen; have := Hwd1.out; omega))
      rw [← H_F1.out] at K3
      have K4 := Lib.hid (fun (w' : World) (hb : Below w24.heap.size w24 w') => spec_ReadFrom_c (set := set) (LabR.frame _ _ _ _ Ha.out hb) (show I64 set from by have := Hset.out; unfold I64; omega) (s := wd1) (by unfold maxLen; have := Hwd1.out; omega))
      rw [← H_F1.out] at K4
      have K5 := Lib.hid (fun (w' : World) (hb : Below w24.heap.size w24 w') => sameLabels_same (LabR.frame _ _ _ _ Hx.out hb) (LabR.frame _ _ _ _ Hu.out hb))
      have K6 := Lib.hid (fun (w' : World) (hb : Below w24.heap.size w24 w') => sameLabels_same (LabR.frame _ _ _ _ Hy.out hb) (LabR.frame _ _ _ _ Hz.out hb))
      have K7 := Lib.hid (fun (w' : World) (hb : Below w24.heap.size w24 w') => impl_ReadsWord_c (LabR.frame _ _ _ _ Hb.out hb) (s := wd2) (by unfold maxLen; have := Hwd2.out; omega))
      rw [← H_Q1.out] at K7
      have K8 := Lib.hid (fun (w' : World) (hb : Below w24.heap.size w24 w') => spec_ReadsWord_c (LabR.frame _ _ _ _ Hb.out hb) (s := wd2) (by unfold maxLen; have := Hwd2.out; omega))
      rw [← H_Q1.out] at K8
      have K9 := Lib.hid (fun (w' : World) (hb : Below w24.heap.size w24 w') => sameLists_b (Tab.frame _ _ _ _ Hm.out hb) (Tab.frame _ _ _ _ Hk.out hb))
      rw [decide_eq_true (rfl : M = M)] at K9
      have K10 := Lib.hid (fun (w' : World) (hb : Below w24.heap.size w24 w') => impl_EqualLabels_c (LabR.frame _ _ _ _ Hc.out hb) (LabR.frame _ _ _ _ Hd.out hb))
      rw [← H_E1.out] at K10
      have K11 := Lib.hid (fun (w' : World) (hb : Below w24.heap.size w24 w') => sameLabels_c (LabR.frame _ _ _ _ Hc.out hb) (LabR.frame _ _ _ _ Hd.out hb))
      rw [← H_E1.out] at K11
      have K12 := Lib.hid (fun (w' : World) (hb : Below w24.heap.size w24 w') => impl_IsLabels_c (LabR.frame _ _ _ _ Ht.out hb))
      rw [← H_I1.out] at K12
      have K13 := Lib.hid (fun (w' : World) (hb : Below w24.heap.size w24 w') => spec_IsLabels_c (LabR.frame _ _ _ _ Ht.out hb))
      rw [← H_I1.out] at K13
      have K14 := Lib.hid (fun (w' : World) (hb : Below w24.heap.size w24 w') => impl_LabelsText_c (LabR.frame _ _ _ _ Ht.out hb) Ht82.out)
      rw [← H_TX.out] at K14
      have K15 := Lib.hid (fun (w' : World) (hb : Below w24.heap.size w24 w') => spec_LabelsText_c (LabR.frame _ _ _ _ Ht.out hb) Ht82.out)
      rw [← H_TX.out] at K15
      have HSS := Lib.hid (fun (w' : World) (hb : Below w24.heap.size w24 w') => (show w'.cell? ⟨w1.heap.size, 0, none⟩ = some (.int .i64 l.1) ∧ w'.cell? ⟨w1.heap.size, 1, none⟩ = some (.int .i64 l.2.1) ∧ w'.cell? ⟨w1.heap.size, 2, none⟩ = some (.slice xa_l n_l xc_l) ∧ w'.cell? ⟨w4.heap.size, 0, none⟩ = some (.int .i64 a.1) ∧ w'.cell? ⟨w4.heap.size, 1, none⟩ = some (.int .i64 a.2.1) ∧ w'.cell? ⟨w4.heap.size, 2, none⟩ = some (.slice xa_a n_a xc_a) ∧ w'.cell? ⟨w8.heap.size, 0, none⟩ = some (.int .i64 X.1) ∧ w'.cell? ⟨w8.heap.size, 1, none⟩ = some (.int .i64 X.2.1) ∧ w'.cell? ⟨w8.heap.size, 2, none⟩ = some (.slice xa_x n_x xc_x) ∧ w'.cell? ⟨w10.heap.size, 0, none⟩ = some (.int .i64 X.1) ∧ w'.cell? ⟨w10.heap.size, 1, none⟩ = some (.int .i64 X.2.1) ∧ w'.cell? ⟨w10.heap.size, 2, none⟩ = some (.slice xa_u n_u xc_u) ∧ w'.cell? ⟨w14.heap.size, 0, none⟩ = some (.int .i64 Y.1) ∧ w'.cell? ⟨w14.heap.size, 1, none⟩ = some (.int .i64 Y.2.1) ∧ w'.cell? ⟨w14.heap.size, 2, none⟩ = some (.slice xa_y n_y xc_y) ∧ w'.cell? ⟨w16.heap.size, 0, none⟩ = some (.int .i64 Y.1) ∧ w'.cell? ⟨w16.heap.size, 1, none⟩ = some (.int .i64 Y.2.1) ∧ w'.cell? ⟨w16.heap.size, 2, none⟩ = some (.slice xa_z n_z xc_z) ∧ w'.cell? ⟨w18.heap.size, 0, none⟩ = some (.int .i64 b.1) ∧ w'.cell? ⟨w18.heap.size, 1, none⟩ = some (.int .i64 b.2.1) ∧ w'.cell? ⟨w18.heap.size, 2, none⟩ = some (.slice xa_b n_b xc_b) ∧ w'.cell? ⟨w22.heap.size, 0, none⟩ = some (.int .i64 c.1) ∧ w'.cell? ⟨w22.heap.size, 1, none⟩ = some (.int .i64 c.2.1) ∧ w'.cell? ⟨w22.heap.size, 2, none⟩ = some (.slice xa_c n_c xc_c) ∧ w'.cell? ⟨w22.heap.size + 1, 0, none⟩ = some (.int .i64 d.1) ∧ w'.cell? ⟨w22.heap.size + 1, 1, none⟩ = some (.int .i64 d.2.1) ∧ w'.cell? ⟨w22.heap.size + 1, 2, none⟩ = some (.slice xa_d n_d xc_d) ∧ w'.cell? ⟨w6.heap.size, 0, none⟩ = some (.int .i64 t.1) ∧ w'.cell? ⟨w6.heap.size, 1, none⟩ = some (.int .i64 t.2.1) ∧ w'.cell? ⟨w6.heap.size, 2, none⟩ = some (.slice xa_t n_t xc_t) from ⟨(hb.cell (p := ⟨w1.heap.size, 0, none⟩) mb_l).trans cell_l0, (hb.cell (p := ⟨w1.heap.size, 1, none⟩) mb_l).trans cell_l1, (hb.cell (p := ⟨w1.heap.size, 2, none⟩) mb_l).trans cell_l2, (hb.cell (p := ⟨w4.heap.size, 0, none⟩) mb_a).trans cell_a0, (hb.cell (p := ⟨w4.heap.size, 1, none⟩) mb_a).trans cell_a1, (hb.cell (p := ⟨w4.heap.size, 2, none⟩) mb_a).trans cell_a2, (hb.cell (p := ⟨w8.heap.size, 0, none⟩) mb_x).trans cell_x0, (hb.cell (p := ⟨w8.heap.size, 1, none⟩) mb_x).trans cell_x1, (hb.cell (p := ⟨w8.heap.size, 2, none⟩) mb_x).trans cell_x2, (hb.cell (p := ⟨w10.heap.size, 0, none⟩) mb_u).trans cell_u0, (hb.cell (p := ⟨w10.heap.size, 1, none⟩) mb_u).trans cell_u1, (hb.cell (p := ⟨w10.heap.size, 2, none⟩) mb_u).trans cell_u2, (hb.cell (p := ⟨w14.heap.size, 0, none⟩) mb_y).trans cell_y0, (hb.cell (p := ⟨w14.heap.size, 1, none⟩) mb_y).trans cell_y1, (hb.cell (p := ⟨w14.heap.size, 2, none⟩) mb_y).trans cell_y2, (hb.cell (p := ⟨w16.heap.size, 0, none⟩) mb_z).trans cell_z0, (hb.cell (p := ⟨w16.heap.size, 1, none⟩) mb_z).trans cell_z1, (hb.cell (p := ⟨w16.heap.size, 2, none⟩) mb_z).trans cell_z2, (hb.cell (p := ⟨w18.heap.size, 0, none⟩) mb_b).trans cell_b0, (hb.cell (p := ⟨w18.heap.size, 1, none⟩) mb_b).trans cell_b1, (hb.cell (p := ⟨w18.heap.size, 2, none⟩) mb_b).trans cell_b2, (hb.cell (p := ⟨w22.heap.size, 0, none⟩) mb_c).trans cell_c0, (hb.cell (p := ⟨w22.heap.size, 1, none⟩) mb_c).trans cell_c1, (hb.cell (p := ⟨w22.heap.size, 2, none⟩) mb_c).trans cell_c2, (hb.cell (p := ⟨w22.heap.size + 1, 0, none⟩) mb_d).trans cell_d0, (hb.cell (p := ⟨w22.heap.size + 1, 1, none⟩) mb_d).trans cell_d1, (hb.cell (p := ⟨w22.heap.size + 1, 2, none⟩) mb_d).trans cell_d2, (hb.cell (p := ⟨w6.heap.size, 0, none⟩) mb_t).trans cell_t0, (hb.cell (p := ⟨w6.heap.size, 1, none⟩) mb_t).trans cell_t1, (hb.cell (p := ⟨w6.heap.size, 2, none⟩) mb_t).trans cell_t2⟩))
      have hS0 := HSS.out _ (Below.refl _ _)
      have B1 := (Below.refl w24.heap.size w24).drew
      have hSd := HSS.out _ B1
      dsimp only [List.append]
      refine wp_region_L (fun w' => w'.cell? ⟨w1.heap.size, 0, none⟩ = some (.int .i64 l.1) ∧ w'.cell? ⟨w1.heap.size, 1, none⟩ = some (.int .i64 l.2.1) ∧ w'.cell? ⟨w1.heap.size, 2, none⟩ = some (.slice xa_l n_l xc_l) ∧ w'.cell? ⟨w4.heap.size, 0, none⟩ = some (.int .i64 a.1) ∧ w'.cell? ⟨w4.heap.size, 1, none⟩ = some (.int .i64 a.2.1) ∧ w'.cell? ⟨w4.heap.size, 2, none⟩ = some (.slice xa_a n_a xc_a) ∧ w'.cell? ⟨w8.heap.size, 0, none⟩ = some (.int .i64 X.1) ∧ w'.cell? ⟨w8.heap.size, 1, none⟩ = some (.int .i64 X.2.1) ∧ w'.cell? ⟨w8.heap.size, 2, none⟩ = some (.slice xa_x n_x xc_x) ∧ w'.cell? ⟨w10.heap.size, 0, none⟩ = some (.int .i64 X.1) ∧ w'.cell? ⟨w10.heap.size, 1, none⟩ = some (.int .i64 X.2.1) ∧ w'.cell? ⟨w10.heap.size, 2, none⟩ = some (.slice xa_u n_u xc_u) ∧ w'.cell? ⟨w14.heap.size, 0, none⟩ = some (.int .i64 Y.1) ∧ w'.cell? ⟨w14.heap.size, 1, none⟩ = some (.int .i64 Y.2.1) ∧ w'.cell? ⟨w14.heap.size, 2, none⟩ = some (.slice xa_y n_y xc_y) ∧ w'.cell? ⟨w16.heap.size, 0, none⟩ = some (.int .i64 Y.1) ∧ w'.cell? ⟨w16.heap.size, 1, none⟩ = some (.int .i64 Y.2.1) ∧ w'.cell? ⟨w16.heap.size, 2, none⟩ = some (.slice xa_z n_z xc_z) ∧ w'.cell? ⟨w18.heap.size, 0, none⟩ = some (.int .i64 b.1) ∧ w'.cell? ⟨w18.heap.size, 1, none⟩ = some (.int .i64 b.2.1) ∧ w'.cell? ⟨w18.heap.size, 2, none⟩ = some (.slice xa_b n_b xc_b) ∧ w'.cell? ⟨w22.heap.size, 0, none⟩ = some (.int .i64 c.1) ∧ w'.cell? ⟨w22.heap.size, 1, none⟩ = some (.int .i64 c.2.1) ∧ w'.cell? ⟨w22.heap.size, 2, none⟩ = some (.slice xa_c n_c xc_c) ∧ w'.cell? ⟨w22.heap.size + 1, 0, none⟩ = some (.int .i64 d.1) ∧ w'.cell? ⟨w22.heap.size + 1, 1, none⟩ = some (.int .i64 d.2.1) ∧ w'.cell? ⟨w22.heap.size + 1, 2, none⟩ = some (.slice xa_d n_d xc_d) ∧ w'.cell? ⟨w6.heap.size, 0, none⟩ = some (.int .i64 t.1) ∧ w'.cell? ⟨w6.heap.size, 1, none⟩ = some (.int .i64 t.2.1) ∧ w'.cell? ⟨w6.heap.size, 2, none⟩ = some (.slice xa_t n_t xc_t)) (by kernel_rfl) ?_
      refine tkL 0 (v := ?_) rfl (by kernel_rfl) (fun _ _ _ h => h) (Or.inl ⟨by rfl, ?_⟩) hSd ?_
      rotate_left
      · (intro w hSw; (try dsimp only at hSw); go_simp) <;> (try with_reducible rfl)
      try simp only [Act.put, List.getElem_toArray, List.getElem_cons_zero, List.getElem_cons_succ, List.setIfInBounds_toArray, List.set_cons_zero, List.set_cons_succ]
      refine tkL 1 (v := ?_) rfl (by kernel_rfl) (fun _ _ _ h => h) (Or.inl ⟨by rfl, ?_⟩) hSd ?_
      rotate_left
      · (intro w hSw; (try dsimp only at hSw); go_simp) <;> (try with_reducible rfl)
      try simp only [Act.put, List.getElem_toArray, List.getElem_cons_zero, List.getElem_cons_succ, List.setIfInBounds_toArray, List.set_cons_zero, List.set_cons_succ]
      refine tkL 2 (v := ?_) rfl (by kernel_rfl) (fun _ _ _ h => h) (Or.inl ⟨by rfl, ?_⟩) hSd ?_
      rotate_left
      · (intro w hSw; (try dsimp only at hSw); go_simp) <;> (try with_reducible rfl)
      try simp only [Act.put, List.getElem_toArray, List.getElem_cons_zero, List.getElem_cons_succ, List.setIfInBounds_toArray, List.set_cons_zero, List.set_cons_succ]
      refine wpAnyL_one 3 (by kernel_rfl) rfl (fun K hK => ?_)
      go_simp
      have HQ := K1.out _ B1
      (with_reducible refine HQ.mono ?_)
      clear HQ
      rintro e u1 ⟨r1, rfl, n1, q1⟩
      have B2 := B1.trans (q1.mono B1.size)
      have hS2 := HSS.out _ B2
      go_wp2_with fail
      refine hK.out _ _ (fun _ => hS2) ?_
      clear hK K
      try simp only [Act.put, List.getElem_toArray, List.getElem_cons_zero, List.getElem_cons_succ, List.setIfInBounds_toArray, List.set_cons_zero, List.set_cons_succ]
      refine wpAnyL_one 4 (by kernel_rfl) rfl (fun K hK => ?_)
      go_simp
      have HQ := K2.out _ _ _ (StrsR.frame _ _ _ _ Hwo.out B2) (New.strs n1)
      (with_reducible refine HQ.mono ?_)
      clear HQ
      rintro e u2 ⟨rfl, q2⟩
      have B3 := B2.trans (q2.mono B2.size)
      have hS3 := HSS.out _ B3
      go_wp2_with fail
      refine hK.out _ _ (fun _ => hS3) ?_
      clear hK K
      try simp only [Act.put, List.getElem_toArray, List.getElem_cons_zero, List.getElem_cons_succ, List.setIfInBounds_toArray, List.set_cons_zero, List.set_cons_succ]
      refine tkL 5 (v := ?_) rfl (by kernel_rfl) (fun _ _ _ h => h) (Or.inl ⟨by rfl, ?_⟩) hS3 ?_
      rotate_left
      · (intro w hSw; (try dsimp only at hSw); go_simp) <;> (try with_reducible rfl)
      try simp only [Act.put, List.getElem_toArray, List.getElem_cons_zero, List.getElem_cons_succ, List.setIfInBounds_toArray, List.set_cons_zero, List.set_cons_succ]
      refine tkL 6 (v := ?_) rfl (by kernel_rfl) (fun _ _ _ h => h) (Or.inl ⟨by rfl, ?_⟩) hS3 ?_
      rotate_left
      · (intro w hSw; (try dsimp only at hSw); go_simp) <;> (try with_reducible rfl)
      try simp only [Act.put, List.getElem_toArray, List.getElem_cons_zero, List.getElem_cons_succ, List.setIfInBounds_toArray, List.set_cons_zero, List.set_cons_succ]
      refine tkL 7 (v := ?_) rfl (by kernel_rfl) (fun _ _ _ h => h) (Or.inl ⟨by rfl, ?_⟩) hS3 ?_
      rotate_left
      · (intro w hSw; (try dsimp only at hSw); go_simp) <;> (try with_reducible rfl)
      try simp only [Act.put, List.getElem_toArray, List.getElem_cons_zero, List.getElem_cons_succ, List.setIfInBounds_toArray, List.set_cons_zero, List.set_cons_succ]
      refine tkL 8 (v := ?_) rfl (by kernel_rfl) (fun _ _ _ h => h) (Or.inl ⟨by rfl, ?_⟩) hS3 ?_
      rotate_left
      · (intro w hSw; (try dsimp only at hSw); go_simp) <;> (try with_reducible rfl)
      try simp only [Act.put, List.getElem_toArray, List.getElem_cons_zero, List.getElem_cons_succ, List.setIfInBounds_toArray, List.set_cons_zero, List.set_cons_succ]
      refine tkL 9 (v := ?_) rfl (by kernel_rfl) (fun _ _ _ h => h) (Or.inl ⟨by rfl, ?_⟩) hS3 ?_
      rotate_left
      · (intro w hSw; (try dsimp only at hSw); go_simp) <;> (try with_reducible rfl)
      try simp only [Act.put, List.getElem_toArray, List.getElem_cons_zero, List.getElem_cons_succ, List.setIfInBounds_toArray, List.set_cons_zero, List.set_cons_succ]
      refine tkL 11 (v := ?_) rfl (by kernel_rfl) (fun _ _ _ h => h) (Or.inl ⟨by rfl, ?_⟩) hS3 ?_
      rotate_left
      · (intro w hSw; (try dsimp only at hSw); go_simp) <;> (try with_reducible rfl)
      try simp only [Act.put, List.getElem_toArray, List.getElem_cons_zero, List.getElem_cons_succ, List.setIfInBounds_toArray, List.set_cons_zero, List.set_cons_succ]
      refine tkL 12 (v := ?_) rfl (by kernel_rfl) (fun _ _ _ h => h) (Or.inl ⟨by rfl, ?_⟩) hS3 ?_
      rotate_left
      · (intro w hSw; (try dsimp only at hSw); go_simp) <;> (try with_reducible rfl)
      try simp only [Act.put, List.getElem_toArray, List.getElem_cons_zero, List.getElem_cons_succ, List.setIfInBounds_toArray, List.set_cons_zero, List.set_cons_succ]
      refine tkL 13 (v := ?_) rfl (by kernel_rfl) (fun _ _ _ h => h) (Or.inl ⟨by rfl, ?_⟩) hS3 ?_
      rotate_left
      · (intro w hSw; (try dsimp only at hSw); go_simp) <;> (try with_reducible rfl)
      try simp only [Act.put, List.getElem_toArray, List.getElem_cons_zero, List.getElem_cons_succ, List.setIfInBounds_toArray, List.set_cons_zero, List.set_cons_succ]
      refine wpAnyL_one 10 (by kernel_rfl) rfl (fun K hK => ?_)
      go_simp
      have HQ := K3.out _ B3
      (with_reducible refine HQ.mono ?_)
      clear HQ
      rintro e u3 ⟨rfl, q3⟩
      have B4 := B3.trans (q3.mono B3.size)
      have hS4 := HSS.out _ B4
      go_wp2_with fail
      refine hK.out _ _ (fun _ => hS4) ?_
      clear hK K
      try simp only [Act.put, List.getElem_toArray, List.getElem_cons_zero, List.getElem_cons_succ, List.setIfInBounds_toArray, List.set_cons_zero, List.set_cons_succ]
      refine wpAnyL_one 14 (by kernel_rfl) rfl (fun K hK => ?_)
      go_simp
      have HQ := K4.out _ B4
      (with_reducible refine HQ.mono ?_)
      clear HQ
      rintro e u4 ⟨rfl, q4⟩
      have B5 := B4.trans (q4.mono B4.size)
      have hS5 := HSS.out _ B5
      go_wp2_with fail
      refine hK.out _ _ (fun _ => hS5) ?_
      clear hK K
      try simp only [Act.put, List.getElem_toArray, List.getElem_cons_zero, List.getElem_cons_succ, List.setIfInBounds_toArray, List.set_cons_zero, List.set_cons_succ]
      refine tkL 15 (v := ?_) rfl (by kernel_rfl) (fun _ _ _ h => h) (Or.inl ⟨by rfl, ?_⟩) hS5 ?_
      rotate_left
      · (intro w hSw; (try dsimp only at hSw); go_simp) <;> (try with_reducible rfl)
      try simp only [Act.put, List.getElem_toArray, List.getElem_cons_zero, List.getElem_cons_succ, List.setIfInBounds_toArray, List.set_cons_zero, List.set_cons_succ]
      refine tkL 16 (v := ?_) rfl (by kernel_rfl) (fun _ _ _ h => h) (Or.inl ⟨by rfl, ?_⟩) hS5 ?_
      rotate_left
      · (intro w hSw; (try dsimp only at hSw); go_simp) <;> (try with_reducible rfl)
      try simp only [Act.put, List.getElem_toArray, List.getElem_cons_zero, List.getElem_cons_succ, List.setIfInBounds_toArray, List.set_cons_zero, List.set_cons_succ]
      refine tkL 17 (v := ?_) rfl (by kernel_rfl) (fun _ _ _ h => h) (Or.inl ⟨by rfl, ?_⟩) hS5 ?_
      rotate_left
      · (intro w hSw; (try dsimp only at hSw); go_simp) <;> (try with_reducible rfl)
      try simp only [Act.put, List.getElem_toArray, List.getElem_cons_zero, List.getElem_cons_succ, List.setIfInBounds_toArray, List.set_cons_zero, List.set_cons_succ]
      refine tkL 18 (v := ?_) rfl (by kernel_rfl) (fun _ _ _ h => h) (Or.inl ⟨by rfl, ?_⟩) hS5 ?_
      rotate_left
      · (intro w hSw; (try dsimp only at hSw); go_simp) <;> (try with_reducible rfl)
      try simp only [Act.put, List.getElem_toArray, List.getElem_cons_zero, List.getElem_cons_succ, List.setIfInBounds_toArray, List.set_cons_zero, List.set_cons_succ]
      refine tkL 19 (v := ?_) rfl (by kernel_rfl) (fun _ _ _ h => h) (Or.inl ⟨by rfl, ?_⟩) hS5 ?_
      rotate_left
      · (intro w hSw; (try dsimp only at hSw); go_simp) <;> (try with_reducible rfl)
      try simp only [Act.put, List.getElem_toArray, List.getElem_cons_zero, List.getElem_cons_succ, List.setIfInBounds_toArray, List.set_cons_zero, List.set_cons_succ]
      refine tkL 20 (v := ?_) rfl (by kernel_rfl) (fun _ _ _ h => h) (Or.inl ⟨by rfl, ?_⟩) hS5 ?_
      rotate_left
      · (intro w hSw; (try dsimp only at hSw); go_simp) <;> (try with_reducible rfl)
      try simp only [Act.put, List.getElem_toArray, List.getElem_cons_zero, List.getElem_cons_succ, List.setIfInBounds_toArray, List.set_cons_zero, List.set_cons_succ]
      refine tkL 21 (v := ?_) rfl (by kernel_rfl) (fun _ _ _ h => h) (Or.inl ⟨by rfl, ?_⟩) hS5 ?_
      rotate_left
      · (intro w hSw; (try dsimp only at hSw); go_simp) <;> (try with_reducible rfl)
      try simp only [Act.put, List.getElem_toArray, List.getElem_cons_zero, List.getElem_cons_succ, List.setIfInBounds_toArray, List.set_cons_zero, List.set_cons_succ]
      refine tkL 22 (v := ?_) rfl (by kernel_rfl) (fun _ _ _ h => h) (Or.inl ⟨by rfl, ?_⟩) hS5 ?_
      rotate_left
      · (intro w hSw; (try dsimp only at hSw); go_simp) <;> (try with_reducible rfl)
      try simp only [Act.put, List.getElem_toArray, List.getElem_cons_zero, List.getElem_cons_succ, List.setIfInBounds_toArray, List.set_cons_zero, List.set_cons_succ]
      refine tkL 23 (v := ?_) rfl (by kernel_rfl) (fun _ _ _ h => h) (Or.inl ⟨by rfl, ?_⟩) hS5 ?_
      rotate_left
      · (intro w hSw; (try dsimp only at hSw); go_simp) <;> (try with_reducible rfl)
      try simp only [Act.put, List.getElem_toArray, List.getElem_cons_zero, List.getElem_cons_succ, List.setIfInBounds_toArray, List.set_cons_zero, List.set_cons_succ]
      refine tkL 24 (v := ?_) rfl (by kernel_rfl) (fun _ _ _ h => h) (Or.inl ⟨by rfl, ?_⟩) hS5 ?_
      rotate_left
      · (intro w hSw; (try dsimp only at hSw); go_simp) <;> (try with_reducible rfl)
      try simp only [Act.put, List.getElem_toArray, List.getElem_cons_zero, List.getElem_cons_succ, List.setIfInBounds_toArray, List.set_cons_zero, List.set_cons_succ]
      refine wpAnyL_one 25 (by kernel_rfl) rfl (fun K hK => ?_)
      go_simp
      have HQ := K5.out _ B5
      (with_reducible refine HQ.mono ?_)
      clear HQ
      rintro e u5 ⟨rfl, q5⟩
      have B6 := B5.trans (q5.mono B5.size)
      have hS6 := HSS.out _ B6
      go_wp2_with fail
      refine hK.out _ _ (fun _ => hS6) ?_
      clear hK K
      try simp only [Act.put, List.getElem_toArray, List.getElem_cons_zero, List.getElem_cons_succ, List.setIfInBounds_toArray, List.set_cons_zero, List.set_cons_succ]
      refine tkL 26 (v := ?_) rfl (by kernel_rfl) (fun _ _ _ h => h) (Or.inl ⟨by rfl, ?_⟩) hS6 ?_
      rotate_left
      · (intro w hSw; (try dsimp only at hSw); go_simp) <;> (try with_reducible rfl)
      try simp only [Act.put, List.getElem_toArray, List.getElem_cons_zero, List.getElem_cons_succ, List.setIfInBounds_toArray, List.set_cons_zero, List.set_cons_succ]
      refine tkL 27 (v := ?_) rfl (by kernel_rfl) (fun _ _ _ h => h) (Or.inl ⟨by rfl, ?_⟩) hS6 ?_
      rotate_left
      · (intro w hSw; (try dsimp only at hSw); go_simp) <;> (try with_reducible rfl)
      try simp only [Act.put, List.getElem_toArray, List.getElem_cons_zero, List.getElem_cons_succ, List.setIfInBounds_toArray, List.set_cons_zero, List.set_cons_succ]
      refine tkL 28 (v := ?_) rfl (by kernel_rfl) (fun _ _ _ h => h) (Or.inl ⟨by rfl, ?_⟩) hS6 ?_
      rotate_left
      · (intro w hSw; (try dsimp only at hSw); go_simp) <;> (try with_reducible rfl)
      try simp only [Act.put, List.getElem_toArray, List.getElem_cons_zero, List.getElem_cons_succ, List.setIfInBounds_toArray, List.set_cons_zero, List.set_cons_succ]
      refine tkL 29 (v := ?_) rfl (by kernel_rfl) (fun _ _ _ h => h) (Or.inl ⟨by rfl, ?_⟩) hS6 ?_
      rotate_left
      · (intro w hSw; (try dsimp only at hSw); go_simp) <;> (try with_reducible rfl)
      try simp only [Act.put, List.getElem_toArray, List.getElem_cons_zero, List.getElem_cons_succ, List.setIfInBounds_toArray, List.set_cons_zero, List.set_cons_succ]
      refine tkL 30 (v := ?_) rfl (by kernel_rfl) (fun _ _ _ h => h) (Or.inl ⟨by rfl, ?_⟩) hS6 ?_
      rotate_left
      · (intro w hSw; (try dsimp only at hSw); go_simp) <;> (try with_reducible rfl)
      try simp only [Act.put, List.getElem_toArray, List.getElem_cons_zero, List.getElem_cons_succ, List.setIfInBounds_toArray, List.set_cons_zero, List.set_cons_succ]
      refine tkL 31 (v := ?_) rfl (by kernel_rfl) (fun _ _ _ h => h) (Or.inl ⟨by rfl, ?_⟩) hS6 ?_
      rotate_left
      · (intro w hSw; (try dsimp only at hSw); go_simp) <;> (try with_reducible rfl)
      try simp only [Act.put, List.getElem_toArray, List.getElem_cons_zero, List.getElem_cons_succ, List.setIfInBounds_toArray, List.set_cons_zero, List.set_cons_succ]
      refine tkL 32 (v := ?_) rfl (by kernel_rfl) (fun _ _ _ h => h) (Or.inl ⟨by rfl, ?_⟩) hS6 ?_
      rotate_left
      · (intro w hSw; (try dsimp only at hSw); go_simp) <;> (try with_reducible rfl)
      try simp only [Act.put, List.getElem_toArray, List.getElem_cons_zero, List.getElem_cons_succ, List.setIfInBounds_toArray, List.set_cons_zero, List.set_cons_succ]
      refine tkL 33 (v := ?_) rfl (by kernel_rfl) (fun _ _ _ h => h) (Or.inl ⟨by rfl, ?_⟩) hS6 ?_
      rotate_left
      · (intro w hSw; (try dsimp only at hSw); go_simp) <;> (try with_reducible rfl)
      try simp only [Act.put, List.getElem_toArray, List.getElem_cons_zero, List.getElem_cons_succ, List.setIfInBounds_toArray, List.set_cons_zero, List.set_cons_succ]
      refine tkL 34 (v := ?_) rfl (by kernel_rfl) (fun _ _ _ h => h) (Or.inl ⟨by rfl, ?_⟩) hS6 ?_
      rotate_left
      · (intro w hSw; (try dsimp only at hSw); go_simp) <;> (try with_reducible rfl)
      try simp only [Act.put, List.getElem_toArray, List.getElem_cons_zero, List.getElem_cons_succ, List.setIfInBounds_toArray, List.set_cons_zero, List.set_cons_succ]
      refine tkL 35 (v := ?_) rfl (by kernel_rfl) (fun _ _ _ h => h) (Or.inl ⟨by rfl, ?_⟩) hS6 ?_
      rotate_left
      · (intro w hSw; (try dsimp only at hSw); go_simp) <;> (try with_reducible rfl)
      try simp only [Act.put, List.getElem_toArray, List.getElem_cons_zero, List.getElem_cons_succ, List.setIfInBounds_toArray, List.set_cons_zero, List.set_cons_succ]
      refine wpAnyL_one 36 (by kernel_rfl) rfl (fun K hK => ?_)
      go_simp
      have HQ := K6.out _ B6
      (with_reducible refine HQ.mono ?_)
      clear HQ
      rintro e u6 ⟨rfl, q6⟩
      have B7 := B6.trans (q6.mono B6.size)
      have hS7 := HSS.out _ B7
      go_wp2_with fail
      refine hK.out _ _ (fun _ => hS7) ?_
      clear hK K
      try simp only [Act.put, List.getElem_toArray, List.getElem_cons_zero, List.getElem_cons_succ, List.setIfInBounds_toArray, List.set_cons_zero, List.set_cons_succ]
      refine tkL 37 (v := ?_) rfl (by kernel_rfl) (fun _ _ _ h => h) (Or.inl ⟨by rfl, ?_⟩) hS7 ?_
      rotate_left
      · (intro w hSw; (try dsimp only at hSw); go_simp) <;> (try with_reducible rfl)
      try simp only [Act.put, List.getElem_toArray, List.getElem_cons_zero, List.getElem_cons_succ, List.setIfInBounds_toArray, List.set_cons_zero, List.set_cons_succ]
      refine tkL 38 (v := ?_) rfl (by kernel_rfl) (fun _ _ _ h => h) (Or.inl ⟨by rfl, ?_⟩) hS7 ?_
      rotate_left
      · (intro w hSw; (try dsimp only at hSw); go_simp) <;> (try with_reducible rfl)
      try simp only [Act.put, List.getElem_toArray, List.getElem_cons_zero, List.getElem_cons_succ, List.setIfInBounds_toArray, List.set_cons_zero, List.set_cons_succ]
      refine tkL 39 (v := ?_) rfl (by kernel_rfl) (fun _ _ _ h => h) (Or.inl ⟨by rfl, ?_⟩) hS7 ?_
      rotate_left
      · (intro w hSw; (try dsimp only at hSw); go_simp) <;> (try with_reducible rfl)
      try simp only [Act.put, List.getElem_toArray, List.getElem_cons_zero, List.getElem_cons_succ, List.setIfInBounds_toArray, List.set_cons_zero, List.set_cons_succ]
      refine tkL 40 (v := ?_) rfl (by kernel_rfl) (fun _ _ _ h => h) (Or.inl ⟨by rfl, ?_⟩) hS7 ?_
      rotate_left
      · (intro w hSw; (try dsimp only at hSw); go_simp) <;> (try with_reducible rfl)
      try simp only [Act.put, List.getElem_toArray, List.getElem_cons_zero, List.getElem_cons_succ, List.setIfInBounds_toArray, List.set_cons_zero, List.set_cons_succ]
      refine tkL 41 (v := ?_) rfl (by kernel_rfl) (fun _ _ _ h => h) (Or.inl ⟨by rfl, ?_⟩) hS7 ?_
      rotate_left
      · (intro w hSw; (try dsimp only at hSw); go_simp) <;> (try with_reducible rfl)
      try simp only [Act.put, List.getElem_toArray, List.getElem_cons_zero, List.getElem_cons_succ, List.setIfInBounds_toArray, List.set_cons_zero, List.set_cons_succ]
      refine tkL 43 (v := ?_) rfl (by kernel_rfl) (fun _ _ _ h => h) (Or.inl ⟨by rfl, ?_⟩) hS7 ?_
      rotate_left
      · (intro w hSw; (try dsimp only at hSw); go_simp) <;> (try with_reducible rfl)
      try simp only [Act.put, List.getElem_toArray, List.getElem_cons_zero, List.getElem_cons_succ, List.setIfInBounds_toArray, List.set_cons_zero, List.set_cons_succ]
      refine tkL 44 (v := ?_) rfl (by kernel_rfl) (fun _ _ _ h => h) (Or.inl ⟨by rfl, ?_⟩) hS7 ?_
      rotate_left
      · (intro w hSw; (try dsimp only at hSw); go_simp) <;> (try with_reducible rfl)
      try simp only [Act.put, List.getElem_toArray, List.getElem_cons_zero, List.getElem_cons_succ, List.setIfInBounds_toArray, List.set_cons_zero, List.set_cons_succ]
      refine wpAnyL_one 42 (by kernel_rfl) rfl (fun K hK => ?_)
      go_simp
      have HQ := K7.out _ B7
      (with_reducible refine HQ.mono ?_)
      clear HQ
      rintro e u7 ⟨rfl, q7⟩
      have B8 := B7.trans (q7.mono B7.size)
      have hS8 := HSS.out _ B8
      go_wp2_with fail
      refine hK.out _ _ (fun _ => hS8) ?_
      clear hK K
      try simp only [Act.put, List.getElem_toArray, List.getElem_cons_zero, List.getElem_cons_succ, List.setIfInBounds_toArray, List.set_cons_zero, List.set_cons_succ]
      refine wpAnyL_one 45 (by kernel_rfl) rfl (fun K hK => ?_)
      go_simp
      have HQ := K8.out _ B8
      (with_reducible refine HQ.mono ?_)
      clear HQ
      rintro e u8 ⟨rfl, q8⟩
      have B9 := B8.trans (q8.mono B8.size)
      have hS9 := HSS.out _ B9
      go_wp2_with fail
      refine hK.out _ _ (fun _ => hS9) ?_
      clear hK K
      try simp only [Act.put, List.getElem_toArray, List.getElem_cons_zero, List.getElem_cons_succ, List.setIfInBounds_toArray, List.set_cons_zero, List.set_cons_succ]
      refine tkL 46 (v := ?_) rfl (by kernel_rfl) (fun _ _ _ h => h) (Or.inl ⟨by rfl, ?_⟩) hS9 ?_
      rotate_left
      · (intro w hSw; (try dsimp only at hSw); go_simp) <;> (try with_reducible rfl)
      try simp only [Act.put, List.getElem_toArray, List.getElem_cons_zero, List.getElem_cons_succ, List.setIfInBounds_toArray, List.set_cons_zero, List.set_cons_succ]
      refine tkL 47 (v := ?_) rfl (by kernel_rfl) (fun _ _ _ h => h) (Or.inl ⟨by rfl, ?_⟩) hS9 ?_
      rotate_left
      · (intro w hSw; (try dsimp only at hSw); go_simp) <;> (try with_reducible rfl)
      try simp only [Act.put, List.getElem_toArray, List.getElem_cons_zero, List.getElem_cons_succ, List.setIfInBounds_toArray, List.set_cons_zero, List.set_cons_succ]
      refine tkL 48 (v := ?_) rfl (by kernel_rfl) (fun _ _ _ h => h) (Or.inl ⟨by rfl, ?_⟩) hS9 ?_
      rotate_left
      · (intro w hSw; (try dsimp only at hSw); go_simp) <;> (try with_reducible rfl)
      try simp only [Act.put, List.getElem_toArray, List.getElem_cons_zero, List.getElem_cons_succ, List.setIfInBounds_toArray, List.set_cons_zero, List.set_cons_succ]
      refine tkL 49 (v := ?_) rfl (by kernel_rfl) (fun _ _ _ h => h) (Or.inl ⟨by rfl, ?_⟩) hS9 ?_
      rotate_left
      · (intro w hSw; (try dsimp only at hSw); go_simp) <;> (try with_reducible rfl)
      try simp only [Act.put, List.getElem_toArray, List.getElem_cons_zero, List.getElem_cons_succ, List.setIfInBounds_toArray, List.set_cons_zero, List.set_cons_succ]
      refine tkL 50 (v := ?_) rfl (by kernel_rfl) (fun _ _ _ h => h) (Or.inl ⟨by rfl, ?_⟩) hS9 ?_
      rotate_left
      · (intro w hSw; (try dsimp only at hSw); go_simp) <;> (try with_reducible rfl)
      try simp only [Act.put, List.getElem_toArray, List.getElem_cons_zero, List.getElem_cons_succ, List.setIfInBounds_toArray, List.set_cons_zero, List.set_cons_succ]
      refine tkL 51 (v := ?_) rfl (by kernel_rfl) (fun _ _ _ h => h) (Or.inl ⟨by rfl, ?_⟩) hS9 ?_
      rotate_left
      · (intro w hSw; (try dsimp only at hSw); go_simp) <;> (try with_reducible rfl)
      try simp only [Act.put, List.getElem_toArray, List.getElem_cons_zero, List.getElem_cons_succ, List.setIfInBounds_toArray, List.set_cons_zero, List.set_cons_succ]
      refine tkL 52 (v := ?_) rfl (by kernel_rfl) (fun _ _ _ h => h) (Or.inl ⟨by rfl, ?_⟩) hS9 ?_
      rotate_left
      · (intro w hSw; (try dsimp only at hSw); go_simp) <;> (try with_reducible rfl)
      try simp only [Act.put, List.getElem_toArray, List.getElem_cons_zero, List.getElem_cons_succ, List.setIfInBounds_toArray, List.set_cons_zero, List.set_cons_succ]
      refine tkL 53 (v := ?_) rfl (by kernel_rfl) (fun _ _ _ h => h) (Or.inl ⟨by rfl, ?_⟩) hS9 ?_
      rotate_left
      · (intro w hSw; (try dsimp only at hSw); go_simp) <;> (try with_reducible rfl)
      try simp only [Act.put, List.getElem_toArray, List.getElem_cons_zero, List.getElem_cons_succ, List.setIfInBounds_toArray, List.set_cons_zero, List.set_cons_succ]
      refine tkL 54 (v := ?_) rfl (by kernel_rfl) (fun _ _ _ h => h) (Or.inl ⟨by rfl, ?_⟩) hS9 ?_
      rotate_left
      · (intro w hSw; (try dsimp only at hSw); go_simp) <;> (try with_reducible rfl)
      try simp only [Act.put, List.getElem_toArray, List.getElem_cons_zero, List.getElem_cons_succ, List.setIfInBounds_toArray, List.set_cons_zero, List.set_cons_succ]
      refine tkL 55 (v := ?_) rfl (by kernel_rfl) (fun _ _ _ h => h) (Or.inl ⟨by rfl, ?_⟩) hS9 ?_
      rotate_left
      · (intro w hSw; (try dsimp only at hSw); go_simp) <;> (try with_reducible rfl)
      try simp only [Act.put, List.getElem_toArray, List.getElem_cons_zero, List.getElem_cons_succ, List.setIfInBounds_toArray, List.set_cons_zero, List.set_cons_succ]
      refine wpAnyL_one 56 (by kernel_rfl) rfl (fun K hK => ?_)
      go_simp
      have HQ := K9.out _ B9
      (with_reducible refine HQ.mono ?_)
      clear HQ
      rintro e u9 ⟨rfl, q9⟩
      have B10 := B9.trans (q9.mono B9.size)
      have hS10 := HSS.out _ B10
      go_wp2_with fail
      refine hK.out _ _ (fun _ => hS10) ?_
      clear hK K
      try simp only [Act.put, List.getElem_toArray, List.getElem_cons_zero, List.getElem_cons_succ, List.setIfInBounds_toArray, List.set_cons_zero, List.set_cons_succ]
      refine tkL 57 (v := ?_) rfl (by kernel_rfl) (fun _ _ _ h => h) (Or.inl ⟨by rfl, ?_⟩) hS10 ?_
      rotate_left
      · (intro w hSw; (try dsimp only at hSw); go_simp) <;> (try with_reducible rfl)
      try simp only [Act.put, List.getElem_toArray, List.getElem_cons_zero, List.getElem_cons_succ, List.setIfInBounds_toArray, List.set_cons_zero, List.set_cons_succ]
      refine tkL 58 (v := ?_) rfl (by kernel_rfl) (fun _ _ _ h => h) (Or.inl ⟨by rfl, ?_⟩) hS10 ?_
      rotate_left
      · (intro w hSw; (try dsimp only at hSw); go_simp) <;> (try with_reducible rfl)
      try simp only [Act.put, List.getElem_toArray, List.getElem_cons_zero, List.getElem_cons_succ, List.setIfInBounds_toArray, List.set_cons_zero, List.set_cons_succ]
      refine tkL 59 (v := ?_) rfl (by kernel_rfl) (fun _ _ _ h => h) (Or.inl ⟨by rfl, ?_⟩) hS10 ?_
      rotate_left
      · (intro w hSw; (try dsimp only at hSw); go_simp) <;> (try with_reducible rfl)
      try simp only [Act.put, List.getElem_toArray, List.getElem_cons_zero, List.getElem_cons_succ, List.setIfInBounds_toArray, List.set_cons_zero, List.set_cons_succ]
      refine tkL 60 (v := ?_) rfl (by kernel_rfl) (fun _ _ _ h => h) (Or.inl ⟨by rfl, ?_⟩) hS10 ?_
      rotate_left
      · (intro w hSw; (try dsimp only at hSw); go_simp) <;> (try with_reducible rfl)
      try simp only [Act.put, List.getElem_toArray, List.getElem_cons_zero, List.getElem_cons_succ, List.setIfInBounds_toArray, List.set_cons_zero, List.set_cons_succ]
      refine tkL 61 (v := ?_) rfl (by kernel_rfl) (fun _ _ _ h => h) (Or.inl ⟨by rfl, ?_⟩) hS10 ?_
      rotate_left
      · (intro w hSw; (try dsimp only at hSw); go_simp) <;> (try with_reducible rfl)
      try simp only [Act.put, List.getElem_toArray, List.getElem_cons_zero, List.getElem_cons_succ, List.setIfInBounds_toArray, List.set_cons_zero, List.set_cons_succ]
      refine tkL 63 (v := ?_) rfl (by kernel_rfl) (fun _ _ _ h => h) (Or.inl ⟨by rfl, ?_⟩) hS10 ?_
      rotate_left
      · (intro w hSw; (try dsimp only at hSw); go_simp) <;> (try with_reducible rfl)
      try simp only [Act.put, List.getElem_toArray, List.getElem_cons_zero, List.getElem_cons_succ, List.setIfInBounds_toArray, List.set_cons_zero, List.set_cons_succ]
      refine tkL 64 (v := ?_) rfl (by kernel_rfl) (fun _ _ _ h => h) (Or.inl ⟨by rfl, ?_⟩) hS10 ?_
      rotate_left
      · (intro w hSw; (try dsimp only at hSw); go_simp) <;> (try with_reducible rfl)
      try simp only [Act.put, List.getElem_toArray, List.getElem_cons_zero, List.getElem_cons_succ, List.setIfInBounds_toArray, List.set_cons_zero, List.set_cons_succ]
      refine wpAnyL_one 62 (by kernel_rfl) rfl (fun K hK => ?_)
      go_simp
      have HQ := K10.out _ B10
      (with_reducible refine HQ.mono ?_)
      clear HQ
      rintro e u10 ⟨rfl, q10⟩
      have B11 := B10.trans (q10.mono B10.size)
      have hS11 := HSS.out _ B11
      go_wp2_with fail
      refine hK.out _ _ (fun _ => hS11) ?_
      clear hK K
      try simp only [Act.put, List.getElem_toArray, List.getElem_cons_zero, List.getElem_cons_succ, List.setIfInBounds_toArray, List.set_cons_zero, List.set_cons_succ]
      refine wpAnyL_one 65 (by kernel_rfl) rfl (fun K hK => ?_)
      go_simp
      have HQ := K11.out _ B11
      (with_reducible refine HQ.mono ?_)
      clear HQ
      rintro e u11 ⟨rfl, q11⟩
      have B12 := B11.trans (q11.mono B11.size)
      have hS12 := HSS.out _ B12
      go_wp2_with fail
      refine hK.out _ _ (fun _ => hS12) ?_
      clear hK K
      try simp only [Act.put, List.getElem_toArray, List.getElem_cons_zero, List.getElem_cons_succ, List.setIfInBounds_toArray, List.set_cons_zero, List.set_cons_succ]
      refine tkL 66 (v := ?_) rfl (by kernel_rfl) (fun _ _ _ h => h) (Or.inl ⟨by rfl, ?_⟩) hS12 ?_
      rotate_left
      · (intro w hSw; (try dsimp only at hSw); go_simp) <;> (try with_reducible rfl)
      try simp only [Act.put, List.getElem_toArray, List.getElem_cons_zero, List.getElem_cons_succ, List.setIfInBounds_toArray, List.set_cons_zero, List.set_cons_succ]
      refine tkL 67 (v := ?_) rfl (by kernel_rfl) (fun _ _ _ h => h) (Or.inl ⟨by rfl, ?_⟩) hS12 ?_
      rotate_left
      · (intro w hSw; (try dsimp only at hSw); go_simp) <;> (try with_reducible rfl)
      try simp only [Act.put, List.getElem_toArray, List.getElem_cons_zero, List.getElem_cons_succ, List.setIfInBounds_toArray, List.set_cons_zero, List.set_cons_succ]
      refine tkL 68 (v := ?_) rfl (by kernel_rfl) (fun _ _ _ h => h) (Or.inl ⟨by rfl, ?_⟩) hS12 ?_
      rotate_left
      · (intro w hSw; (try dsimp only at hSw); go_simp) <;> (try with_reducible rfl)
      try simp only [Act.put, List.getElem_toArray, List.getElem_cons_zero, List.getElem_cons_succ, List.setIfInBounds_toArray, List.set_cons_zero, List.set_cons_succ]
      refine tkL 69 (v := ?_) rfl (by kernel_rfl) (fun _ _ _ h => h) (Or.inl ⟨by rfl, ?_⟩) hS12 ?_
      rotate_left
      · (intro w hSw; (try dsimp only at hSw); go_simp) <;> (try with_reducible rfl)
      try simp only [Act.put, List.getElem_toArray, List.getElem_cons_zero, List.getElem_cons_succ, List.setIfInBounds_toArray, List.set_cons_zero, List.set_cons_succ]
      refine tkL 71 (v := ?_) rfl (by kernel_rfl) (fun _ _ _ h => h) (Or.inl ⟨by rfl, ?_⟩) hS12 ?_
      rotate_left
      · (intro w hSw; (try dsimp only at hSw); go_simp) <;> (try with_reducible rfl)
      try simp only [Act.put, List.getElem_toArray, List.getElem_cons_zero, List.getElem_cons_succ, List.setIfInBounds_toArray, List.set_cons_zero, List.set_cons_succ]
      refine wpAnyL_one 70 (by kernel_rfl) rfl (fun K hK => ?_)
      go_simp
      have HQ := K12.out _ B12
      (with_reducible refine HQ.mono ?_)
      clear HQ
      rintro e u12 ⟨rfl, q12⟩
      have B13 := B12.trans (q12.mono B12.size)
      have hS13 := HSS.out _ B13
      go_wp2_with fail
      refine hK.out _ _ (fun _ => hS13) ?_
      clear hK K
      try simp only [Act.put, List.getElem_toArray, List.getElem_cons_zero, List.getElem_cons_succ, List.setIfInBounds_toArray, List.set_cons_zero, List.set_cons_succ]
      refine wpAnyL_one 72 (by kernel_rfl) rfl (fun K hK => ?_)
      go_simp
      have HQ := K13.out _ B13
      (with_reducible refine HQ.mono ?_)
      clear HQ
      rintro e u13 ⟨rfl, q13⟩
      have B14 := B13.trans (q13.mono B13.size)
      have hS14 := HSS.out _ B14
      go_wp2_with fail
      refine hK.out _ _ (fun _ => hS14) ?_
      clear hK K
      try simp only [Act.put, List.getElem_toArray, List.getElem_cons_zero, List.getElem_cons_succ, List.setIfInBounds_toArray, List.set_cons_zero, List.set_cons_succ]
      refine tkL 73 (v := ?_) rfl (by kernel_rfl) (fun _ _ _ h => h) (Or.inl ⟨by rfl, ?_⟩) hS14 ?_
      rotate_left
      · (intro w hSw; (try dsimp only at hSw); go_simp) <;> (try with_reducible rfl)
      try simp only [Act.put, List.getElem_toArray, List.getElem_cons_zero, List.getElem_cons_succ, List.setIfInBounds_toArray, List.set_cons_zero, List.set_cons_succ]
      refine tkL 74 (v := ?_) rfl (by kernel_rfl) (fun _ _ _ h => h) (Or.inl ⟨by rfl, ?_⟩) hS14 ?_
      rotate_left
      · (intro w hSw; (try dsimp only at hSw); go_simp) <;> (try with_reducible rfl)
      try simp only [Act.put, List.getElem_toArray, List.getElem_cons_zero, List.getElem_cons_succ, List.setIfInBounds_toArray, List.set_cons_zero, List.set_cons_succ]
      refine tkL 75 (v := ?_) rfl (by kernel_rfl) (fun _ _ _ h => h) (Or.inl ⟨by rfl, ?_⟩) hS14 ?_
      rotate_left
      · (intro w hSw; (try dsimp only at hSw); go_simp) <;> (try with_reducible rfl)
      try simp only [Act.put, List.getElem_toArray, List.getElem_cons_zero, List.getElem_cons_succ, List.setIfInBounds_toArray, List.set_cons_zero, List.set_cons_succ]
      refine tkL 76 (v := ?_) rfl (by kernel_rfl) (fun _ _ _ h => h) (Or.inl ⟨by rfl, ?_⟩) hS14 ?_
      rotate_left
      · (intro w hSw; (try dsimp only at hSw); go_simp) <;> (try with_reducible rfl)
      try simp only [Act.put, List.getElem_toArray, List.getElem_cons_zero, List.getElem_cons_succ, List.setIfInBounds_toArray, List.set_cons_zero, List.set_cons_succ]
      refine tkL 78 (v := ?_) rfl (by kernel_rfl) (fun _ _ _ h => h) (Or.inl ⟨by rfl, ?_⟩) hS14 ?_
      rotate_left
      · (intro w hSw; (try dsimp only at hSw); go_simp) <;> (try with_reducible rfl)
      try simp only [Act.put, List.getElem_toArray, List.getElem_cons_zero, List.getElem_cons_succ, List.setIfInBounds_toArray, List.set_cons_zero, List.set_cons_succ]
      refine wpAnyL_one 77 (by kernel_rfl) rfl (fun K hK => ?_)
      go_simp
      have HQ := K14.out _ B14
      (with_reducible refine HQ.mono ?_)
      clear HQ
      rintro e u14 ⟨rfl, q14⟩
      have B15 := B14.trans (q14.mono B14.size)
      have hS15 := HSS.out _ B15
      go_wp2_with fail
      refine hK.out _ _ (fun _ => hS15) ?_
      clear hK K
      try simp only [Act.put, List.getElem_toArray, List.getElem_cons_zero, List.getElem_cons_succ, List.setIfInBounds_toArray, List.set_cons_zero, List.set_cons_succ]
      refine wpAnyL_one 79 (by kernel_rfl) rfl (fun K hK => ?_)
      go_simp
      have HQ := K15.out _ B15
      (with_reducible refine HQ.mono ?_)
      clear HQ
      rintro e u15 ⟨rfl, q15⟩
      have B16 := B15.trans (q15.mono B15.size)
      have hS16 := HSS.out _ B16
      go_wp2_with fail
      refine hK.out _ _ (fun _ => hS16) ?_
      clear hK K
      try simp only [Act.put, List.getElem_toArray, List.getElem_cons_zero, List.getElem_cons_succ, List.setIfInBounds_toArray, List.set_cons_zero, List.set_cons_succ]
      refine tkL 80 (v := ?_) rfl (by kernel_rfl) (fun _ _ _ h => h) (Or.inl ⟨by rfl, ?_⟩) hS16 ?_
      rotate_left
      · (intro w hSw; (try dsimp only at hSw); go_simp) <;> (try with_reducible rfl)
      try simp only [Act.put, List.getElem_toArray, List.getElem_cons_zero, List.getElem_cons_succ, List.setIfInBounds_toArray, List.set_cons_zero, List.set_cons_succ]
      refine wpAnyL_one 81 (by kernel_rfl) rfl (fun K hK => ?_)
      go_simp
      refine hK.out _ _ (fun h => absurd h (not_rem (by kernel_rfl))) ?_
      clear hK K
      try simp only [Act.put, List.getElem_toArray, List.getElem_cons_zero, List.getElem_cons_succ, List.setIfInBounds_toArray, List.set_cons_zero, List.set_cons_succ]
      refine wpAnyL_done (by kernel_rfl) ?_ _
      replace Hl := Lib.hid (LabR.frame _ _ _ _ Hl.out B16)
      replace Hwo := Lib.hid (StrsR.frame _ _ _ _ Hwo.out B16)
      replace Ha := Lib.hid (LabR.frame _ _ _ _ Ha.out B16)
      replace Ht := Lib.hid (LabR.frame _ _ _ _ Ht.out B16)
      replace Hx := Lib.hid (LabR.frame _ _ _ _ Hx.out B16)
      replace Hu := Lib.hid (LabR.frame _ _ _ _ Hu.out B16)
      replace Hs := Lib.hid (ShR.frame _ _ _ _ Hs.out B16)
      replace Hy := Lib.hid (LabR.frame _ _ _ _ Hy.out B16)
      replace Hz := Lib.hid (LabR.frame _ _ _ _ Hz.out B16)
      replace Hb := Lib.hid (LabR.frame _ _ _ _ Hb.out B16)
      replace Hm := Lib.hid (Tab.frame _ _ _ _ Hm.out B16)
      replace Hk := Lib.hid (Tab.frame _ _ _ _ Hk.out B16)
      replace Hc := Lib.hid (LabR.frame _ _ _ _ Hc.out B16)
      replace Hd := Lib.hid (LabR.frame _ _ _ _ Hd.out B16)
      replace cell_l0 := (B16.cell (p := ⟨w1.heap.size, 0, none⟩) mb_l).trans cell_l0
      replace cell_l1 := (B16.cell (p := ⟨w1.heap.size, 1, none⟩) mb_l).trans cell_l1
      replace cell_l2 := (B16.cell (p := ⟨w1.heap.size, 2, none⟩) mb_l).trans cell_l2
      replace mb_l := Nat.lt_of_lt_of_le mb_l B16.size
      replace cell_a0 := (B16.cell (p := ⟨w4.heap.size, 0, none⟩) mb_a).trans cell_a0
      replace cell_a1 := (B16.cell (p := ⟨w4.heap.size, 1, none⟩) mb_a).trans cell_a1
      replace cell_a2 := (B16.cell (p := ⟨w4.heap.size, 2, none⟩) mb_a).trans cell_a2
      replace mb_a := Nat.lt_of_lt_of_le mb_a B16.size
      replace cell_t0 := (B16.cell (p := ⟨w6.heap.size, 0, none⟩) mb_t).trans cell_t0
      replace cell_t1 := (B16.cell (p := ⟨w6.heap.size, 1, none⟩) mb_t).trans cell_t1
      replace cell_t2 := (B16.cell (p := ⟨w6.heap.size, 2, none⟩) mb_t).trans cell_t2
      replace mb_t := Nat.lt_of_lt_of_le mb_t B16.size
      replace cell_x0 := (B16.cell (p := ⟨w8.heap.size, 0, none⟩) mb_x).trans cell_x0
      replace cell_x1 := (B16.cell (p := ⟨w8.heap.size, 1, none⟩) mb_x).trans cell_x1
      replace cell_x2 := (B16.cell (p := ⟨w8.heap.size, 2, none⟩) mb_x).trans cell_x2
      replace mb_x := Nat.lt_of_lt_of_le mb_x B16.size
      replace cell_u0 := (B16.cell (p := ⟨w10.heap.size, 0, none⟩) mb_u).trans cell_u0
      replace cell_u1 := (B16.cell (p := ⟨w10.heap.size, 1, none⟩) mb_u).trans cell_u1
      replace cell_u2 := (B16.cell (p := ⟨w10.heap.size, 2, none⟩) mb_u).trans cell_u2
      replace mb_u := Nat.lt_of_lt_of_le mb_u B16.size
      replace cell_s0 := (B16.cell (p := ⟨w12.heap.size, 0, none⟩) mb_s).trans cell_s0
      replace cell_s1 := (B16.cell (p := ⟨w12.heap.size, 1, none⟩) mb_s).trans cell_s1
      replace mb_s := Nat.lt_of_lt_of_le mb_s B16.size
      replace cell_y0 := (B16.cell (p := ⟨w14.heap.size, 0, none⟩) mb_y).trans cell_y0
      replace cell_y1 := (B16.cell (p := ⟨w14.heap.size, 1, none⟩) mb_y).trans cell_y1
      replace cell_y2 := (B16.cell (p := ⟨w14.heap.size, 2, none⟩) mb_y).trans cell_y2
      replace mb_y := Nat.lt_of_lt_of_le mb_y B16.size
      replace cell_z0 := (B16.cell (p := ⟨w16.heap.size, 0, none⟩) mb_z).trans cell_z0
      replace cell_z1 := (B16.cell (p := ⟨w16.heap.size, 1, none⟩) mb_z).trans cell_z1
      replace cell_z2 := (B16.cell (p := ⟨w16.heap.size, 2, none⟩) mb_z).trans cell_z2
      replace mb_z := Nat.lt_of_lt_of_le mb_z B16.size
      replace cell_b0 := (B16.cell (p := ⟨w18.heap.size, 0, none⟩) mb_b).trans cell_b0
      replace cell_b1 := (B16.cell (p := ⟨w18.heap.size, 1, none⟩) mb_b).trans cell_b1
      replace cell_b2 := (B16.cell (p := ⟨w18.heap.size, 2, none⟩) mb_b).trans cell_b2
      replace mb_b := Nat.lt_of_lt_of_le mb_b B16.size
      replace cell_c0 := (B16.cell (p := ⟨w22.heap.size, 0, none⟩) mb_c).trans cell_c0
      replace cell_c1 := (B16.cell (p := ⟨w22.heap.size, 1, none⟩) mb_c).trans cell_c1
      replace cell_c2 := (B16.cell (p := ⟨w22.heap.size, 2, none⟩) mb_c).trans cell_c2
      replace mb_c := Nat.lt_of_lt_of_le mb_c B16.size
      replace cell_d0 := (B16.cell (p := ⟨w22.heap.size + 1, 0, none⟩) mb_d).trans cell_d0
      replace cell_d1 := (B16.cell (p := ⟨w22.heap.size + 1, 1, none⟩) mb_d).trans cell_d1
      replace cell_d2 := (B16.cell (p := ⟨w22.heap.size + 1, 2, none⟩) mb_d).trans cell_d2
      replace mb_d := Nat.lt_of_lt_of_le mb_d B16.size
      replace HB := Lib.hid (HB.out.trans (B16.mono HB.out.size))
      go_wp2_with fail
      go_meet
      case rel => exact ⟨rfl, HB, Hx, cell_x0, cell_x1, cell_x2, mb_x, Ht, cell_t0, cell_t1, cell_t2, mb_t, Hy, cell_y0, cell_y1, cell_y2, mb_y, Hs, cell_s0, cell_s1, mb_s, Hm⟩
  case rest =>
    as_aux_lemma =>
      clear Hl
      clear Hwo
      clear Ha
      clear Ht
      clear Hx
      clear Hu
      clear Hs
      clear Hy
      clear Hz
      clear Hb
      clear Hm
      clear Hk
      clear Hc
      clear Hd
      clear cell_l0 cell_l1 cell_l2 mb_l
      clear cell_a0 cell_a1 cell_a2 mb_a
      clear cell_t0 cell_t1 cell_t2 mb_t
      clear cell_x0 cell_x1 cell_x2 mb_x
      clear cell_u0 cell_u1 cell_u2 mb_u
      clear cell_s0 cell_s1 mb_s
      clear cell_y0 cell_y1 cell_y2 mb_y
      clear cell_z0 cell_z1 cell_z2 mb_z
      clear cell_b0 cell_b1 cell_b2 mb_b
      clear cell_c0 cell_c1 cell_c2 mb_c
      clear cell_d0 cell_d1 cell_d2 mb_d
      clear HB
      obtain ⟨rfl, HB, Hx, cell_x0, cell_x1, cell_x2, mb_x, Ht, cell_t0, cell_t1, cell_t2, mb_t, Hy, cell_y0, cell_y1, cell_y2, mb_y, Hs, cell_s0, cell_s1, mb_s, Hm⟩ := hcut
      obtain ⟨w25, rfl⟩ : ∃ x, x = wc := ⟨_, rfl⟩
      go_upto_region 18 with fail
      go_cut [180] (fun sB0 wx => sB0 = .bool false ∧ Hid (Below w.heap.size w wx) ∧ Hid (LabR wx (.agg #[.int .i64 X.1, .int .i64 X.2.1, .slice xa_x n_x xc_x]) X) ∧ wx.cell? ⟨w8.heap.size, 0, none⟩ = some (.int .i64 X.1) ∧ wx.cell? ⟨w8.heap.size, 1, none⟩ = some (.int .i64 X.2.1) ∧ wx.cell? ⟨w8.heap.size, 2, none⟩ = some (.slice xa_x n_x xc_x) ∧ w8.heap.size < wx.heap.size ∧ Hid (LabR wx (.agg #[.int .i64 t.1, .int .i64 t.2.1, .slice xa_t n_t xc_t]) t) ∧ wx.cell? ⟨w6.heap.size, 0, none⟩ = some (.int .i64 t.1) ∧ wx.cell? ⟨w6.heap.size, 1, none⟩ = some (.int .i64 t.2.1) ∧ wx.cell? ⟨w6.heap.size, 2, none⟩ = some (.slice xa_t n_t xc_t) ∧ w6.heap.size < wx.heap.size ∧ Hid (LabR wx (.agg #[.int .i64 Y.1, .int .i64 Y.2.1, .slice xa_y n_y xc_y]) Y) ∧ wx.cell? ⟨w14.heap.size, 0, none⟩ = some (.int .i64 Y.1) ∧ wx.cell? ⟨w14.heap.size, 1, none⟩ = some (.int .i64 Y.2.1) ∧ wx.cell? ⟨w14.heap.size, 2, none⟩ = some (.slice xa_y n_y xc_y) ∧ w14.heap.size < wx.heap.size ∧ Hid (ShR wx (.agg #[.int .i64 s.1, .slice xa_s n_s xc_s]) s) ∧ wx.cell? ⟨w12.heap.size, 0, none⟩ = some (.int .i64 s.1) ∧ wx.cell? ⟨w12.heap.size, 1, none⟩ = some (.slice xa_s n_s xc_s) ∧ w12.heap.size < wx.heap.size)
      case first =>
        as_aux_lemma =>
          cases three with
          | false =>
            have Q1 := Lib.hid (fun n => Reads.quiet (sumOf_q (Hm.out.dn n)))
            go_wp2
            go_quiet ((first | (go_at_call 31; exact Q1.out _) | fail))
            go_wp2_with fail
            go_meet
            case rel => exact ⟨rfl, Lib.hid (HB.out.trans ((below_drewN (Below.refl w25.heap.size w25) _).mono HB.out.size)), Lib.hid (LabR.frame _ _ _ _ Hx.out (below_drewN (Below.refl w25.heap.size w25) _)), ((below_drewN (Below.refl w25.heap.size w25) _).cell (p := ⟨w8.heap.size, 0, none⟩) mb_x).trans cell_x0, ((below_drewN (Below.refl w25.heap.size w25) _).cell (p := ⟨w8.heap.size, 1, none⟩) mb_x).trans cell_x1, ((below_drewN (Below.refl w25.heap.size w25) _).cell (p := ⟨w8.heap.size, 2, none⟩) mb_x).trans cell_x2, Nat.lt_of_lt_of_le mb_x (below_drewN (Below.refl w25.heap.size w25) _).size, Lib.hid (LabR.frame _ _ _ _ Ht.out (below_drewN (Below.refl w25.heap.size w25) _)), ((below_drewN (Below.refl w25.heap.size w25) _).cell (p := ⟨w6.heap.size, 0, none⟩) mb_t).trans cell_t0, ((below_drewN (Below.refl w25.heap.size w25) _).cell (p := ⟨w6.heap.size, 1, none⟩) mb_t).trans cell_t1, ((below_drewN (Below.refl w25.heap.size w25) _).cell (p := ⟨w6.heap.size, 2, none⟩) mb_t).trans cell_t2, Nat.lt_of_lt_of_le mb_t (below_drewN (Below.refl w25.heap.size w25) _).size, Lib.hid (LabR.frame _ _ _ _ Hy.out (below_drewN (Below.refl w25.heap.size w25) _)), ((below_drewN (Below.refl w25.heap.size w25) _).cell (p := ⟨w14.heap.size, 0, none⟩) mb_y).trans cell_y0, ((below_drewN (Below.refl w25.heap.size w25) _).cell (p := ⟨w14.heap.size, 1, none⟩) mb_y).trans cell_y1, ((below_drewN (Below.refl w25.heap.size w25) _).cell (p := ⟨w14.heap.size, 2, none⟩) mb_y).trans cell_y2, Nat.lt_of_lt_of_le mb_y (below_drewN (Below.refl w25.heap.size w25) _).size, Lib.hid (ShR.frame _ _ _ _ Hs.out (below_drewN (Below.refl w25.heap.size w25) _)), ((below_drewN (Below.refl w25.heap.size w25) _).cell (p := ⟨w12.heap.size, 0, none⟩) mb_s).trans cell_s0, ((below_drewN (Below.refl w25.heap.size w25) _).cell (p := ⟨w12.heap.size, 1, none⟩) mb_s).trans cell_s1, Nat.lt_of_lt_of_le mb_s (below_drewN (Below.refl w25.heap.size w25) _).size⟩
          | true =>
            have Q1 := Lib.hid (fun n => Reads.quiet (sumOf_q (Hm.out.dn n)))
            have hsm : sumV M = (n_t : Int) := by rw [H_M.out, matV_sum H_three.out.symm, Hn_t.out]
            rw [hsm] at Q1
            have tn_sm : ((n_t : Int) != (n_t : Int)) = false := by simp
            clear hsm
            go_wp2
            go_quiet ((first | (go_at_call 31; exact Q1.out _) | fail))
            go_wp2_with fail
            go_meet
            case rel => exact ⟨rfl, Lib.hid (HB.out.trans ((below_drewN (Below.refl w25.heap.size w25) _).mono HB.out.size)), Lib.hid (LabR.frame _ _ _ _ Hx.out (below_drewN (Below.refl w25.heap.size w25) _)), ((below_drewN (Below.refl w25.heap.size w25) _).cell (p := ⟨w8.heap.size, 0, none⟩) mb_x).trans cell_x0, ((below_drewN (Below.refl w25.heap.size w25) _).cell (p := ⟨w8.heap.size, 1, none⟩) mb_x).trans cell_x1, ((below_drewN (Below.refl w25.heap.size w25) _).cell (p := ⟨w8.heap.size, 2, none⟩) mb_x).trans cell_x2, Nat.lt_of_lt_of_le mb_x (below_drewN (Below.refl w25.heap.size w25) _).size, Lib.hid (LabR.frame _ _ _ _ Ht.out (below_drewN (Below.refl w25.heap.size w25) _)), ((below_drewN (Below.refl w25.heap.size w25) _).cell (p := ⟨w6.heap.size, 0, none⟩) mb_t).trans cell_t0, ((below_drewN (Below.refl w25.heap.size w25) _).cell (p := ⟨w6.heap.size, 1, none⟩) mb_t).trans cell_t1, ((below_drewN (Below.refl w25.heap.size w25) _).cell (p := ⟨w6.heap.size, 2, none⟩) mb_t).trans cell_t2, Nat.lt_of_lt_of_le mb_t (below_drewN (Below.refl w25.heap.size w25) _).size, Lib.hid (LabR.frame _ _ _ _ Hy.out (below_drewN (Below.refl w25.heap.size w25) _)), ((below_drewN (Below.refl w25.heap.size w25) _).cell (p := ⟨w14.heap.size, 0, none⟩) mb_y).trans cell_y0, ((below_drewN (Below.refl w25.heap.size w25) _).cell (p := ⟨w14.heap.size, 1, none⟩) mb_y).trans cell_y1, ((below_drewN (Below.refl w25.heap.size w25) _).cell (p := ⟨w14.heap.size, 2, none⟩) mb_y).trans cell_y2, Nat.lt_of_lt_of_le mb_y (below_drewN (Below.refl w25.heap.size w25) _).size, Lib.hid (ShR.frame _ _ _ _ Hs.out (below_drewN (Below.refl w25.heap.size w25) _)), ((below_drewN (Below.refl w25.heap.size w25) _).cell (p := ⟨w12.heap.size, 0, none⟩) mb_s).trans cell_s0, ((below_drewN (Below.refl w25.heap.size w25) _).cell (p := ⟨w12.heap.size, 1, none⟩) mb_s).trans cell_s1, Nat.lt_of_lt_of_le mb_s (below_drewN (Below.refl w25.heap.size w25) _).size⟩
      case rest =>
        as_aux_lemma =>
          clear Hx
          clear Ht
          clear Hy
          clear Hs
          clear Hm
          clear cell_x0 cell_x1 cell_x2 mb_x
          clear cell_t0 cell_t1 cell_t2 mb_t
          clear cell_y0 cell_y1 cell_y2 mb_y
          clear cell_s0 cell_s1 mb_s
          clear HB
          obtain ⟨rfl, HB, Hx, cell_x0, cell_x1, cell_x2, mb_x, Ht, cell_t0, cell_t1, cell_t2, mb_t, Hy, cell_y0, cell_y1, cell_y2, mb_y, Hs, cell_s0, cell_s1, mb_s⟩ := hcut
          obtain ⟨w26, rfl⟩ : ∃ x, x = wc := ⟨_, rfl⟩
          go_upto_if 181 with fail
          go_cut [] (fun wx => Hid (Below w.heap.size w wx) ∧ Hid (LabR wx (.agg #[.int .i64 Y.1, .int .i64 Y.2.1, .slice xa_y n_y xc_y]) Y) ∧ wx.cell? ⟨w14.heap.size, 0, none⟩ = some (.int .i64 Y.1) ∧ wx.cell? ⟨w14.heap.size, 1, none⟩ = some (.int .i64 Y.2.1) ∧ wx.cell? ⟨w14.heap.size, 2, none⟩ = some (.slice xa_y n_y xc_y) ∧ w14.heap.size < wx.heap.size ∧ Hid (ShR wx (.agg #[.int .i64 s.1, .slice xa_s n_s xc_s]) s) ∧ wx.cell? ⟨w12.heap.size, 0, none⟩ = some (.int .i64 s.1) ∧ wx.cell? ⟨w12.heap.size, 1, none⟩ = some (.slice xa_s n_s xc_s) ∧ w12.heap.size < wx.heap.size)
          case first =>
            as_aux_lemma =>
              cases ok with
              | false =>
                go_wp2_with fail
                go_meet
                case rel => exact ⟨HB, Hy, cell_y0, cell_y1, cell_y2, mb_y, Hs, cell_s0, cell_s1, mb_s⟩
              | true =>
                have HLaw := Lib.hid (fun (P : ByteArray) (hP : P ∈ rdwM X 3) => (show P.size = 3 ∧ readsM t P = true ∧ readsM X (P.extract 1 P.size) = true ∧ (readsM X (P ++ "a".toUTF8) = true ∨ readsM X (P ++ "b".toUTF8) = true ∨ readsM X (P ++ "c".toUTF8) = true) from by rw [H_X.out] at hP ⊢; exact labels_law H_ok.out.symm hP))
                obtain ⟨PW, h_PW⟩ : ∃ bb_, bb_ = rdwM X 3 := ⟨_, rfl⟩
                have H_PW := Lib.hid h_PW
                clear h_PW
                rw [← H_PW.out] at HLaw
                have HQ := Lib.hid (spec_ReadWords_c (nn := 3) Hx.out (show I64 3 from by unfold I64; omega))
                rw [← H_PW.out] at HQ
                go_wp2_with fail
                (with_reducible refine HQ.out.mono ?_)
                clear HQ
                rintro e w27 ⟨vp, rfl, hn, hb⟩
                replace Hx := Lib.hid (LabR.frame _ _ _ _ Hx.out hb)
                replace Ht := Lib.hid (LabR.frame _ _ _ _ Ht.out hb)
                replace Hy := Lib.hid (LabR.frame _ _ _ _ Hy.out hb)
                replace Hs := Lib.hid (ShR.frame _ _ _ _ Hs.out hb)
                replace cell_x0 := (hb.cell (p := ⟨w8.heap.size, 0, none⟩) mb_x).trans cell_x0
                replace cell_x1 := (hb.cell (p := ⟨w8.heap.size, 1, none⟩) mb_x).trans cell_x1
                replace cell_x2 := (hb.cell (p := ⟨w8.heap.size, 2, none⟩) mb_x).trans cell_x2
                replace mb_x := Nat.lt_of_lt_of_le mb_x hb.size
                replace cell_t0 := (hb.cell (p := ⟨w6.heap.size, 0, none⟩) mb_t).trans cell_t0
                replace cell_t1 := (hb.cell (p := ⟨w6.heap.size, 1, none⟩) mb_t).trans cell_t1
                replace cell_t2 := (hb.cell (p := ⟨w6.heap.size, 2, none⟩) mb_t).trans cell_t2
                replace mb_t := Nat.lt_of_lt_of_le mb_t hb.size
                replace cell_y0 := (hb.cell (p := ⟨w14.heap.size, 0, none⟩) mb_y).trans cell_y0
                replace cell_y1 := (hb.cell (p := ⟨w14.heap.size, 1, none⟩) mb_y).trans cell_y1
                replace cell_y2 := (hb.cell (p := ⟨w14.heap.size, 2, none⟩) mb_y).trans cell_y2
                replace mb_y := Nat.lt_of_lt_of_le mb_y hb.size
                replace cell_s0 := (hb.cell (p := ⟨w12.heap.size, 0, none⟩) mb_s).trans cell_s0
                replace cell_s1 := (hb.cell (p := ⟨w12.heap.size, 1, none⟩) mb_s).trans cell_s1
                replace mb_s := Nat.lt_of_lt_of_le mb_s hb.size
                replace HB := Lib.hid (HB.out.trans (hb.mono HB.out.size))
                have Hp := Lib.hid (New.strs hn)
                obtain ⟨sa_p, sc_p, hv, -⟩ := Hp.out.shape
                subst hv
                generalize hn_p : (PW).length = n_p at Hp ⊢
                have Hn_p := Lib.hid hn_p
                clear hn_p
                clear hn hb
                go_wp2
                go_loopg [28] n_p (fun g iv wr => ∃ i : Nat, iv = .int .i64 i ∧ i + g = n_p ∧ Hid (Below w27.heap.size w27 wr))
                case atStart => exact ⟨0, rfl, by omega, Lib.hid (Below.refl _ _)⟩
                case round =>
                  obtain ⟨i, rfl, hi, HBl⟩ := hrel
                  obtain ⟨w28, rfl⟩ : ∃ x, x = wr := ⟨_, rfl⟩
                  have hbl := HBl.out
                  replace Hx := Lib.hid (LabR.frame _ _ _ _ Hx.out hbl)
                  replace Ht := Lib.hid (LabR.frame _ _ _ _ Ht.out hbl)
                  replace Hy := Lib.hid (LabR.frame _ _ _ _ Hy.out hbl)
                  replace Hs := Lib.hid (ShR.frame _ _ _ _ Hs.out hbl)
                  replace Hp := Lib.hid (StrsR.frame _ _ _ _ Hp.out hbl)
                  replace cell_x0 := (hbl.cell (p := ⟨w8.heap.size, 0, none⟩) mb_x).trans cell_x0
                  replace cell_x1 := (hbl.cell (p := ⟨w8.heap.size, 1, none⟩) mb_x).trans cell_x1
                  replace cell_x2 := (hbl.cell (p := ⟨w8.heap.size, 2, none⟩) mb_x).trans cell_x2
                  replace mb_x := Nat.lt_of_lt_of_le mb_x hbl.size
                  replace cell_t0 := (hbl.cell (p := ⟨w6.heap.size, 0, none⟩) mb_t).trans cell_t0
                  replace cell_t1 := (hbl.cell (p := ⟨w6.heap.size, 1, none⟩) mb_t).trans cell_t1
                  replace cell_t2 := (hbl.cell (p := ⟨w6.heap.size, 2, none⟩) mb_t).trans cell_t2
                  replace mb_t := Nat.lt_of_lt_of_le mb_t hbl.size
                  replace cell_y0 := (hbl.cell (p := ⟨w14.heap.size, 0, none⟩) mb_y).trans cell_y0
                  replace cell_y1 := (hbl.cell (p := ⟨w14.heap.size, 1, none⟩) mb_y).trans cell_y1
                  replace cell_y2 := (hbl.cell (p := ⟨w14.heap.size, 2, none⟩) mb_y).trans cell_y2
                  replace mb_y := Nat.lt_of_lt_of_le mb_y hbl.size
                  replace cell_s0 := (hbl.cell (p := ⟨w12.heap.size, 0, none⟩) mb_s).trans cell_s0
                  replace cell_s1 := (hbl.cell (p := ⟨w12.heap.size, 1, none⟩) mb_s).trans cell_s1
                  replace mb_s := Nat.lt_of_lt_of_le mb_s hbl.size
                  replace HB := Lib.hid (HB.out.trans (hbl.mono HB.out.size))
                  clear hbl
                  by_cases hiN : i < n_p
                  · have hiNi : (i : Int) < (n_p : Int) := by omega
                    have hi0 : (0 : Int) ≤ (i : Int) := by omega
                    obtain ⟨g, rfl⟩ : ∃ y, gk = y + 1 := ⟨gk - 1, by omega⟩
                    obtain ⟨P, hP, -⟩ := at_lt (xs := PW) (k := i) (by rw [Hn_p.out]; exact hiN)
                    obtain ⟨hP3, HJ1, HJ2, HJ3⟩ := HLaw.out P (List.mem_of_getElem? hP)
                    obtain ⟨pb, po, pc, hv, hpb, gP⟩ := strs_cell Hp.out hP
                    rw [Hn_p.out] at hv
                    simp only [Value.slice.injEq] at hv
                    obtain ⟨rfl, -, rfl⟩ := hv
                    have hnp : n_p ≤ 9223372036854775807 := by have := Hp.out.len; rw [Hn_p.out] at this; exact this
                    have HP3 := Lib.hid hP3
                    clear hP hP3
                    obtain ⟨Pa, hPa⟩ : ∃ s, s = P ++ (⟨#[97]⟩ : ByteArray) := ⟨_, rfl⟩
                    have HPaz := Lib.hid (show Pa.size ≤ 4 from by rw [hPa, ByteArray.size_append]; have := HP3.out; have e1 : (⟨#[97]⟩ : ByteArray).size = 1 := rfl; omega)
                    obtain ⟨ra, hra⟩ : ∃ q, q = readsM X Pa := ⟨_, rfl⟩
                    have Hra := Lib.hid hra
                    clear hra
                    obtain ⟨Pb, hPb⟩ : ∃ s, s = P ++ (⟨#[98]⟩ : ByteArray) := ⟨_, rfl⟩
                    have HPbz := Lib.hid (show Pb.size ≤ 4 from by rw [hPb, ByteArray.size_append]; have := HP3.out; have e1 : (⟨#[98]⟩ : ByteArray).size = 1 := rfl; omega)
                    obtain ⟨rb, hrb⟩ : ∃ q, q = readsM X Pb := ⟨_, rfl⟩
                    have Hrb := Lib.hid hrb
                    clear hrb
                    obtain ⟨Pc, hPc⟩ : ∃ s, s = P ++ (⟨#[99]⟩ : ByteArray) := ⟨_, rfl⟩
                    have HPcz := Lib.hid (show Pc.size ≤ 4 from by rw [hPc, ByteArray.size_append]; have := HP3.out; have e1 : (⟨#[99]⟩ : ByteArray).size = 1 := rfl; omega)
                    obtain ⟨rc, hrc⟩ : ∃ q, q = readsM X Pc := ⟨_, rfl⟩
                    have Hrc := Lib.hid hrc
                    clear hrc
                    have HR := Lib.hid (show ra = true ∨ rb = true ∨ rc = true from by rw [Hra.out, Hrb.out, Hrc.out, hPa, hPb, hPc]; exact HJ3)
                    clear HJ3
                    have hsa := hPa.symm
                    have hsb := hPb.symm
                    have hsc := hPc.symm
                    clear hPa hPb hPc
                    have hz1 : ¬ (9223372036854775807 < P.size + (⟨#[97]⟩ : ByteArray).size) := by have := HP3.out; have e1 : (⟨#[97]⟩ : ByteArray).size = 1 := rfl; omega
                    have hz2 : ¬ (9223372036854775807 < P.size + (⟨#[98]⟩ : ByteArray).size) := by have := HP3.out; have e1 : (⟨#[98]⟩ : ByteArray).size = 1 := rfl; omega
                    have hz3 : ¬ (9223372036854775807 < P.size + (⟨#[99]⟩ : ByteArray).size) := by have := HP3.out; have e1 : (⟨#[99]⟩ : ByteArray).size = 1 := rfl; omega
                    have hz4 : ¬ (9223372036854775807 < P.size + 1) := by have := HP3.out; omega
                    obtain ⟨P1, hP1⟩ : ∃ s, s = P.extract 1 P.size := ⟨_, rfl⟩
                    rw [← hP1] at HJ2
                    have HP1z := Lib.hid (show P1.size ≤ 4 from by rw [hP1, ByteArray.size_extract]; have := HP3.out; omega)
                    have hsl := fun w => str_tail (s := P) (by have := HP3.out; omega) w
                    rw [← hP1] at hsl
                    clear hP1
                    have HJ1' := Lib.hid HJ1
                    have HJ2' := Lib.hid HJ2
                    clear HJ1 HJ2
                    have C0 := Lib.hid (fun (w' : World) (hb : Below w28.heap.size w28 w') => impl_ReadsWord_c (LabR.frame _ _ _ _ Ht.out hb) (s := P) (by unfold maxLen; have := HP3.out; omega))
                    rw [HJ1'.out] at C0
                    have C1 := Lib.hid (fun (w' : World) (hb : Below w28.heap.size w28 w') => impl_ReadsWord_c (LabR.frame _ _ _ _ Hx.out hb) (s := P1) (by unfold maxLen; have := HP1z.out; omega))
                    rw [HJ2'.out] at C1
                    have Ca := Lib.hid (fun (w' : World) (hb : Below w28.heap.size w28 w') => impl_ReadsWord_c (LabR.frame _ _ _ _ Hx.out hb) (s := Pa) (by unfold maxLen; have := HPaz.out; omega))
                    rw [← Hra.out] at Ca
                    have Cb := Lib.hid (fun (w' : World) (hb : Below w28.heap.size w28 w') => impl_ReadsWord_c (LabR.frame _ _ _ _ Hx.out hb) (s := Pb) (by unfold maxLen; have := HPbz.out; omega))
                    rw [← Hrb.out] at Cb
                    have Cc := Lib.hid (fun (w' : World) (hb : Below w28.heap.size w28 w') => impl_ReadsWord_c (LabR.frame _ _ _ _ Hx.out hb) (s := Pc) (by unfold maxLen; have := HPcz.out; omega))
                    rw [← Hrc.out] at Cc
                    go_upto_region 25 with fail
                    have HSS := Lib.hid (fun (w' : World) (hb : Below w28.heap.size w28 w') => (show w'.cell? ⟨w6.heap.size, 0, none⟩ = some (.int .i64 t.1) ∧ w'.cell? ⟨w6.heap.size, 1, none⟩ = some (.int .i64 t.2.1) ∧ w'.cell? ⟨w6.heap.size, 2, none⟩ = some (.slice xa_t n_t xc_t) ∧ w'.cell? ⟨w8.heap.size, 0, none⟩ = some (.int .i64 X.1) ∧ w'.cell? ⟨w8.heap.size, 1, none⟩ = some (.int .i64 X.2.1) ∧ w'.cell? ⟨w8.heap.size, 2, none⟩ = some (.slice xa_x n_x xc_x) ∧ w'.cell? ⟨pb, po + i, none⟩ = some (.string P) from ⟨(hb.cell (p := ⟨w6.heap.size, 0, none⟩) mb_t).trans cell_t0, (hb.cell (p := ⟨w6.heap.size, 1, none⟩) mb_t).trans cell_t1, (hb.cell (p := ⟨w6.heap.size, 2, none⟩) mb_t).trans cell_t2, (hb.cell (p := ⟨w8.heap.size, 0, none⟩) mb_x).trans cell_x0, (hb.cell (p := ⟨w8.heap.size, 1, none⟩) mb_x).trans cell_x1, (hb.cell (p := ⟨w8.heap.size, 2, none⟩) mb_x).trans cell_x2, (hb.cell (p := ⟨pb, po + i, none⟩) hpb).trans gP⟩))
                    have hS0 := HSS.out _ (Below.refl _ _)
                    have B1 := (Below.refl w28.heap.size w28).drew
                    have hSd := HSS.out _ B1
                    refine wp_region_L (fun w' => w'.cell? ⟨w6.heap.size, 0, none⟩ = some (.int .i64 t.1) ∧ w'.cell? ⟨w6.heap.size, 1, none⟩ = some (.int .i64 t.2.1) ∧ w'.cell? ⟨w6.heap.size, 2, none⟩ = some (.slice xa_t n_t xc_t) ∧ w'.cell? ⟨w8.heap.size, 0, none⟩ = some (.int .i64 X.1) ∧ w'.cell? ⟨w8.heap.size, 1, none⟩ = some (.int .i64 X.2.1) ∧ w'.cell? ⟨w8.heap.size, 2, none⟩ = some (.slice xa_x n_x xc_x) ∧ w'.cell? ⟨pb, po + i, none⟩ = some (.string P)) (by kernel_rfl) ?_
                    refine tkL 0 (v := ?_) rfl (by kernel_rfl) (fun _ _ _ h => h) (Or.inl ⟨by rfl, ?_⟩) hSd ?_
                    rotate_left
                    · (intro w hSw; (try dsimp only at hSw); go_simp) <;> (try with_reducible rfl)
                    try simp only [Act.put, List.getElem_toArray, List.getElem_cons_zero, List.getElem_cons_succ, List.setIfInBounds_toArray, List.set_cons_zero, List.set_cons_succ]
                    refine tkL 1 (v := ?_) rfl (by kernel_rfl) (fun _ _ _ h => h) (Or.inl ⟨by rfl, ?_⟩) hSd ?_
                    rotate_left
                    · (intro w hSw; (try dsimp only at hSw); go_simp) <;> (try with_reducible rfl)
                    try simp only [Act.put, List.getElem_toArray, List.getElem_cons_zero, List.getElem_cons_succ, List.setIfInBounds_toArray, List.set_cons_zero, List.set_cons_succ]
                    refine tkL 2 (v := ?_) rfl (by kernel_rfl) (fun _ _ _ h => h) (Or.inl ⟨by rfl, ?_⟩) hSd ?_
                    rotate_left
                    · (intro w hSw; (try dsimp only at hSw); go_simp) <;> (try with_reducible rfl)
                    try simp only [Act.put, List.getElem_toArray, List.getElem_cons_zero, List.getElem_cons_succ, List.setIfInBounds_toArray, List.set_cons_zero, List.set_cons_succ]
                    refine tkL 3 (v := ?_) rfl (by kernel_rfl) (fun _ _ _ h => h) (Or.inl ⟨by rfl, ?_⟩) hSd ?_
                    rotate_left
                    · (intro w hSw; (try dsimp only at hSw); go_simp) <;> (try with_reducible rfl)
                    try simp only [Act.put, List.getElem_toArray, List.getElem_cons_zero, List.getElem_cons_succ, List.setIfInBounds_toArray, List.set_cons_zero, List.set_cons_succ]
                    refine tkL 4 (v := ?_) rfl (by kernel_rfl) (fun _ _ _ h => h) (Or.inl ⟨by rfl, ?_⟩) hSd ?_
                    rotate_left
                    · (intro w hSw; (try dsimp only at hSw); go_simp) <;> (try with_reducible rfl)
                    try simp only [Act.put, List.getElem_toArray, List.getElem_cons_zero, List.getElem_cons_succ, List.setIfInBounds_toArray, List.set_cons_zero, List.set_cons_succ]
                    refine wpAnyL_one 5 (by kernel_rfl) rfl (fun K hK => ?_)
                    go_simp
                    have HQ := C0.out _ B1
                    (with_reducible refine HQ.mono ?_)
                    clear HQ
                    rintro e u1 ⟨rfl, q1⟩
                    have B2 := B1.trans (q1.mono B1.size)
                    have hS2 := HSS.out _ B2
                    go_wp2_with fail
                    refine hK.out _ _ (fun _ => hS2) ?_
                    clear hK K
                    try simp only [Act.put, List.getElem_toArray, List.getElem_cons_zero, List.getElem_cons_succ, List.setIfInBounds_toArray, List.set_cons_zero, List.set_cons_succ]
                    refine tkL 6 (v := ?_) rfl (by kernel_rfl) (fun _ _ _ h => h) (Or.inl ⟨by rfl, ?_⟩) hS2 ?_
                    rotate_left
                    · (intro w hSw; (try dsimp only at hSw); go_simp) <;> (try with_reducible rfl)
                    try simp only [Act.put, List.getElem_toArray, List.getElem_cons_zero, List.getElem_cons_succ, List.setIfInBounds_toArray, List.set_cons_zero, List.set_cons_succ]
                    refine tkL 7 (v := ?_) rfl (by kernel_rfl) (fun _ _ _ h => h) (Or.inl ⟨by rfl, ?_⟩) hS2 ?_
                    rotate_left
                    · (intro w hSw; (try dsimp only at hSw); go_simp) <;> (try with_reducible rfl)
                    try simp only [Act.put, List.getElem_toArray, List.getElem_cons_zero, List.getElem_cons_succ, List.setIfInBounds_toArray, List.set_cons_zero, List.set_cons_succ]
                    refine tkL 8 (v := ?_) rfl (by kernel_rfl) (fun _ _ _ h => h) (Or.inl ⟨by rfl, ?_⟩) hS2 ?_
                    rotate_left
                    · (intro w hSw; (try dsimp only at hSw); go_simp) <;> (try with_reducible rfl)
                    try simp only [Act.put, List.getElem_toArray, List.getElem_cons_zero, List.getElem_cons_succ, List.setIfInBounds_toArray, List.set_cons_zero, List.set_cons_succ]
                    refine tkL 9 (v := ?_) rfl (by kernel_rfl) (fun _ _ _ h => h) (Or.inl ⟨by rfl, ?_⟩) hS2 ?_
                    rotate_left
                    · (intro w hSw; (try dsimp only at hSw); go_simp) <;> (try with_reducible rfl)
                    try simp only [Act.put, List.getElem_toArray, List.getElem_cons_zero, List.getElem_cons_succ, List.setIfInBounds_toArray, List.set_cons_zero, List.set_cons_succ]
                    refine tkL 10 (v := ?_) rfl (by kernel_rfl) (fun _ _ _ h => h) (Or.inl ⟨by rfl, ?_⟩) hS2 ?_
                    rotate_left
                    · (intro w hSw; (try dsimp only at hSw); go_simp) <;> (try with_reducible rfl)
                    try simp only [Act.put, List.getElem_toArray, List.getElem_cons_zero, List.getElem_cons_succ, List.setIfInBounds_toArray, List.set_cons_zero, List.set_cons_succ]
                    refine tkL 11 (v := ?_) rfl (by kernel_rfl) (fun _ _ _ h => h) (Or.inl ⟨by rfl, ?_⟩) hS2 ?_
                    rotate_left
                    · (intro w hSw; (try dsimp only at hSw); go_simp) <;> (try with_reducible rfl)
                    try simp only [Act.put, List.getElem_toArray, List.getElem_cons_zero, List.getElem_cons_succ, List.setIfInBounds_toArray, List.set_cons_zero, List.set_cons_succ]
                    refine tkL 12 (v := ?_) rfl (by kernel_rfl) (fun _ _ _ h => h) (Or.inl ⟨by rfl, ?_⟩) hS2 ?_
                    rotate_left
                    · (intro w hSw; (try dsimp only at hSw); go_simp) <;> (try with_reducible rfl)
                    try simp only [Act.put, List.getElem_toArray, List.getElem_cons_zero, List.getElem_cons_succ, List.setIfInBounds_toArray, List.set_cons_zero, List.set_cons_succ]
                    refine tkL 13 (v := ?_) rfl (by kernel_rfl) (fun _ _ _ h => h) (Or.inl ⟨by rfl, ?_⟩) hS2 ?_
                    rotate_left
                    · (intro w hSw; (try dsimp only at hSw); go_simp) <;> (try with_reducible rfl)
                    try simp only [Act.put, List.getElem_toArray, List.getElem_cons_zero, List.getElem_cons_succ, List.setIfInBounds_toArray, List.set_cons_zero, List.set_cons_succ]
                    refine wpAnyL_one 14 (by kernel_rfl) rfl (fun K hK => ?_)
                    go_simp
                    have HQ := C1.out _ B2
                    (with_reducible refine HQ.mono ?_)
                    clear HQ
                    rintro e u2 ⟨rfl, q2⟩
                    have B3 := B2.trans (q2.mono B2.size)
                    have hS3 := HSS.out _ B3
                    go_wp2_with fail
                    refine hK.out _ _ (fun _ => hS3) ?_
                    clear hK K
                    try simp only [Act.put, List.getElem_toArray, List.getElem_cons_zero, List.getElem_cons_succ, List.setIfInBounds_toArray, List.set_cons_zero, List.set_cons_succ]
                    refine tkL 15 (v := ?_) rfl (by kernel_rfl) (fun _ _ _ h => h) (Or.inl ⟨by rfl, ?_⟩) hS3 ?_
                    rotate_left
                    · (intro w hSw; (try dsimp only at hSw); go_simp) <;> (try with_reducible rfl)
                    try simp only [Act.put, List.getElem_toArray, List.getElem_cons_zero, List.getElem_cons_succ, List.setIfInBounds_toArray, List.set_cons_zero, List.set_cons_succ]
                    refine tkL 16 (v := ?_) rfl (by kernel_rfl) (fun _ _ _ h => h) (Or.inl ⟨by rfl, ?_⟩) hS3 ?_
                    rotate_left
                    · (intro w hSw; (try dsimp only at hSw); go_simp) <;> (try with_reducible rfl)
                    try simp only [Act.put, List.getElem_toArray, List.getElem_cons_zero, List.getElem_cons_succ, List.setIfInBounds_toArray, List.set_cons_zero, List.set_cons_succ]
                    refine tkL 17 (v := ?_) rfl (by kernel_rfl) (fun _ _ _ h => h) (Or.inl ⟨by rfl, ?_⟩) hS3 ?_
                    rotate_left
                    · (intro w hSw; (try dsimp only at hSw); go_simp) <;> (try with_reducible rfl)
                    try simp only [Act.put, List.getElem_toArray, List.getElem_cons_zero, List.getElem_cons_succ, List.setIfInBounds_toArray, List.set_cons_zero, List.set_cons_succ]
                    refine tkL 18 (v := ?_) rfl (by kernel_rfl) (fun _ _ _ h => h) (Or.inl ⟨by rfl, ?_⟩) hS3 ?_
                    rotate_left
                    · (intro w hSw; (try dsimp only at hSw); go_simp) <;> (try with_reducible rfl)
                    try simp only [Act.put, List.getElem_toArray, List.getElem_cons_zero, List.getElem_cons_succ, List.setIfInBounds_toArray, List.set_cons_zero, List.set_cons_succ]
                    refine tkL 19 (v := ?_) rfl (by kernel_rfl) (fun _ _ _ h => h) (Or.inl ⟨by rfl, ?_⟩) hS3 ?_
                    rotate_left
                    · (intro w hSw; (try dsimp only at hSw); go_simp) <;> (try with_reducible rfl)
                    try simp only [Act.put, List.getElem_toArray, List.getElem_cons_zero, List.getElem_cons_succ, List.setIfInBounds_toArray, List.set_cons_zero, List.set_cons_succ]
                    refine tkL 20 (v := ?_) rfl (by kernel_rfl) (fun _ _ _ h => h) (Or.inl ⟨by rfl, ?_⟩) hS3 ?_
                    rotate_left
                    · (intro w hSw; (try dsimp only at hSw); go_simp) <;> (try with_reducible rfl)
                    try simp only [Act.put, List.getElem_toArray, List.getElem_cons_zero, List.getElem_cons_succ, List.setIfInBounds_toArray, List.set_cons_zero, List.set_cons_succ]
                    refine tkL 21 (v := ?_) rfl (by kernel_rfl) (fun _ _ _ h => h) (Or.inl ⟨by rfl, ?_⟩) hS3 ?_
                    rotate_left
                    · (intro w hSw; (try dsimp only at hSw); go_simp) <;> (try with_reducible rfl)
                    try simp only [Act.put, List.getElem_toArray, List.getElem_cons_zero, List.getElem_cons_succ, List.setIfInBounds_toArray, List.set_cons_zero, List.set_cons_succ]
                    refine tkL 22 (v := ?_) rfl (by kernel_rfl) (fun _ _ _ h => h) (Or.inl ⟨by rfl, ?_⟩) hS3 ?_
                    rotate_left
                    · (intro w hSw; (try dsimp only at hSw); go_simp) <;> (try with_reducible rfl)
                    try simp only [Act.put, List.getElem_toArray, List.getElem_cons_zero, List.getElem_cons_succ, List.setIfInBounds_toArray, List.set_cons_zero, List.set_cons_succ]
                    refine tkL 23 (v := ?_) rfl (by kernel_rfl) (fun _ _ _ h => h) (Or.inl ⟨by rfl, ?_⟩) hS3 ?_
                    rotate_left
                    · (intro w hSw; (try dsimp only at hSw); go_simp) <;> (try with_reducible rfl)
                    try simp only [Act.put, List.getElem_toArray, List.getElem_cons_zero, List.getElem_cons_succ, List.setIfInBounds_toArray, List.set_cons_zero, List.set_cons_succ]
                    refine wpAnyL_one 24 (by kernel_rfl) rfl (fun K hK => ?_)
                    go_simp
                    have HQ := Ca.out _ B3
                    (with_reducible refine HQ.mono ?_)
                    clear HQ
                    rintro e u3 ⟨rfl, q3⟩
                    have B4 := B3.trans (q3.mono B3.size)
                    have hS4 := HSS.out _ B4
                    go_wp2_with fail
                    refine hK.out _ _ (fun _ => hS4) ?_
                    clear hK K
                    try simp only [Act.put, List.getElem_toArray, List.getElem_cons_zero, List.getElem_cons_succ, List.setIfInBounds_toArray, List.set_cons_zero, List.set_cons_succ]
                    cases ra with
                    | false =>
                      refine tkL 25 (v := ?_) rfl (by kernel_rfl) (fun _ _ _ h => h) (Or.inl ⟨by rfl, ?_⟩) hS4 ?_
                      rotate_left
                      · (intro w hSw; (try dsimp only at hSw); go_simp) <;> (try with_reducible rfl)
                      try simp only [Act.put, List.getElem_toArray, List.getElem_cons_zero, List.getElem_cons_succ, List.setIfInBounds_toArray, List.set_cons_zero, List.set_cons_succ]
                      refine tkL 26 (v := ?_) rfl (by kernel_rfl) (fun _ _ _ h => h) (Or.inl ⟨by rfl, ?_⟩) hS4 ?_
                      rotate_left
                      · (intro w hSw; (try dsimp only at hSw); go_simp) <;> (try with_reducible rfl)
                      try simp only [Act.put, List.getElem_toArray, List.getElem_cons_zero, List.getElem_cons_succ, List.setIfInBounds_toArray, List.set_cons_zero, List.set_cons_succ]
                      refine tkL 27 (v := ?_) rfl (by kernel_rfl) (fun _ _ _ h => h) (Or.inl ⟨by rfl, ?_⟩) hS4 ?_
                      rotate_left
                      · (intro w hSw; (try dsimp only at hSw); go_simp) <;> (try with_reducible rfl)
                      try simp only [Act.put, List.getElem_toArray, List.getElem_cons_zero, List.getElem_cons_succ, List.setIfInBounds_toArray, List.set_cons_zero, List.set_cons_succ]
                      refine tkL 28 (v := ?_) rfl (by kernel_rfl) (fun _ _ _ h => h) (Or.inl ⟨by rfl, ?_⟩) hS4 ?_
                      rotate_left
                      · (intro w hSw; (try dsimp only at hSw); go_simp) <;> (try with_reducible rfl)
                      try simp only [Act.put, List.getElem_toArray, List.getElem_cons_zero, List.getElem_cons_succ, List.setIfInBounds_toArray, List.set_cons_zero, List.set_cons_succ]
                      refine tkL 29 (v := ?_) rfl (by kernel_rfl) (fun _ _ _ h => h) (Or.inl ⟨by rfl, ?_⟩) hS4 ?_
                      rotate_left
                      · (intro w hSw; (try dsimp only at hSw); go_simp) <;> (try with_reducible rfl)
                      try simp only [Act.put, List.getElem_toArray, List.getElem_cons_zero, List.getElem_cons_succ, List.setIfInBounds_toArray, List.set_cons_zero, List.set_cons_succ]
                      refine tkL 30 (v := ?_) rfl (by kernel_rfl) (fun _ _ _ h => h) (Or.inl ⟨by rfl, ?_⟩) hS4 ?_
                      rotate_left
                      · (intro w hSw; (try dsimp only at hSw); go_simp) <;> (try with_reducible rfl)
                      try simp only [Act.put, List.getElem_toArray, List.getElem_cons_zero, List.getElem_cons_succ, List.setIfInBounds_toArray, List.set_cons_zero, List.set_cons_succ]
                      refine tkL 31 (v := ?_) rfl (by kernel_rfl) (fun _ _ _ h => h) (Or.inl ⟨by rfl, ?_⟩) hS4 ?_
                      rotate_left
                      · (intro w hSw; (try dsimp only at hSw); go_simp) <;> (try with_reducible rfl)
                      try simp only [Act.put, List.getElem_toArray, List.getElem_cons_zero, List.getElem_cons_succ, List.setIfInBounds_toArray, List.set_cons_zero, List.set_cons_succ]
                      refine tkL 32 (v := ?_) rfl (by kernel_rfl) (fun _ _ _ h => h) (Or.inl ⟨by rfl, ?_⟩) hS4 ?_
                      rotate_left
                      · (intro w hSw; (try dsimp only at hSw); go_simp) <;> (try with_reducible rfl)
                      try simp only [Act.put, List.getElem_toArray, List.getElem_cons_zero, List.getElem_cons_succ, List.setIfInBounds_toArray, List.set_cons_zero, List.set_cons_succ]
                      refine wpAnyL_one 33 (by kernel_rfl) rfl (fun K hK => ?_)
                      go_simp
                      have HQ := Cb.out _ B4
                      (with_reducible refine HQ.mono ?_)
                      clear HQ
                      rintro e u4 ⟨rfl, q4⟩
                      have B5 := B4.trans (q4.mono B4.size)
                      have hS5 := HSS.out _ B5
                      go_wp2_with fail
                      refine hK.out _ _ (fun _ => hS5) ?_
                      clear hK K
                      try simp only [Act.put, List.getElem_toArray, List.getElem_cons_zero, List.getElem_cons_succ, List.setIfInBounds_toArray, List.set_cons_zero, List.set_cons_succ]
                      cases rb with
                      | false =>
                        cases rc with
                        | false =>
                          exact absurd HR.out (by simp)
                        | true =>
                          refine tkL 34 (v := ?_) rfl (by kernel_rfl) (fun _ _ _ h => h) (Or.inl ⟨by rfl, ?_⟩) hS5 ?_
                          rotate_left
                          · (intro w hSw; (try dsimp only at hSw); go_simp) <;> (try with_reducible rfl)
                          try simp only [Act.put, List.getElem_toArray, List.getElem_cons_zero, List.getElem_cons_succ, List.setIfInBounds_toArray, List.set_cons_zero, List.set_cons_succ]
                          refine tkL 35 (v := ?_) rfl (by kernel_rfl) (fun _ _ _ h => h) (Or.inl ⟨by rfl, ?_⟩) hS5 ?_
                          rotate_left
                          · (intro w hSw; (try dsimp only at hSw); go_simp) <;> (try with_reducible rfl)
                          try simp only [Act.put, List.getElem_toArray, List.getElem_cons_zero, List.getElem_cons_succ, List.setIfInBounds_toArray, List.set_cons_zero, List.set_cons_succ]
                          refine tkL 36 (v := ?_) rfl (by kernel_rfl) (fun _ _ _ h => h) (Or.inl ⟨by rfl, ?_⟩) hS5 ?_
                          rotate_left
                          · (intro w hSw; (try dsimp only at hSw); go_simp) <;> (try with_reducible rfl)
                          try simp only [Act.put, List.getElem_toArray, List.getElem_cons_zero, List.getElem_cons_succ, List.setIfInBounds_toArray, List.set_cons_zero, List.set_cons_succ]
                          refine tkL 37 (v := ?_) rfl (by kernel_rfl) (fun _ _ _ h => h) (Or.inl ⟨by rfl, ?_⟩) hS5 ?_
                          rotate_left
                          · (intro w hSw; (try dsimp only at hSw); go_simp) <;> (try with_reducible rfl)
                          try simp only [Act.put, List.getElem_toArray, List.getElem_cons_zero, List.getElem_cons_succ, List.setIfInBounds_toArray, List.set_cons_zero, List.set_cons_succ]
                          refine tkL 38 (v := ?_) rfl (by kernel_rfl) (fun _ _ _ h => h) (Or.inl ⟨by rfl, ?_⟩) hS5 ?_
                          rotate_left
                          · (intro w hSw; (try dsimp only at hSw); go_simp) <;> (try with_reducible rfl)
                          try simp only [Act.put, List.getElem_toArray, List.getElem_cons_zero, List.getElem_cons_succ, List.setIfInBounds_toArray, List.set_cons_zero, List.set_cons_succ]
                          refine tkL 39 (v := ?_) rfl (by kernel_rfl) (fun _ _ _ h => h) (Or.inl ⟨by rfl, ?_⟩) hS5 ?_
                          rotate_left
                          · (intro w hSw; (try dsimp only at hSw); go_simp) <;> (try with_reducible rfl)
                          try simp only [Act.put, List.getElem_toArray, List.getElem_cons_zero, List.getElem_cons_succ, List.setIfInBounds_toArray, List.set_cons_zero, List.set_cons_succ]
                          refine tkL 40 (v := ?_) rfl (by kernel_rfl) (fun _ _ _ h => h) (Or.inl ⟨by rfl, ?_⟩) hS5 ?_
                          rotate_left
                          · (intro w hSw; (try dsimp only at hSw); go_simp) <;> (try with_reducible rfl)
                          try simp only [Act.put, List.getElem_toArray, List.getElem_cons_zero, List.getElem_cons_succ, List.setIfInBounds_toArray, List.set_cons_zero, List.set_cons_succ]
                          refine tkL 41 (v := ?_) rfl (by kernel_rfl) (fun _ _ _ h => h) (Or.inl ⟨by rfl, ?_⟩) hS5 ?_
                          rotate_left
                          · (intro w hSw; (try dsimp only at hSw); go_simp) <;> (try with_reducible rfl)
                          try simp only [Act.put, List.getElem_toArray, List.getElem_cons_zero, List.getElem_cons_succ, List.setIfInBounds_toArray, List.set_cons_zero, List.set_cons_succ]
                          refine tkL 42 (v := ?_) rfl (by kernel_rfl) (fun _ _ _ h => h) (Or.inl ⟨by rfl, ?_⟩) hS5 ?_
                          rotate_left
                          · (intro w hSw; (try dsimp only at hSw); go_simp) <;> (try with_reducible rfl)
                          try simp only [Act.put, List.getElem_toArray, List.getElem_cons_zero, List.getElem_cons_succ, List.setIfInBounds_toArray, List.set_cons_zero, List.set_cons_succ]
                          refine wpAnyL_one 43 (by kernel_rfl) rfl (fun K hK => ?_)
                          go_simp
                          have HQ := Cc.out _ B5
                          (with_reducible refine HQ.mono ?_)
                          clear HQ
                          rintro e u5 ⟨rfl, q5⟩
                          have B6 := B5.trans (q5.mono B5.size)
                          have hS6 := HSS.out _ B6
                          go_wp2_with fail
                          refine hK.out _ _ (fun _ => hS6) ?_
                          clear hK K
                          try simp only [Act.put, List.getElem_toArray, List.getElem_cons_zero, List.getElem_cons_succ, List.setIfInBounds_toArray, List.set_cons_zero, List.set_cons_succ]
                          refine tkL 44 (v := ?_) rfl (by kernel_rfl) (fun _ _ _ h => h) (Or.inl ⟨by rfl, ?_⟩) hS6 ?_
                          rotate_left
                          · (intro w hSw; (try dsimp only at hSw); go_simp) <;> (try with_reducible rfl)
                          try simp only [Act.put, List.getElem_toArray, List.getElem_cons_zero, List.getElem_cons_succ, List.setIfInBounds_toArray, List.set_cons_zero, List.set_cons_succ]
                          refine tkL 45 (v := ?_) rfl (by kernel_rfl) (fun _ _ _ h => h) (Or.inl ⟨by rfl, ?_⟩) hS6 ?_
                          rotate_left
                          · (intro w hSw; (try dsimp only at hSw); go_simp) <;> (try with_reducible rfl)
                          try simp only [Act.put, List.getElem_toArray, List.getElem_cons_zero, List.getElem_cons_succ, List.setIfInBounds_toArray, List.set_cons_zero, List.set_cons_succ]
                          refine wpAnyL_one 46 (by kernel_rfl) rfl (fun K hK => ?_)
                          go_simp
                          refine hK.out _ _ (fun h => absurd h (not_rem (by kernel_rfl))) ?_
                          clear hK K
                          try simp only [Act.put, List.getElem_toArray, List.getElem_cons_zero, List.getElem_cons_succ, List.setIfInBounds_toArray, List.set_cons_zero, List.set_cons_succ]
                          refine wpAnyL_done (by kernel_rfl) ?_ _
                          have HBz := Lib.hid (HBl.out.trans (B6.mono HBl.out.size))
                          go_wp2_with fail
                          go_roundg g
                          case measure => omega
                          case rel => exact ⟨i + 1, by go_num, by omega, HBz⟩
                      | true =>
                        refine tkL 34 (v := ?_) rfl (by kernel_rfl) (fun _ _ _ h => h) (Or.inl ⟨by rfl, ?_⟩) hS5 ?_
                        rotate_left
                        · (intro w hSw; (try dsimp only at hSw); go_simp) <;> (try with_reducible rfl)
                        try simp only [Act.put, List.getElem_toArray, List.getElem_cons_zero, List.getElem_cons_succ, List.setIfInBounds_toArray, List.set_cons_zero, List.set_cons_succ]
                        refine tkL 35 (v := ?_) rfl (by kernel_rfl) (fun _ _ _ h => h) (Or.inl ⟨by rfl, ?_⟩) hS5 ?_
                        rotate_left
                        · (intro w hSw; (try dsimp only at hSw); go_simp) <;> (try with_reducible rfl)
                        try simp only [Act.put, List.getElem_toArray, List.getElem_cons_zero, List.getElem_cons_succ, List.setIfInBounds_toArray, List.set_cons_zero, List.set_cons_succ]
                        refine tkL 36 (v := ?_) rfl (by kernel_rfl) (fun _ _ _ h => h) (Or.inl ⟨by rfl, ?_⟩) hS5 ?_
                        rotate_left
                        · (intro w hSw; (try dsimp only at hSw); go_simp) <;> (try with_reducible rfl)
                        try simp only [Act.put, List.getElem_toArray, List.getElem_cons_zero, List.getElem_cons_succ, List.setIfInBounds_toArray, List.set_cons_zero, List.set_cons_succ]
                        refine tkL 37 (v := undef) rfl (by kernel_rfl) (fun _ _ _ h => h) (Or.inr ⟨by rfl, rfl⟩) hS5 ?_
                        try simp only [Act.put, List.getElem_toArray, List.getElem_cons_zero, List.getElem_cons_succ, List.setIfInBounds_toArray, List.set_cons_zero, List.set_cons_succ]
                        refine tkL 38 (v := undef) rfl (by kernel_rfl) (fun _ _ _ h => h) (Or.inr ⟨by rfl, rfl⟩) hS5 ?_
                        try simp only [Act.put, List.getElem_toArray, List.getElem_cons_zero, List.getElem_cons_succ, List.setIfInBounds_toArray, List.set_cons_zero, List.set_cons_succ]
                        refine tkL 39 (v := undef) rfl (by kernel_rfl) (fun _ _ _ h => h) (Or.inr ⟨by rfl, rfl⟩) hS5 ?_
                        try simp only [Act.put, List.getElem_toArray, List.getElem_cons_zero, List.getElem_cons_succ, List.setIfInBounds_toArray, List.set_cons_zero, List.set_cons_succ]
                        refine tkL 40 (v := undef) rfl (by kernel_rfl) (fun _ _ _ h => h) (Or.inr ⟨by rfl, rfl⟩) hS5 ?_
                        try simp only [Act.put, List.getElem_toArray, List.getElem_cons_zero, List.getElem_cons_succ, List.setIfInBounds_toArray, List.set_cons_zero, List.set_cons_succ]
                        refine tkL 41 (v := undef) rfl (by kernel_rfl) (fun _ _ _ h => h) (Or.inr ⟨by rfl, rfl⟩) hS5 ?_
                        try simp only [Act.put, List.getElem_toArray, List.getElem_cons_zero, List.getElem_cons_succ, List.setIfInBounds_toArray, List.set_cons_zero, List.set_cons_succ]
                        refine tkL 42 (v := undef) rfl (by kernel_rfl) (fun _ _ _ h => h) (Or.inr ⟨by rfl, rfl⟩) hS5 ?_
                        try simp only [Act.put, List.getElem_toArray, List.getElem_cons_zero, List.getElem_cons_succ, List.setIfInBounds_toArray, List.set_cons_zero, List.set_cons_succ]
                        refine tkL 43 (v := undef) rfl (by kernel_rfl) (fun _ _ _ h => h) (Or.inr ⟨by rfl, rfl⟩) hS5 ?_
                        try simp only [Act.put, List.getElem_toArray, List.getElem_cons_zero, List.getElem_cons_succ, List.setIfInBounds_toArray, List.set_cons_zero, List.set_cons_succ]
                        refine tkL 44 (v := undef) rfl (by kernel_rfl) (fun _ _ _ h => h) (Or.inr ⟨by rfl, rfl⟩) hS5 ?_
                        try simp only [Act.put, List.getElem_toArray, List.getElem_cons_zero, List.getElem_cons_succ, List.setIfInBounds_toArray, List.set_cons_zero, List.set_cons_succ]
                        refine tkL 45 (v := ?_) rfl (by kernel_rfl) (fun _ _ _ h => h) (Or.inl ⟨by rfl, ?_⟩) hS5 ?_
                        rotate_left
                        · (intro w hSw; (try dsimp only at hSw); go_simp) <;> (try with_reducible rfl)
                        try simp only [Act.put, List.getElem_toArray, List.getElem_cons_zero, List.getElem_cons_succ, List.setIfInBounds_toArray, List.set_cons_zero, List.set_cons_succ]
                        refine wpAnyL_one 46 (by kernel_rfl) rfl (fun K hK => ?_)
                        go_simp
                        refine hK.out _ _ (fun h => absurd h (not_rem (by kernel_rfl))) ?_
                        clear hK K
                        try simp only [Act.put, List.getElem_toArray, List.getElem_cons_zero, List.getElem_cons_succ, List.setIfInBounds_toArray, List.set_cons_zero, List.set_cons_succ]
                        refine wpAnyL_done (by kernel_rfl) ?_ _
                        have HBz := Lib.hid (HBl.out.trans (B5.mono HBl.out.size))
                        go_wp2_with fail
                        go_roundg g
                        case measure => omega
                        case rel => exact ⟨i + 1, by go_num, by omega, HBz⟩
                    | true =>
                      refine tkL 25 (v := ?_) rfl (by kernel_rfl) (fun _ _ _ h => h) (Or.inl ⟨by rfl, ?_⟩) hS4 ?_
                      rotate_left
                      · (intro w hSw; (try dsimp only at hSw); go_simp) <;> (try with_reducible rfl)
                      try simp only [Act.put, List.getElem_toArray, List.getElem_cons_zero, List.getElem_cons_succ, List.setIfInBounds_toArray, List.set_cons_zero, List.set_cons_succ]
                      refine tkL 26 (v := ?_) rfl (by kernel_rfl) (fun _ _ _ h => h) (Or.inl ⟨by rfl, ?_⟩) hS4 ?_
                      rotate_left
                      · (intro w hSw; (try dsimp only at hSw); go_simp) <;> (try with_reducible rfl)
                      try simp only [Act.put, List.getElem_toArray, List.getElem_cons_zero, List.getElem_cons_succ, List.setIfInBounds_toArray, List.set_cons_zero, List.set_cons_succ]
                      refine tkL 27 (v := undef) rfl (by kernel_rfl) (fun _ _ _ h => h) (Or.inr ⟨by rfl, rfl⟩) hS4 ?_
                      try simp only [Act.put, List.getElem_toArray, List.getElem_cons_zero, List.getElem_cons_succ, List.setIfInBounds_toArray, List.set_cons_zero, List.set_cons_succ]
                      refine tkL 28 (v := undef) rfl (by kernel_rfl) (fun _ _ _ h => h) (Or.inr ⟨by rfl, rfl⟩) hS4 ?_
                      try simp only [Act.put, List.getElem_toArray, List.getElem_cons_zero, List.getElem_cons_succ, List.setIfInBounds_toArray, List.set_cons_zero, List.set_cons_succ]
                      refine tkL 29 (v := undef) rfl (by kernel_rfl) (fun _ _ _ h => h) (Or.inr ⟨by rfl, rfl⟩) hS4 ?_
                      try simp only [Act.put, List.getElem_toArray, List.getElem_cons_zero, List.getElem_cons_succ, List.setIfInBounds_toArray, List.set_cons_zero, List.set_cons_succ]
                      refine tkL 30 (v := undef) rfl (by kernel_rfl) (fun _ _ _ h => h) (Or.inr ⟨by rfl, rfl⟩) hS4 ?_
                      try simp only [Act.put, List.getElem_toArray, List.getElem_cons_zero, List.getElem_cons_succ, List.setIfInBounds_toArray, List.set_cons_zero, List.set_cons_succ]
                      refine tkL 31 (v := undef) rfl (by kernel_rfl) (fun _ _ _ h => h) (Or.inr ⟨by rfl, rfl⟩) hS4 ?_
                      try simp only [Act.put, List.getElem_toArray, List.getElem_cons_zero, List.getElem_cons_succ, List.setIfInBounds_toArray, List.set_cons_zero, List.set_cons_succ]
                      refine tkL 32 (v := undef) rfl (by kernel_rfl) (fun _ _ _ h => h) (Or.inr ⟨by rfl, rfl⟩) hS4 ?_
                      try simp only [Act.put, List.getElem_toArray, List.getElem_cons_zero, List.getElem_cons_succ, List.setIfInBounds_toArray, List.set_cons_zero, List.set_cons_succ]
                      refine tkL 33 (v := undef) rfl (by kernel_rfl) (fun _ _ _ h => h) (Or.inr ⟨by rfl, rfl⟩) hS4 ?_
                      try simp only [Act.put, List.getElem_toArray, List.getElem_cons_zero, List.getElem_cons_succ, List.setIfInBounds_toArray, List.set_cons_zero, List.set_cons_succ]
                      refine tkL 34 (v := undef) rfl (by kernel_rfl) (fun _ _ _ h => h) (Or.inr ⟨by rfl, rfl⟩) hS4 ?_
                      try simp only [Act.put, List.getElem_toArray, List.getElem_cons_zero, List.getElem_cons_succ, List.setIfInBounds_toArray, List.set_cons_zero, List.set_cons_succ]
                      refine tkL 35 (v := ?_) rfl (by kernel_rfl) (fun _ _ _ h => h) (Or.inl ⟨by rfl, ?_⟩) hS4 ?_
                      rotate_left
                      · (intro w hSw; (try dsimp only at hSw); go_simp) <;> (try with_reducible rfl)
                      try simp only [Act.put, List.getElem_toArray, List.getElem_cons_zero, List.getElem_cons_succ, List.setIfInBounds_toArray, List.set_cons_zero, List.set_cons_succ]
                      refine tkL 36 (v := ?_) rfl (by kernel_rfl) (fun _ _ _ h => h) (Or.inl ⟨by rfl, ?_⟩) hS4 ?_
                      rotate_left
                      · (intro w hSw; (try dsimp only at hSw); go_simp) <;> (try with_reducible rfl)
                      try simp only [Act.put, List.getElem_toArray, List.getElem_cons_zero, List.getElem_cons_succ, List.setIfInBounds_toArray, List.set_cons_zero, List.set_cons_succ]
                      refine tkL 37 (v := undef) rfl (by kernel_rfl) (fun _ _ _ h => h) (Or.inr ⟨by rfl, rfl⟩) hS4 ?_
                      try simp only [Act.put, List.getElem_toArray, List.getElem_cons_zero, List.getElem_cons_succ, List.setIfInBounds_toArray, List.set_cons_zero, List.set_cons_succ]
                      refine tkL 38 (v := undef) rfl (by kernel_rfl) (fun _ _ _ h => h) (Or.inr ⟨by rfl, rfl⟩) hS4 ?_
                      try simp only [Act.put, List.getElem_toArray, List.getElem_cons_zero, List.getElem_cons_succ, List.setIfInBounds_toArray, List.set_cons_zero, List.set_cons_succ]
                      refine tkL 39 (v := undef) rfl (by kernel_rfl) (fun _ _ _ h => h) (Or.inr ⟨by rfl, rfl⟩) hS4 ?_
                      try simp only [Act.put, List.getElem_toArray, List.getElem_cons_zero, List.getElem_cons_succ, List.setIfInBounds_toArray, List.set_cons_zero, List.set_cons_succ]
                      refine tkL 40 (v := undef) rfl (by kernel_rfl) (fun _ _ _ h => h) (Or.inr ⟨by rfl, rfl⟩) hS4 ?_
                      try simp only [Act.put, List.getElem_toArray, List.getElem_cons_zero, List.getElem_cons_succ, List.setIfInBounds_toArray, List.set_cons_zero, List.set_cons_succ]
                      refine tkL 41 (v := undef) rfl (by kernel_rfl) (fun _ _ _ h => h) (Or.inr ⟨by rfl, rfl⟩) hS4 ?_
                      try simp only [Act.put, List.getElem_toArray, List.getElem_cons_zero, List.getElem_cons_succ, List.setIfInBounds_toArray, List.set_cons_zero, List.set_cons_succ]
                      refine tkL 42 (v := undef) rfl (by kernel_rfl) (fun _ _ _ h => h) (Or.inr ⟨by rfl, rfl⟩) hS4 ?_
                      try simp only [Act.put, List.getElem_toArray, List.getElem_cons_zero, List.getElem_cons_succ, List.setIfInBounds_toArray, List.set_cons_zero, List.set_cons_succ]
                      refine tkL 43 (v := undef) rfl (by kernel_rfl) (fun _ _ _ h => h) (Or.inr ⟨by rfl, rfl⟩) hS4 ?_
                      try simp only [Act.put, List.getElem_toArray, List.getElem_cons_zero, List.getElem_cons_succ, List.setIfInBounds_toArray, List.set_cons_zero, List.set_cons_succ]
                      refine tkL 44 (v := undef) rfl (by kernel_rfl) (fun _ _ _ h => h) (Or.inr ⟨by rfl, rfl⟩) hS4 ?_
                      try simp only [Act.put, List.getElem_toArray, List.getElem_cons_zero, List.getElem_cons_succ, List.setIfInBounds_toArray, List.set_cons_zero, List.set_cons_succ]
                      refine tkL 45 (v := ?_) rfl (by kernel_rfl) (fun _ _ _ h => h) (Or.inl ⟨by rfl, ?_⟩) hS4 ?_
                      rotate_left
                      · (intro w hSw; (try dsimp only at hSw); go_simp) <;> (try with_reducible rfl)
                      try simp only [Act.put, List.getElem_toArray, List.getElem_cons_zero, List.getElem_cons_succ, List.setIfInBounds_toArray, List.set_cons_zero, List.set_cons_succ]
                      refine wpAnyL_one 46 (by kernel_rfl) rfl (fun K hK => ?_)
                      go_simp
                      refine hK.out _ _ (fun h => absurd h (not_rem (by kernel_rfl))) ?_
                      clear hK K
                      try simp only [Act.put, List.getElem_toArray, List.getElem_cons_zero, List.getElem_cons_succ, List.setIfInBounds_toArray, List.set_cons_zero, List.set_cons_succ]
                      refine wpAnyL_done (by kernel_rfl) ?_ _
                      have HBz := Lib.hid (HBl.out.trans (B4.mono HBl.out.size))
                      go_wp2_with fail
                      go_roundg g
                      case measure => omega
                      case rel => exact ⟨i + 1, by go_num, by omega, HBz⟩
                  · have hiNi : ¬ ((i : Int) < (n_p : Int)) := by omega
                    clear HBl
                    go_wp2_with fail
                    go_meet
                    case rel => exact ⟨HB, Hy, cell_y0, cell_y1, cell_y2, mb_y, Hs, cell_s0, cell_s1, mb_s⟩
          case rest =>
            as_aux_lemma =>
              clear Hx
              clear Ht
              clear Hy
              clear Hs
              clear cell_x0 cell_x1 cell_x2 mb_x
              clear cell_t0 cell_t1 cell_t2 mb_t
              clear cell_y0 cell_y1 cell_y2 mb_y
              clear cell_s0 cell_s1 mb_s
              clear HB
              obtain ⟨HB, Hy, cell_y0, cell_y1, cell_y2, mb_y, Hs, cell_s0, cell_s1, mb_s⟩ := hcut
              obtain ⟨w29, rfl⟩ : ∃ x, x = wc := ⟨_, rfl⟩
              cases one with
              | false =>
                go_wp2
                go_ret
                exact ⟨rfl, HB.out⟩
              | true =>
                have HLw := Lib.hid (fun n => (show rdwM Y n = lanM s n from by rw [H_Y.out]; exact lof_words H_one.out.symm))
                go_wp2
                go_loopg [29] 5 (fun g iv wr => ∃ i : Nat, iv = .int .i64 i ∧ i + g = 5 ∧ Hid (Below w29.heap.size w29 wr))
                case atStart => exact ⟨0, rfl, by omega, Lib.hid (Below.refl _ _)⟩
                case round =>
                  obtain ⟨i, rfl, hi, HBl⟩ := hrel
                  obtain ⟨w30, rfl⟩ : ∃ x, x = wr := ⟨_, rfl⟩
                  have hbl := HBl.out
                  replace Hy := Lib.hid (LabR.frame _ _ _ _ Hy.out hbl)
                  replace Hs := Lib.hid (ShR.frame _ _ _ _ Hs.out hbl)
                  replace cell_y0 := (hbl.cell (p := ⟨w14.heap.size, 0, none⟩) mb_y).trans cell_y0
                  replace cell_y1 := (hbl.cell (p := ⟨w14.heap.size, 1, none⟩) mb_y).trans cell_y1
                  replace cell_y2 := (hbl.cell (p := ⟨w14.heap.size, 2, none⟩) mb_y).trans cell_y2
                  replace mb_y := Nat.lt_of_lt_of_le mb_y hbl.size
                  replace cell_s0 := (hbl.cell (p := ⟨w12.heap.size, 0, none⟩) mb_s).trans cell_s0
                  replace cell_s1 := (hbl.cell (p := ⟨w12.heap.size, 1, none⟩) mb_s).trans cell_s1
                  replace mb_s := Nat.lt_of_lt_of_le mb_s hbl.size
                  replace HB := Lib.hid (HB.out.trans (hbl.mono HB.out.size))
                  clear hbl
                  by_cases hiN : i ≤ 4
                  · have hiNi : (i : Int) ≤ 4 := by omega
                    obtain ⟨g, rfl⟩ : ∃ x, gk = x + 1 := ⟨gk - 1, by omega⟩
                    obtain ⟨R, hR⟩ : ∃ R, R = rdwM Y i := ⟨_, rfl⟩
                    have HR := Lib.hid hR
                    have HR2 := Lib.hid (show R = lanM s i from by rw [hR]; exact HLw.out _)
                    clear hR
                    have C1 := Lib.hid (fun (w' : World) (hb : Below w30.heap.size w30 w') => spec_ReadWords_c (nn := (i : Int)) (LabR.frame _ _ _ _ Hy.out hb) (show I64 (i : Int) from by unfold I64; omega))
                    rw [← HR.out] at C1
                    have C2 := Lib.hid (fun (w' : World) (hb : Below w30.heap.size w30 w') => spec_LanguageOf_c (n := (i : Int)) (ShR.frame _ _ _ _ Hs.out hb) Hsf.out (show I64 (i : Int) from by unfold I64; omega))
                    rw [← HR2.out] at C2
                    have C3 := Lib.hid (fun (w' : World) (v1 v2 : Value) (h1 : StrsR w' v1 R) (h2 : StrsR w' v2 R) => sameTexts_b h1 h2)
                    go_wp2
                    have HSS := Lib.hid (fun (w' : World) (hb : Below w30.heap.size w30 w') => (show w'.cell? ⟨w14.heap.size, 0, none⟩ = some (.int .i64 Y.1) ∧ w'.cell? ⟨w14.heap.size, 1, none⟩ = some (.int .i64 Y.2.1) ∧ w'.cell? ⟨w14.heap.size, 2, none⟩ = some (.slice xa_y n_y xc_y) ∧ w'.cell? ⟨w12.heap.size, 0, none⟩ = some (.int .i64 s.1) ∧ w'.cell? ⟨w12.heap.size, 1, none⟩ = some (.slice xa_s n_s xc_s) from ⟨(hb.cell (p := ⟨w14.heap.size, 0, none⟩) mb_y).trans cell_y0, (hb.cell (p := ⟨w14.heap.size, 1, none⟩) mb_y).trans cell_y1, (hb.cell (p := ⟨w14.heap.size, 2, none⟩) mb_y).trans cell_y2, (hb.cell (p := ⟨w12.heap.size, 0, none⟩) mb_s).trans cell_s0, (hb.cell (p := ⟨w12.heap.size, 1, none⟩) mb_s).trans cell_s1⟩))
                    have hS0 := HSS.out _ (Below.refl _ _)
                    have B1 := (Below.refl w30.heap.size w30).drew
                    have hSd := HSS.out _ B1
                    go_region_held3 (fun w' => w'.cell? ⟨w14.heap.size, 0, none⟩ = some (.int .i64 Y.1) ∧ w'.cell? ⟨w14.heap.size, 1, none⟩ = some (.int .i64 Y.2.1) ∧ w'.cell? ⟨w14.heap.size, 2, none⟩ = some (.slice xa_y n_y xc_y) ∧ w'.cell? ⟨w12.heap.size, 0, none⟩ = some (.int .i64 s.1) ∧ w'.cell? ⟨w12.heap.size, 1, none⟩ = some (.slice xa_s n_s xc_s))
                      (first | with_reducible exact hS4 | with_reducible exact hS3 | with_reducible exact hS2 | with_reducible exact hSd | with_reducible exact hS0 | go_keep)
                      ((first
                        | (go_at_call 19; (have HQ := C1.out _ B1; (with_reducible refine HQ.mono ?_); clear HQ; rintro e u1 ⟨r1, rfl, n1, q1⟩; have B2 := B1.trans (q1.mono B1.size); have hS2 := HSS.out _ B2))
                        | (go_at_call 32; (have HQ := C2.out _ B2; (with_reducible refine HQ.mono ?_); clear HQ; rintro e u2 ⟨r2, rfl, n2, q2⟩; have B3 := B2.trans (q2.mono B2.size); have hS3 := HSS.out _ B3))
                        | (go_at_call 18; (have HQ := C3.out _ _ _ (StrsR.frame _ _ _ _ (New.strs n1) q2) (New.strs n2); (with_reducible refine HQ.mono ?_); clear HQ; rintro e u3 ⟨rfl, q3⟩; have B4 := B3.trans (q3.mono B3.size); have hS4 := HSS.out _ B4))
                        | fail))
                    have HBz := Lib.hid (HBl.out.trans (B4.mono HBl.out.size))
                    go_wp2
                    go_roundg g
                    case measure => omega
                    case rel => exact ⟨i + 1, by go_num, by omega, HBz⟩
                  · have hiNi : ¬ ((i : Int) ≤ 4) := by omega
                    have HBe := Lib.hid HB.out
                    go_wp2
                    go_ret
                    exact ⟨rfl, HBe.out⟩
end Go.Proofs.YtcilgihmaaobeaaGreatDoor
end
