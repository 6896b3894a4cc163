/-
  Laws for this claim's walks, contracts of the functions that it reaches.
-/
import Derived.Test.YtcilgihmaaobeaaGreatDoorFnLabelsM25
set_option linter.unusedVariables false
set_option linter.unusedSimpArgs false
section
namespace Go.Proofs.YtcilgihmaaobeaaGreatDoor
open Go.RowKit Go.Deep Go.Sd
set_option linter.unusedSimpArgs false
theorem lb_ne_len {y z : Lb} (h : y.2.2.length ≠ z.2.2.length) : decide (y = z) = false := decide_eq_false fun e => h (by rw [e])
theorem lb_eq_of {L S : Int} {xs ys : List Arc3} (hl : xs.length = ys.length) (h : ∀ j, j < xs.length → xs[j]? = ys[j]?) : decide (((L, S, xs) : Lb) = (L, S, ys)) = true := by
  refine decide_eq_true ?_
  have e : xs = ys := List.ext_getElem? fun j => by
    by_cases hj : j < xs.length
    · exact h j hj
    · rw [List.getElem?_eq_none (by omega), List.getElem?_eq_none (by omega)]
  rw [e]
theorem lb_ne_at {L S : Int} {xs ys : List Arc3} {j : Nat} (h : xs[j]? ≠ ys[j]?) : decide (((L, S, xs) : Lb) = (L, S, ys)) = false := decide_eq_false fun e => h (by cases e; rfl)
set_option maxHeartbeats 4000000 in
set_option maxRecDepth 100000 in
theorem sameLabels_c {w : World} {v1 v2 : Value} {y z : Lb} (h1 : LabR w v1 y) (h2 : LabR w v2 z) :
    Calls Tryz.prog 22 #[v1, v2] w fun e w' => e = .returned (.bool (decide (y = z))) ∧ Below w.heap.size w w' := by
  obtain ⟨L, S, xs⟩ := y
  obtain ⟨L', S', ys⟩ := z
  obtain ⟨va, rfl, ha⟩ := h1
  obtain ⟨vb, rfl, hb⟩ := h2
  obtain ⟨hlen, a1, c1, rfl, _, _, _, hc1⟩ := ha
  obtain ⟨hlen', a2, c2, rfl, _, _, _, hc2⟩ := hb
  simp only at hc1 hc2 hlen hlen' ⊢
  obtain ⟨T, hT⟩ : ∃ T, T = decide (((L, S, xs) : Lb) = (L', S', ys)) := ⟨_, rfl⟩
  obtain ⟨n, hn⟩ : ∃ n, n = xs.length := ⟨_, rfl⟩
  obtain ⟨m, hm⟩ : ∃ n, n = ys.length := ⟨_, rfl⟩
  have HT := Lib.hid hT
  rw [← hn] at hc1 hlen ⊢
  rw [← hm] at hc2 hlen' ⊢
  rw [← hT]
  have Hn := Lib.hid hn
  have Hm := Lib.hid hm
  have Hc1 := Lib.hid hc1
  have Hc2 := Lib.hid hc2
  obtain ⟨wA, eA, hA, l0, l1, l2, r0, r1, r2, zA⟩ : ∃ wA, wA = (w.alloc (.cells #[.int .i64 L, .int .i64 S, .slice a1 n c1] 26)).alloc (.cells #[.int .i64 L', .int .i64 S', .slice a2 m c2] 26) ∧ Below w.heap.size w wA ∧ wA.cell? ⟨w.heap.size, 0, none⟩ = some (.int .i64 L) ∧ wA.cell? ⟨w.heap.size, 1, none⟩ = some (.int .i64 S) ∧ wA.cell? ⟨w.heap.size, 2, none⟩ = some (.slice a1 n c1) ∧ wA.cell? ⟨w.heap.size + 1, 0, none⟩ = some (.int .i64 L') ∧ wA.cell? ⟨w.heap.size + 1, 1, none⟩ = some (.int .i64 S') ∧ wA.cell? ⟨w.heap.size + 1, 2, none⟩ = some (.slice a2 m c2) ∧ w.heap.size + 1 < wA.heap.size :=
    ⟨_, rfl, ((Below.refl _ _).alloc (Nat.le_refl _) _).alloc (by simp) _, by simp [go_sem], by simp [go_sem], by simp [go_sem], by simp [go_sem], by simp [go_sem], by simp [go_sem], by simp⟩
  have eAs := eA.symm
  have HA := Lib.hid hA
  clear hn hm hT hc1 hc2 eA hA
  by_cases t1 : (L != L') = false
  case neg =>
    have t1 : (L != L') = true := by simpa using t1
    have HR := Lib.hid (show T = false from by rw [HT.out]; exact decide_eq_false fun e => by cases e; simp at t1)
    go_enter Tryz.func22, Tryz.ntmps22
    go_wp2
    go_ret
    exact ⟨by rw [HR.out]; rfl, HA.out⟩
  by_cases t2 : (S != S') = false
  case neg =>
    have t2 : (S != S') = true := by simpa using t2
    have HR := Lib.hid (show T = false from by rw [HT.out]; exact decide_eq_false fun e => by cases e; simp at t2)
    go_enter Tryz.func22, Tryz.ntmps22
    go_wp2
    go_ret
    exact ⟨by rw [HR.out]; rfl, HA.out⟩
  by_cases t3 : ((n : Int) != (m : Int)) = false
  case neg =>
    have HR := Lib.hid (show T = false from by rw [HT.out]; exact lb_ne_len (by rw [← Hn.out, ← Hm.out]; intro e; rw [e] at t3; simp at t3))
    have t3 : ((n : Int) != (m : Int)) = true := by simpa using t3
    go_enter Tryz.func22, Tryz.ntmps22
    go_wp2
    go_ret
    exact ⟨by rw [HR.out]; rfl, HA.out⟩
  have hnm : n = m := by
    have h : (n : Int) = m := by simpa using t3
    omega
  have HL := Lib.hid (show L = L' ∧ S = S' ∧ n = m from ⟨by simpa using t1, by simpa using t2, hnm⟩)
  clear hnm
  go_enter Tryz.func22, Tryz.ntmps22
  go_wp2
  go_loopg [5] n (fun g i wr => ∃ (k : Nat), i = .int .i64 k ∧ k + g = n ∧ Drawn wA wr ∧ Hid (∀ j, j < k → xs[j]? = ys[j]?))
  case atStart => exact ⟨0, rfl, by omega, Drawn.refl _, Lib.hid (fun j hj => by omega)⟩
  case round =>
    obtain ⟨k, rfl, hk, hdr, HE⟩ := hrel
    rw [← hdr.cell] at l2 r2
    by_cases hlt : k < n
    · obtain ⟨b1, o1, rfl, hb1, hx1⟩ := Hc1.out (by omega)
      obtain ⟨b2, o2, rfl, hb2, hx2⟩ := Hc2.out (by have := HL.out; omega)
      obtain ⟨x, hx, _⟩ := at_lt (xs := xs) (k := k) (by have := Hn.out; omega)
      obtain ⟨y, hy, _⟩ := at_lt (xs := ys) (k := k) (by have := Hm.out; have := HL.out; omega)
      obtain ⟨f0, f1, f2⟩ := hx1 k x hx
      obtain ⟨g0, g1, g2⟩ := hx2 k y hy
      replace f0 := (HA.out.cell (p := ⟨b1, o1 + k * 3, none⟩) hb1).trans f0
      replace f1 := (HA.out.cell (p := ⟨b1, o1 + k * 3 + 1, none⟩) hb1).trans f1
      replace f2 := (HA.out.cell (p := ⟨b1, o1 + k * 3 + 2, none⟩) hb1).trans f2
      replace g0 := (HA.out.cell (p := ⟨b2, o2 + k * 3, none⟩) hb2).trans g0
      replace g1 := (HA.out.cell (p := ⟨b2, o2 + k * 3 + 1, none⟩) hb2).trans g1
      replace g2 := (HA.out.cell (p := ⟨b2, o2 + k * 3 + 2, none⟩) hb2).trans g2
      rw [← hdr.cell] at f0 f1 f2 g0 g1 g2
      obtain ⟨x0, x1, x2⟩ := x
      obtain ⟨y0, y1, y2⟩ := y
      simp only at f0 f1 f2 g0 g1 g2
      have Hx := Lib.hid hx
      have Hy := Lib.hid hy
      have hi1 : (k : Int) < (n : Int) := by omega
      have hi2 : (k : Int) < (m : Int) := by have := HL.out; omega
      have HN := Lib.hid (fun (hne : (x0, x1, x2) ≠ (y0, y1, y2)) => show T = false from by
        rw [HT.out, ← HL.out.1, ← HL.out.2.1]
        exact lb_ne_at (j := k) (by rw [Hx.out, Hy.out]; simpa using hne))
      have HY := Lib.hid (fun (he : (x0, x1, x2) = (y0, y1, y2)) => show ∀ j, j < k + 1 → xs[j]? = ys[j]? from fun j hj => by
        by_cases e : j = k
        · rw [e, Hx.out, Hy.out, he]
        · exact HE.out j (by omega))
      clear hx1 hx2 hx hy HE
      by_cases s0 : (x0 == y0) = true
      · by_cases s1 : (x1 == y1) = true
        · by_cases s2 : (x2 == y2) = true
          · replace HY := Lib.hid (HY.out (by rw [beq_iff_eq] at s0 s1 s2; rw [s0, s1, s2]))
            clear HN
            go_wp2
            go_quiet (fail)
            go_wp2
            go_roundg (n - (k + 1))
            case measure => omega
            case rel => exact ⟨k + 1, by go_num, by omega, hdr.drewN _, HY⟩
          · replace HN := Lib.hid (HN.out (fun e => s2 (by cases e; simp)))
            have s2 : (x2 == y2) = false := by simpa using s2
            clear HY
            go_wp2
            go_quiet (fail)
            go_wp2
            go_ret
            exact ⟨by rw [HN.out]; rfl, HA.out.trans ((hdr.drewN _).below _)⟩
        · replace HN := Lib.hid (HN.out (fun e => s1 (by cases e; simp)))
          have s1 : (x1 == y1) = false := by simpa using s1
          clear HY
          go_wp2
          go_quiet (fail)
          go_wp2
          go_ret
          exact ⟨by rw [HN.out]; rfl, HA.out.trans ((hdr.drewN _).below _)⟩
      · replace HN := Lib.hid (HN.out (fun e => s0 (by cases e; simp)))
        have s0 : (x0 == y0) = false := by simpa using s0
        clear HY
        go_wp2
        go_quiet (fail)
        go_wp2
        go_ret
        exact ⟨by rw [HN.out]; rfl, HA.out.trans ((hdr.drewN _).below _)⟩
    · have HR := Lib.hid (show T = true from by
        rw [HT.out, ← HL.out.1, ← HL.out.2.1]
        exact lb_eq_of (by rw [← Hn.out, ← Hm.out]; exact HL.out.2.2) fun j hj => HE.out j (by have := Hn.out; omega))
      clear HE
      go_wp2
      go_ret
      exact ⟨by rw [HR.out]; rfl, HA.out.trans (hdr.below _)⟩
set_option maxHeartbeats 4000000 in
set_option maxRecDepth 100000 in
theorem EqArcs_c {w : World} {v1 v2 : Value} {xs ys : List Arc3} (h1 : ArcsR w v1 xs) (h2 : ArcsR w v2 ys) :
    Calls Tryz.prog 63 #[v1, v2] w (Reads w (.bool (decide (xs = ys)))) := by
  obtain ⟨hlen, a1, c1, rfl, _, _, _, hc1⟩ := h1
  obtain ⟨hlen', a2, c2, rfl, _, _, _, hc2⟩ := h2
  obtain ⟨T, hT⟩ : ∃ T, T = decide (xs = ys) := ⟨_, rfl⟩
  obtain ⟨n, hn⟩ : ∃ n, n = xs.length := ⟨_, rfl⟩
  obtain ⟨m, hm⟩ : ∃ n, n = ys.length := ⟨_, rfl⟩
  have HT := Lib.hid hT
  rw [← hn] at hc1 hlen ⊢
  rw [← hm] at hc2 hlen' ⊢
  rw [← hT]
  have Hn := Lib.hid hn
  have Hm := Lib.hid hm
  have Hc1 := Lib.hid hc1
  have Hc2 := Lib.hid hc2
  clear hn hm hT hc1 hc2
  by_cases t3 : ((n : Int) != (m : Int)) = false
  case neg =>
    have HR := Lib.hid (show T = false from by rw [HT.out]; exact decide_eq_false fun e => t3 (by rw [Hn.out, Hm.out, e]; simp))
    have t3 : ((n : Int) != (m : Int)) = true := by simpa using t3
    go_enter Tryz.func63, Tryz.ntmps63
    go_wp2
    go_ret
    exact ⟨by rw [HR.out]; rfl, Drawn.refl _⟩
  have hnm : n = m := by
    have h : (n : Int) = m := by simpa using t3
    omega
  have HL := Lib.hid hnm
  clear hnm
  go_enter Tryz.func63, Tryz.ntmps63
  go_wp2
  go_loopg [13] n (fun g i wr => ∃ (k : Nat), i = .int .i64 k ∧ k + g = n ∧ Drawn w wr ∧ Hid (∀ j, j < k → xs[j]? = ys[j]?))
  case atStart => exact ⟨0, rfl, by omega, Drawn.refl _, Lib.hid (fun j hj => by omega)⟩
  case round =>
    obtain ⟨k, rfl, hk, hdr, HE⟩ := hrel
    by_cases hlt : k < n
    · obtain ⟨b1, o1, rfl, hb1, hx1⟩ := Hc1.out (by omega)
      obtain ⟨b2, o2, rfl, hb2, hx2⟩ := Hc2.out (by have := HL.out; omega)
      obtain ⟨x, hx, _⟩ := at_lt (xs := xs) (k := k) (by have := Hn.out; omega)
      obtain ⟨y, hy, _⟩ := at_lt (xs := ys) (k := k) (by have := Hm.out; have := HL.out; omega)
      obtain ⟨f0, f1, f2⟩ := hx1 k x hx
      obtain ⟨g0, g1, g2⟩ := hx2 k y hy
      rw [← hdr.cell] at f0 f1 f2 g0 g1 g2
      obtain ⟨x0, x1, x2⟩ := x
      obtain ⟨y0, y1, y2⟩ := y
      simp only at f0 f1 f2 g0 g1 g2
      have Hx := Lib.hid hx
      have Hy := Lib.hid hy
      have hi1 : (k : Int) < (n : Int) := by omega
      have hi2 : (k : Int) < (m : Int) := by have := HL.out; omega
      have HN := Lib.hid (fun (hne : (x0, x1, x2) ≠ (y0, y1, y2)) => show T = false from by
        rw [HT.out]
        refine decide_eq_false fun e => hne ?_
        have h1 := Hx.out
        rw [e, Hy.out] at h1
        exact (Option.some.inj h1).symm)
      have HY := Lib.hid (fun (he : (x0, x1, x2) = (y0, y1, y2)) => show ∀ j, j < k + 1 → xs[j]? = ys[j]? from fun j hj => by
        by_cases e : j = k
        · rw [e, Hx.out, Hy.out, he]
        · exact HE.out j (by omega))
      clear hx1 hx2 hx hy HE
      by_cases s0 : (x0 == y0) = true
      · by_cases s1 : (x1 == y1) = true
        · by_cases s2 : (x2 == y2) = true
          · replace HY := Lib.hid (HY.out (by rw [beq_iff_eq] at s0 s1 s2; rw [s0, s1, s2]))
            clear HN
            go_wp2
            go_quiet (fail)
            go_wp2
            go_roundg (n - (k + 1))
            case measure => omega
            case rel => exact ⟨k + 1, by go_num, by omega, hdr.drewN _, HY⟩
          · replace HN := Lib.hid (HN.out (fun e => s2 (by cases e; simp)))
            have s2 : (x2 == y2) = false := by simpa using s2
            clear HY
            go_wp2
            go_quiet (fail)
            go_wp2
            go_ret
            exact ⟨by rw [HN.out]; rfl, hdr.drewN _⟩
        · replace HN := Lib.hid (HN.out (fun e => s1 (by cases e; simp)))
          have s1 : (x1 == y1) = false := by simpa using s1
          clear HY
          go_wp2
          go_quiet (fail)
          go_wp2
          go_ret
          exact ⟨by rw [HN.out]; rfl, hdr.drewN _⟩
      · replace HN := Lib.hid (HN.out (fun e => s0 (by cases e; simp)))
        have s0 : (x0 == y0) = false := by simpa using s0
        clear HY
        go_wp2
        go_quiet (fail)
        go_wp2
        go_ret
        exact ⟨by rw [HN.out]; rfl, hdr.drewN _⟩
    · have HR := Lib.hid (show T = true from by
        rw [HT.out]
        refine decide_eq_true (List.ext_getElem? fun j => ?_)
        by_cases hj : j < k
        · exact HE.out j hj
        · rw [List.getElem?_eq_none (by have := Hn.out; omega), List.getElem?_eq_none (by have := Hm.out; have := HL.out; omega)])
      clear HE
      go_wp2
      go_ret
      exact ⟨by rw [HR.out]; rfl, hdr⟩
set_option maxHeartbeats 4000000 in
set_option maxRecDepth 100000 in
theorem impl_EqualLabels_c {w : World} {v1 v2 : Value} {y z : Lb} (h1 : LabR w v1 y) (h2 : LabR w v2 z) :
    Calls Tryz.prog 26 #[v1, v2] w fun e w' => e = .returned (.bool (decide (y = z))) ∧ Below w.heap.size w w' := by
  obtain ⟨L, S, xs⟩ := y
  obtain ⟨L', S', ys⟩ := z
  obtain ⟨va, rfl, ha⟩ := h1
  obtain ⟨vb, rfl, hb⟩ := h2
  have HQ := Lib.hid (fun w1 (h : Below w.heap.size w w1) => EqArcs_c (ArcsR.frame _ _ _ _ ha h) (ArcsR.frame _ _ _ _ hb h))
  obtain ⟨hlen, a1, c1, rfl, -⟩ := ha
  obtain ⟨hlen', a2, c2, rfl, -⟩ := hb
  simp only at hlen hlen' HQ ⊢
  obtain ⟨T, hT⟩ : ∃ T, T = decide (((L, S, xs) : Lb) = (L', S', ys)) := ⟨_, rfl⟩
  obtain ⟨q, hq⟩ : ∃ q, q = decide (xs = ys) := ⟨_, rfl⟩
  rw [← hq] at HQ
  rw [← hT]
  have HT := Lib.hid (show T = (decide (L = L') && (decide (S = S') && q)) from by rw [hT, hq, Bool.eq_iff_iff]; simp)
  clear hT hq
  generalize xs.length = n at *
  generalize ys.length = m at *
  have HA := Lib.hid (((Below.refl w.heap.size w).alloc (Nat.le_refl _) (.cells #[.int .i64 L, .int .i64 S, .slice a1 n c1] 26)).alloc (by simp) (.cells #[.int .i64 L', .int .i64 S', .slice a2 m c2] 26))
  by_cases t1 : L = L'
  case neg =>
    have HR := Lib.hid (show T = false from by rw [HT.out, decide_eq_false t1]; rfl)
    have t1 : (L == L') = false := by simpa using t1
    go_enter Tryz.func26, Tryz.ntmps26
    go_wp2
    go_ret
    exact ⟨by rw [HR.out]; rfl, HA.out⟩
  subst t1
  by_cases t2 : S = S'
  case neg =>
    have HR := Lib.hid (show T = false from by rw [HT.out, decide_eq_false t2]; simp)
    have t2 : (S == S') = false := by simpa using t2
    have t1 : (L == L) = true := by simp
    go_enter Tryz.func26, Tryz.ntmps26
    go_wp2
    go_ret
    exact ⟨by rw [HR.out]; rfl, HA.out⟩
  subst t2
  have HR := Lib.hid (show T = q from by rw [HT.out]; simp)
  have t1 : (L == L) = true := by simp
  have t2 : (S == S) = true := by simp
  go_enter Tryz.func26, Tryz.ntmps26
  go_wp2_with fail
  (with_reducible refine (HQ.out _ HA.out).mono ?_)
  rintro e w9 ⟨rfl, hd⟩
  go_wp2
  go_ret
  exact ⟨by rw [HR.out]; rfl, HA.out.trans (hd.below _)⟩
end Go.Proofs.YtcilgihmaaobeaaGreatDoor
end
