/-
  Texts of this claim joined: laws for its walks, contracts of the functions that the law reaches.
-/
import Derived.Test.YtcilgihmaaobeaaRows
import Derived.Test.YtcilgihmaaobeaaFnResolvedM1
import Derived.Test.YtcilgihmaaobeaaFnResolvedM2
import Derived.Test.YtcilgihmaaobeaaFnResolvedM14
import Derived.IntWalk
import Derived.Deep.RegionHeld3
import Derived.Deep.DeepCutAuto
import Derived.Test.YtcilgihmaaobeaaFnResolvedM4
import Derived.BigQuiet
import Derived.Test.YtcilgihmaaobeaaFnResolvedM7
set_option linter.unusedVariables false
set_option linter.unusedSimpArgs false
section
namespace Go.Proofs.Ytcilgihmaaobeaa
open Go.RowKit Go.Deep Go.Sd
set_option linter.unusedSimpArgs false
theorem tgtI_at {xs : List Arc3} {k : Nat} {a : Arc3} (h : xs[k]? = some a) (p x : Int) : tgtI (xs.drop k) p x = if a.1 = p ∧ a.2.2 = x then a.2.1 else tgtI (xs.drop (k + 1)) p x := by
  obtain ⟨h1, h2⟩ := List.getElem?_eq_some_iff.1 h
  rw [List.drop_eq_getElem_cons h1, h2]; rfl
theorem tgtI_end {xs : List Arc3} {k : Nat} (h : xs.length ≤ k) (p x : Int) : tgtI (xs.drop k) p x = -1 := by
  rw [List.drop_eq_nil_of_le h]; rfl
set_option maxHeartbeats 4000000 in
set_option maxRecDepth 100000 in
theorem target_c {w : World} {v : Value} {l : Lb} (h : LabR w v l) (p x : Int) :
    Calls Try.prog 43 #[v, .int .i64 p, .int .i64 x] w fun e w' => e = .returned (.int .i64 (tgtI l.2.2 p x)) ∧ Below w.heap.size w w' := by
  obtain ⟨L, S, xs⟩ := l
  obtain ⟨va, rfl, hlen, a, c, rfl, _, _, _, hcell⟩ := h
  simp only at hcell hlen
  simp only
  obtain ⟨n, hn⟩ : ∃ n, n = xs.length := ⟨_, rfl⟩
  have Hn := Lib.hid hn
  rw [← hn] at hcell hlen ⊢
  clear hn
  obtain ⟨T, hT⟩ : ∃ T, T = tgtI xs p x := ⟨_, rfl⟩
  rw [← hT]
  have HT := Lib.hid (show T = tgtI (xs.drop 0) p x from hT)
  clear hT
  go_enter Try.func43, Try.ntmps43
  have q0 : (w.alloc (.cells #[.int .i64 L, .int .i64 S, .slice a n c] 26)).cell? ⟨w.heap.size, 2, none⟩ = some (.slice a n c) := by simp
  have hb1 : Below w.heap.size w (w.alloc (.cells #[.int .i64 L, .int .i64 S, .slice a n c] 26)) := (Below.refl _ _).alloc (Nat.le_refl _) _
  have m1 : w.heap.size < (w.alloc (.cells #[.int .i64 L, .int .i64 S, .slice a n c] 26)).heap.size := by simp
  go_wp2
  generalize w.alloc (.cells #[.int .i64 L, .int .i64 S, .slice a n c] 26) = w1 at *
  have Hb1 := Lib.hid hb1
  have hz := hb1.size
  go_loopg [12] n (fun g i wr => ∃ (k : Nat), i = .int .i64 k ∧ k + g = n ∧ Hid (T = tgtI (xs.drop k) p x) ∧ Below w1.heap.size w1 wr)
  case atStart => exact ⟨0, rfl, by omega, HT, Below.refl _ _⟩
  case round =>
    clear HT
    obtain ⟨k, rfl, hk, HK, hbel⟩ := hrel
    have hz2 := hbel.size
    have hwr : w.heap.size < wr.heap.size := by omega
    have Hbel := Lib.hid hbel
    by_cases hlt : k < n
    · obtain ⟨b, o, rfl, hb, hx0⟩ := hcell (by omega)
      obtain ⟨y, hy, _⟩ := at_lt (xs := xs) (k := k) (by have := Hn.out; omega)
      obtain ⟨f0, f1, f2⟩ := hx0 k y hy
      have g0 : wr.cell? ⟨b, o + k * 3, none⟩ = some (.int .i64 y.1) := (hbel.cell (p := ⟨b, o + k * 3, none⟩) (by simp; omega)).trans ((hb1.cell (p := ⟨b, o + k * 3, none⟩) hb).trans f0)
      have g1 : wr.cell? ⟨b, o + k * 3 + 1, none⟩ = some (.int .i64 y.2.1) := (hbel.cell (p := ⟨b, o + k * 3 + 1, none⟩) (by simp; omega)).trans ((hb1.cell (p := ⟨b, o + k * 3 + 1, none⟩) hb).trans f1)
      have g2 : wr.cell? ⟨b, o + k * 3 + 2, none⟩ = some (.int .i64 y.2.2) := (hbel.cell (p := ⟨b, o + k * 3 + 2, none⟩) (by simp; omega)).trans ((hb1.cell (p := ⟨b, o + k * 3 + 2, none⟩) hb).trans f2)
      have r2 : wr.cell? ⟨w.heap.size, 2, none⟩ = some (.slice (some ⟨b, o, none⟩) n c) := (hbel.cell (p := ⟨w.heap.size, 2, none⟩) m1).trans q0
      have hbr : b < wr.heap.size := by omega
      have HK2 := Lib.hid (show T = if y.1 = p ∧ y.2.2 = x then y.2.1 else tgtI (xs.drop (k + 1)) p x from by rw [HK.out]; exact tgtI_at hy p x)
      have hkn : (k : Int) < (n : Int) := by omega
      clear HK hx0 hcell hy f0 f1 f2 hbel hb1 q0 m1
      obtain ⟨y0, y1, y2⟩ := y
      simp only at g0 g1 g2 HK2
      obtain ⟨T2, hT2⟩ : ∃ T2, T2 = tgtI (xs.drop (k + 1)) p x := ⟨_, rfl⟩
      rw [← hT2] at HK2
      have HT2 := Lib.hid hT2
      clear hT2
      by_cases h1 : y0 = p
      · subst h1
        by_cases h2 : y2 = x
        · subst h2
          have HT3 := Lib.hid (show T = y1 from by rw [HK2.out, if_pos ⟨rfl, rfl⟩])
          clear HK2
          go_wp2
          go_ret
          exact ⟨by rw [HT3.out]; rfl, ((Hb1.out.trans (Hbel.out.mono hz)).alloc (Nat.le_of_lt hwr) _)⟩
        · have hne : (y2 == x) = false := by simpa using h2
          have HT3 := Lib.hid (show T = T2 from by rw [HK2.out, if_neg (fun hh => h2 hh.2)])
          clear HK2
          go_wp2
          go_roundg (n - (k + 1))
          case measure => omega
          case rel => exact ⟨k + 1, by go_num, by omega, Lib.hid (by rw [HT3.out, HT2.out]), Hbel.out.alloc hz2 _⟩
      · have hne : (y0 == p) = false := by simpa using h1
        have HT3 := Lib.hid (show T = T2 from by rw [HK2.out, if_neg (fun hh => h1 hh.1)])
        clear HK2
        go_wp2
        go_roundg (n - (k + 1))
        case measure => omega
        case rel => exact ⟨k + 1, by go_num, by omega, Lib.hid (by rw [HT3.out, HT2.out]), Hbel.out.alloc hz2 _⟩
    · have HT3 := Lib.hid (show T = -1 from by rw [HK.out]; exact tgtI_end (by have := Hn.out; omega) p x)
      have r2 : wr.cell? ⟨w.heap.size, 2, none⟩ = some (.slice a n c) := (hbel.cell (p := ⟨w.heap.size, 2, none⟩) m1).trans q0
      have hkn : ¬ ((k : Int) < (n : Int)) := by omega
      clear HK hcell hbel hb1 q0
      go_wp2
      go_ret
      exact ⟨by rw [HT3.out]; rfl, (Hb1.out.trans (Hbel.out.mono hz))⟩
set_option maxHeartbeats 4000000 in
set_option maxRecDepth 100000 in
theorem l15To_c {w : World} {v : Value} {l : Lb} (h : LabR w v l) (p x : Int) :
    Calls Try.prog 100 #[v, .int .i64 p, .int .i64 x] w fun e w' => e = .returned (.int .i64 (tgtI l.2.2 p x)) ∧ Below w.heap.size w w' := by
  obtain ⟨L, S, xs⟩ := l
  obtain ⟨va, rfl, hlen, a, c, rfl, _, _, _, hcell⟩ := h
  simp only at hcell hlen
  simp only
  obtain ⟨n, hn⟩ : ∃ n, n = xs.length := ⟨_, rfl⟩
  have Hn := Lib.hid hn
  rw [← hn] at hcell hlen ⊢
  clear hn
  obtain ⟨T, hT⟩ : ∃ T, T = tgtI xs p x := ⟨_, rfl⟩
  rw [← hT]
  have HT := Lib.hid (show T = tgtI (xs.drop 0) p x from hT)
  clear hT
  go_enter Try.func100, Try.ntmps100
  have q0 : (w.alloc (.cells #[.int .i64 L, .int .i64 S, .slice a n c] 26)).cell? ⟨w.heap.size, 2, none⟩ = some (.slice a n c) := by simp
  have hb1 : Below w.heap.size w (w.alloc (.cells #[.int .i64 L, .int .i64 S, .slice a n c] 26)) := (Below.refl _ _).alloc (Nat.le_refl _) _
  have m1 : w.heap.size < (w.alloc (.cells #[.int .i64 L, .int .i64 S, .slice a n c] 26)).heap.size := by simp
  go_wp2
  generalize w.alloc (.cells #[.int .i64 L, .int .i64 S, .slice a n c] 26) = w1 at *
  have Hb1 := Lib.hid hb1
  have hz := hb1.size
  go_loopg [7] n (fun g i wr => ∃ (k : Nat), i = .int .i64 k ∧ k + g = n ∧ Hid (T = tgtI (xs.drop k) p x) ∧ Below w1.heap.size w1 wr)
  case atStart => exact ⟨0, rfl, by omega, HT, Below.refl _ _⟩
  case round =>
    clear HT
    obtain ⟨k, rfl, hk, HK, hbel⟩ := hrel
    have hz2 := hbel.size
    have hwr : w.heap.size < wr.heap.size := by omega
    have Hbel := Lib.hid hbel
    by_cases hlt : k < n
    · obtain ⟨b, o, rfl, hb, hx0⟩ := hcell (by omega)
      obtain ⟨y, hy, _⟩ := at_lt (xs := xs) (k := k) (by have := Hn.out; omega)
      obtain ⟨f0, f1, f2⟩ := hx0 k y hy
      have g0 : wr.cell? ⟨b, o + k * 3, none⟩ = some (.int .i64 y.1) := (hbel.cell (p := ⟨b, o + k * 3, none⟩) (by simp; omega)).trans ((hb1.cell (p := ⟨b, o + k * 3, none⟩) hb).trans f0)
      have g1 : wr.cell? ⟨b, o + k * 3 + 1, none⟩ = some (.int .i64 y.2.1) := (hbel.cell (p := ⟨b, o + k * 3 + 1, none⟩) (by simp; omega)).trans ((hb1.cell (p := ⟨b, o + k * 3 + 1, none⟩) hb).trans f1)
      have g2 : wr.cell? ⟨b, o + k * 3 + 2, none⟩ = some (.int .i64 y.2.2) := (hbel.cell (p := ⟨b, o + k * 3 + 2, none⟩) (by simp; omega)).trans ((hb1.cell (p := ⟨b, o + k * 3 + 2, none⟩) hb).trans f2)
      have r2 : wr.cell? ⟨w.heap.size, 2, none⟩ = some (.slice (some ⟨b, o, none⟩) n c) := (hbel.cell (p := ⟨w.heap.size, 2, none⟩) m1).trans q0
      have hbr : b < wr.heap.size := by omega
      have HK2 := Lib.hid (show T = if y.1 = p ∧ y.2.2 = x then y.2.1 else tgtI (xs.drop (k + 1)) p x from by rw [HK.out]; exact tgtI_at hy p x)
      have hkn : (k : Int) < (n : Int) := by omega
      clear HK hx0 hcell hy f0 f1 f2 hbel hb1 q0 m1
      obtain ⟨y0, y1, y2⟩ := y
      simp only at g0 g1 g2 HK2
      obtain ⟨T2, hT2⟩ : ∃ T2, T2 = tgtI (xs.drop (k + 1)) p x := ⟨_, rfl⟩
      rw [← hT2] at HK2
      have HT2 := Lib.hid hT2
      clear hT2
      by_cases h1 : y0 = p
      · subst h1
        by_cases h2 : y2 = x
        · subst h2
          have HT3 := Lib.hid (show T = y1 from by rw [HK2.out, if_pos ⟨rfl, rfl⟩])
          clear HK2
          go_wp2
          go_ret
          exact ⟨by rw [HT3.out]; rfl, (Hb1.out.trans (Hbel.out.mono hz))⟩
        · have hne : (y2 == x) = false := by simpa using h2
          have HT3 := Lib.hid (show T = T2 from by rw [HK2.out, if_neg (fun hh => h2 hh.2)])
          clear HK2
          go_wp2
          go_roundg (n - (k + 1))
          case measure => omega
          case rel => exact ⟨k + 1, by go_num, by omega, Lib.hid (by rw [HT3.out, HT2.out]), Hbel.out⟩
      · have hne : (y0 == p) = false := by simpa using h1
        have HT3 := Lib.hid (show T = T2 from by rw [HK2.out, if_neg (fun hh => h1 hh.1)])
        clear HK2
        go_wp2
        go_roundg (n - (k + 1))
        case measure => omega
        case rel => exact ⟨k + 1, by go_num, by omega, Lib.hid (by rw [HT3.out, HT2.out]), Hbel.out⟩
    · have HT3 := Lib.hid (show T = -1 from by rw [HK.out]; exact tgtI_end (by have := Hn.out; omega) p x)
      have r2 : wr.cell? ⟨w.heap.size, 2, none⟩ = some (.slice a n c) := (hbel.cell (p := ⟨w.heap.size, 2, none⟩) m1).trans q0
      have hkn : ¬ ((k : Int) < (n : Int)) := by omega
      clear HK hcell hbel hb1 q0
      go_wp2
      go_ret
      exact ⟨by rw [HT3.out]; rfl, (Hb1.out.trans (Hbel.out.mono hz))⟩
end Go.Proofs.Ytcilgihmaaobeaa
end

section
namespace Go.Proofs.Ytcilgihmaaobeaa
open Go.RowKit Go.Deep Go.Sd
set_option linter.unusedSimpArgs false
/-- The cells of a numbering of states. -/
def ClR (w : World) (b S : Nat) (c : Nat → Nat) : Prop := b < w.heap.size ∧ ∀ j, j < S → w.cell? ⟨b, j, none⟩ = some (.int .i64 (c j : Int))
theorem ClR.frame {w w' : World} {b S : Nat} {c : Nat → Nat} (h : ClR w b S c) (hb : Below w.heap.size w w') : ClR w' b S c :=
  ⟨Nat.lt_of_lt_of_le h.1 hb.size, fun j hj => (hb.cell (p := ⟨b, j, none⟩) h.1).trans (h.2 j hj)⟩
theorem tgtI_ok {S : Int} : ∀ {xs : List Arc3}, okArcs S xs → ∀ p x, tgtI xs p x = -1 ∨ ∃ a : Nat, tgtI xs p x = a ∧ (a : Int) < S
  | [], _, _, _ => Or.inl rfl
  | a :: ys, h, p, x => by
    have ha := h a (by simp)
    by_cases hc : a.1 = p ∧ a.2.2 = x
    · refine Or.inr ⟨a.2.1.toNat, ?_, by omega⟩
      show (if a.1 = p ∧ a.2.2 = x then a.2.1 else tgtI ys p x) = _
      rw [if_pos hc]; omega
    · show (if a.1 = p ∧ a.2.2 = x then a.2.1 else tgtI ys p x) = -1 ∨ ∃ b : Nat, (if a.1 = p ∧ a.2.2 = x then a.2.1 else tgtI ys p x) = b ∧ _
      rw [if_neg hc]
      exact tgtI_ok (fun b hb => h b (List.mem_cons_of_mem _ hb)) p x
theorem goB_nn (c : Nat → Nat) : goB c (-1) (-1) = true := rfl
theorem goB_np (c : Nat → Nat) (b : Nat) : goB c (-1) b = false := by
  unfold goB; rw [decide_eq_true (by omega : (-1 : Int) < 0), decide_eq_false (by omega : ¬ ((b : Int) < 0))]; rfl
theorem goB_pn (c : Nat → Nat) (a : Nat) : goB c a (-1) = false := by
  unfold goB; rw [decide_eq_true (by omega : (-1 : Int) < 0), decide_eq_false (by omega : ¬ ((a : Int) < 0))]; rfl
theorem goB_pp (c : Nat → Nat) (a b : Nat) : goB c a b = decide (c a = c b) := by
  unfold goB
  rw [decide_eq_false (by omega : ¬ ((b : Int) < 0)), decide_eq_false (by omega : ¬ ((a : Int) < 0)), decide_eq_true (by omega : (0 : Int) ≤ a)]
  simp
set_option maxHeartbeats 8000000 in
set_option maxRecDepth 100000 in
theorem same_c {w : World} {v : Value} {N S : Nat} {xs : List Arc3} (h : LabR w v ((N : Int), (S : Int), xs)) (ho : okArcs S xs) (hN : N ≤ 3) (hS : S ≤ 12) {b cap : Nat} {c : Nat → Nat} (hc : ClR w b S c) {p q : Nat} (hp : p < S) (hq : q < S) :
    Calls Try.prog 79 #[v, .slice (some ⟨b, 0, none⟩) S cap, .int .i64 p, .int .i64 q] w fun e w' => e = .returned (.bool (sameB xs N c p q)) ∧ Below w.heap.size w w' := by
  have HA := Lib.hid (fun w1 (hb : Below w.heap.size w w1) (x : Nat) => target_c (LabR.frame _ _ _ _ h hb) p x)
  have HB := Lib.hid (fun w1 (hb : Below w.heap.size w w1) (x : Nat) => target_c (LabR.frame _ _ _ _ h hb) q x)
  have HOA := Lib.hid (fun x => tgtI_ok ho p x)
  have HOB := Lib.hid (fun x => tgtI_ok ho q x)
  obtain ⟨va, rfl, hlen, a, cc, rfl, _, _, _, _⟩ := h
  simp only at HA HB
  obtain ⟨n, hn⟩ : ∃ n, n = xs.length := ⟨_, rfl⟩
  simp only
  rw [← hn] at HA HB ⊢
  clear hn hlen ho
  obtain ⟨T, hT⟩ : ∃ T, T = sameB xs N c p q := ⟨_, rfl⟩
  rw [← hT]
  have HT0 := Lib.hid (show T = (decide (c p = c q) && allF (fun x => goB c (tgtI xs p x) (tgtI xs q x)) N 0) from hT)
  clear hT
  obtain ⟨w1, e1⟩ : ∃ x, x = w.alloc (.cells #[.int .i64 N, .int .i64 S, .slice a n cc] 26) := ⟨_, rfl⟩
  have A1 := Lib.hid (show Below w.heap.size w w1 from by rw [e1]; exact (Below.refl _ _).alloc (Nat.le_refl _) _)
  have c0 : w1.cell? ⟨w.heap.size, 0, none⟩ = some (.int .i64 N) := by rw [e1]; simp [go_sem]
  have c1 : w1.cell? ⟨w.heap.size, 1, none⟩ = some (.int .i64 S) := by rw [e1]; simp [go_sem]
  have c2 : w1.cell? ⟨w.heap.size, 2, none⟩ = some (.slice a n cc) := by rw [e1]; simp [go_sem]
  have m1 : w.heap.size < w1.heap.size := by rw [e1]; simp
  have hcl := hc.frame A1.out
  have bw := hc.1
  have hz := A1.out.size
  have es := e1.symm
  clear e1 hc
  have gp := hcl.2 p hp
  have gq := hcl.2 q hq
  have hpi : (p : Int) < (S : Int) := by omega
  have hqi : (q : Int) < (S : Int) := by omega
  go_enter Try.func79, Try.ntmps79
  go_wp2
  try simp only [es]
  by_cases hpq : c p = c q
  rotate_left
  · have HF := Lib.hid (show T = false from by rw [HT0.out, decide_eq_false hpq]; rfl)
    have hne : ((c p : Int) == (c q : Int)) = false := by rw [beq_eq_false_iff_ne]; omega
    clear HT0
    generalize c p = cp at *
    generalize c q = cq at *
    go_quiet (fail)
    go_wp2
    go_ret
    exact ⟨by rw [HF.out]; rfl, by first | exact A1.out | exact A1.out.drew | exact below_drewN A1.out _⟩
  have HT := Lib.hid (show T = allF (fun x => goB c (tgtI xs p x) (tgtI xs q x)) N 0 from by rw [HT0.out, decide_eq_true hpq]; rfl)
  clear HT0
  rw [← hpq] at gq
  have Hcl := Lib.hid hcl
  clear hcl hpq
  generalize c p = cp at gp gq
  go_quiet (fail)
  go_wp2
  go_loopg [23] N (fun g i wr => ∃ (k : Nat), i = .int .i64 k ∧ k + g = N ∧ Hid (T = allF (fun x => goB c (tgtI xs p x) (tgtI xs q x)) g k) ∧ Hid (Below w1.heap.size w1 wr))
  case atStart => exact ⟨0, rfl, by omega, HT, Lib.hid (by first | exact Below.refl _ _ | exact below_drewN (Below.refl _ _) _)⟩
  case round =>
    clear HT gp gq hpi hqi
    obtain ⟨k, rfl, hk, HK, HBl⟩ := hrel
    obtain ⟨wk, rfl⟩ : ∃ x, x = wr := ⟨_, rfl⟩
    have d0 := (HBl.out.cell (p := ⟨w.heap.size, 0, none⟩) m1).trans c0
    have d1 := (HBl.out.cell (p := ⟨w.heap.size, 1, none⟩) m1).trans c1
    have d2 := (HBl.out.cell (p := ⟨w.heap.size, 2, none⟩) m1).trans c2
    have zk := HBl.out.size
    have mk : w.heap.size < wk.heap.size := by omega
    obtain ⟨g, hg⟩ : ∃ g, g = gk := ⟨_, rfl⟩
    rw [← hg] at HK hk
    by_cases hlt : k < N
    · obtain ⟨g', rfl⟩ : ∃ t, g = t + 1 := ⟨g - 1, by omega⟩
      have HK1 := Lib.hid (show T = if goB c (tgtI xs p k) (tgtI xs q k) = true then allF (fun x => goB c (tgtI xs p x) (tgtI xs q x)) g' (k + 1) else false from HK.out)
      have C1 := Lib.hid (fun w2 (hb : Below w.heap.size w w2) => HA.out w2 hb k)
      have C2 := Lib.hid (fun w2 (hb : Below w.heap.size w w2) => HB.out w2 hb k)
      have O1 := HOA.out k
      have O2 := HOB.out k
      generalize tgtI xs p k = tA at HK1 C1 O1
      generalize tgtI xs q k = tB at HK1 C2 O2
      obtain ⟨R, hR⟩ : ∃ R, R = allF (fun x => goB c (tgtI xs p x) (tgtI xs q x)) g' (k + 1) := ⟨_, rfl⟩
      have HR := Lib.hid hR
      rw [← hR] at HK1
      have AW := Lib.hid (A1.out.trans (HBl.out.mono hz))
      have hkn : (k : Int) < (N : Int) := by omega
      clear HK hR
      have hS0 : wk.cell? ⟨w.heap.size, 0, none⟩ = some (.int .i64 N) ∧ wk.cell? ⟨w.heap.size, 1, none⟩ = some (.int .i64 S) ∧ wk.cell? ⟨w.heap.size, 2, none⟩ = some (.slice a n cc) := ⟨d0, d1, d2⟩
      have HSS := Lib.hid (fun (w' : World) (hb3 : Below wk.heap.size wk w') => (show w'.cell? ⟨w.heap.size, 0, none⟩ = some (.int .i64 N) ∧ w'.cell? ⟨w.heap.size, 1, none⟩ = some (.int .i64 S) ∧ w'.cell? ⟨w.heap.size, 2, none⟩ = some (.slice a n cc) from ⟨(hb3.cell (p := ⟨w.heap.size, 0, none⟩) mk).trans hS0.1, (hb3.cell (p := ⟨w.heap.size, 1, none⟩) mk).trans hS0.2.1, (hb3.cell (p := ⟨w.heap.size, 2, none⟩) mk).trans hS0.2.2⟩))
      have hSd : wk.drew.cell? ⟨w.heap.size, 0, none⟩ = some (.int .i64 N) ∧ wk.drew.cell? ⟨w.heap.size, 1, none⟩ = some (.int .i64 S) ∧ wk.drew.cell? ⟨w.heap.size, 2, none⟩ = some (.slice a n cc) := hS0
      have B1 := (Below.refl wk.heap.size wk).drew
      have HA1 := AW.out.trans (B1.mono AW.out.size)
      clear d0 d1 d2
      go_wp2
      go_region_held3 (fun w' => w'.cell? ⟨w.heap.size, 0, none⟩ = some (.int .i64 N) ∧ w'.cell? ⟨w.heap.size, 1, none⟩ = some (.int .i64 S) ∧ w'.cell? ⟨w.heap.size, 2, none⟩ = some (.slice a n cc))
        (first | with_reducible exact hS2' | with_reducible exact hS1' | with_reducible exact hSd | with_reducible exact hS0 | go_keep)
        ((first
          | (go_at_call 43; (with_reducible refine (C2.out _ HA2).mono ?_); rintro e w_3 ⟨rfl, hb⟩; have B3 := B2.trans (hb.mono B2.size); have hS2' := HSS.out _ B3; clear hb)
          | (go_at_call 43; (with_reducible refine (C1.out _ HA2).mono ?_); rintro e w_3 ⟨rfl, hb⟩; have B3 := B2.trans (hb.mono B2.size); have hS2' := HSS.out _ B3; clear hb)
          | (go_at_call 43; (with_reducible refine (C1.out _ HA1).mono ?_); rintro e w_2 ⟨rfl, hb⟩; have B2 := B1.trans (hb.mono B1.size); have hS1' := HSS.out _ B2; have HA2 := AW.out.trans (B2.mono AW.out.size); clear hb)
          | (go_at_call 43; (with_reducible refine (C2.out _ HA1).mono ?_); rintro e w_2 ⟨rfl, hb⟩; have B2 := B1.trans (hb.mono B1.size); have hS1' := HSS.out _ B2; have HA2 := AW.out.trans (B2.mono AW.out.size); clear hb)
          | fail))
      obtain ⟨d0, d1, d2⟩ := hS2'
      have HB3 := Lib.hid (HBl.out.trans (B3.mono zk))
      have HCl := Lib.hid (Hcl.out.frame HB3.out)
      have z3 := B3.size
      have HE := Lib.hid (A1.out.trans (HB3.out.mono hz))
      clear AW C1 C2 hS0 HSS hSd B1 B2 HA1 HA2 hS1' B3 HBl mk HA HB
      rcases O1 with rfl | ⟨ta, rfl, hta⟩
      · rcases O2 with rfl | ⟨tb, rfl, htb⟩
        · have HT3 := Lib.hid (show T = R from by rw [HK1.out, goB_nn]; rfl)
          clear HK1
          go_wp2
          go_quiet (fail)
          go_wp2
          go_roundg g'
          case measure => omega
          case rel => exact ⟨k + 1, by go_num, by omega, Lib.hid (by rw [HT3.out, HR.out]), Lib.hid (below_drewN HB3.out _)⟩
        · have HT3 := Lib.hid (show T = false from by rw [HK1.out, goB_np]; rfl)
          obtain ⟨u, hu⟩ : ∃ u : Int, u = (tb : Int) := ⟨_, rfl⟩
          rw [← hu]
          have u0 : decide ((-1 : Int) < 0) = true := rfl
          have u1 : decide (u < 0) = false := decide_eq_false (by omega)
          have htf : (true == false) = false := rfl
          have htf2 : decide (true = false) = false := rfl
          clear HK1 hu
          go_wp2
          go_quiet (fail)
          go_wp2
          go_ret
          exact ⟨by rw [HT3.out]; rfl, below_drewN HE.out _⟩
      · have ha0 : ¬ ((ta : Int) < 0) := by omega
        have ha1 : (0 : Int) ≤ ta := by omega
        rcases O2 with rfl | ⟨tb, rfl, htb⟩
        · have HT3 := Lib.hid (show T = false from by rw [HK1.out, goB_pn]; rfl)
          obtain ⟨u, hu⟩ : ∃ u : Int, u = (ta : Int) := ⟨_, rfl⟩
          rw [← hu]
          have u0 : decide ((-1 : Int) < 0) = true := rfl
          have u1 : decide (u < 0) = false := decide_eq_false (by omega)
          have htf : (false == true) = false := rfl
          have htf2 : decide (false = true) = false := rfl
          clear HK1 hu ha0 ha1
          go_wp2
          go_quiet (fail)
          go_wp2
          go_ret
          exact ⟨by rw [HT3.out]; rfl, below_drewN HE.out _⟩
        · have hb0 : ¬ ((tb : Int) < 0) := by omega
          have u0 : decide ((ta : Int) < 0) = false := decide_eq_false ha0
          have u1 : decide ((tb : Int) < 0) = false := decide_eq_false hb0
          have ga := HCl.out.2 ta (by omega)
          have gb := HCl.out.2 tb (by omega)
          by_cases hab : c ta = c tb
          · have HT3 := Lib.hid (show T = R from by rw [HK1.out, goB_pp, decide_eq_true hab]; rfl)
            rw [← hab] at gb
            clear HK1 hab
            generalize c ta = ca at ga gb
            go_wp2
            go_quiet (fail)
            go_wp2
            go_roundg g'
            case measure => omega
            case rel => exact ⟨k + 1, by go_num, by omega, Lib.hid (by rw [HT3.out, HR.out]), Lib.hid (below_drewN HB3.out _)⟩
          · have HT3 := Lib.hid (show T = false from by rw [HK1.out, goB_pp, decide_eq_false hab]; rfl)
            obtain ⟨U, hU⟩ : ∃ U : Int, U = (c ta : Int) := ⟨_, rfl⟩
            obtain ⟨V, hV⟩ : ∃ V : Int, V = (c tb : Int) := ⟨_, rfl⟩
            have hne : (U == V) = false := by rw [beq_eq_false_iff_ne]; omega
            have hne2 : ¬ U = V := by omega
            have hne3 : decide (U = V) = false := decide_eq_false hne2
            rw [← hU] at ga
            rw [← hV] at gb
            clear HK1 hab hU hV
            go_wp2
            go_quiet (fail)
            go_wp2
            go_ret
            exact ⟨by rw [HT3.out]; rfl, below_drewN HE.out _⟩
    · have HT3 := Lib.hid (show T = true from by rw [HK.out, show g = 0 by omega]; rfl)
      have hkn : ¬ ((k : Int) < (N : Int)) := by omega
      have HE := Lib.hid (A1.out.trans (HBl.out.mono hz))
      clear HK HA HB
      go_wp2
      go_ret
      exact ⟨by rw [HT3.out]; rfl, HE.out⟩
set_option maxHeartbeats 8000000 in
set_option maxRecDepth 100000 in
theorem l15Alike_c {w : World} {v : Value} {N S : Nat} {xs : List Arc3} (h : LabR w v ((N : Int), (S : Int), xs)) (ho : okArcs S xs) (hN : N ≤ 3) (hS : S ≤ 12) {b cap : Nat} {c : Nat → Nat} (hc : ClR w b S c) {p q : Nat} (hp : p < S) (hq : q < S) :
    Calls Try.prog 80 #[v, .slice (some ⟨b, 0, none⟩) S cap, .int .i64 p, .int .i64 q] w fun e w' => e = .returned (.bool (likeB xs N c p q)) ∧ Below w.heap.size w w' := by
  have HA := Lib.hid (fun w1 (hb : Below w.heap.size w w1) (x : Nat) => l15To_c (LabR.frame _ _ _ _ h hb) p x)
  have HB := Lib.hid (fun w1 (hb : Below w.heap.size w w1) (x : Nat) => l15To_c (LabR.frame _ _ _ _ h hb) q x)
  have HOA := Lib.hid (fun x => tgtI_ok ho p x)
  have HOB := Lib.hid (fun x => tgtI_ok ho q x)
  obtain ⟨va, rfl, hlen, a, cc, rfl, _, _, _, _⟩ := h
  simp only at HA HB
  obtain ⟨n, hn⟩ : ∃ n, n = xs.length := ⟨_, rfl⟩
  simp only
  rw [← hn] at HA HB ⊢
  clear hn hlen ho
  obtain ⟨T, hT⟩ : ∃ T, T = likeB xs N c p q := ⟨_, rfl⟩
  rw [← hT]
  have HT := Lib.hid (show T = allF (fun x => goB c (tgtI xs p x) (tgtI xs q x)) N 0 from hT)
  clear hT
  obtain ⟨w1, e1⟩ : ∃ x, x = w.alloc (.cells #[.int .i64 N, .int .i64 S, .slice a n cc] 26) := ⟨_, rfl⟩
  have A1 := Lib.hid (show Below w.heap.size w w1 from by rw [e1]; exact (Below.refl _ _).alloc (Nat.le_refl _) _)
  have c0 : w1.cell? ⟨w.heap.size, 0, none⟩ = some (.int .i64 N) := by rw [e1]; simp [go_sem]
  have c1 : w1.cell? ⟨w.heap.size, 1, none⟩ = some (.int .i64 S) := by rw [e1]; simp [go_sem]
  have c2 : w1.cell? ⟨w.heap.size, 2, none⟩ = some (.slice a n cc) := by rw [e1]; simp [go_sem]
  have m1 : w.heap.size < w1.heap.size := by rw [e1]; simp
  have hcl := hc.frame A1.out
  have bw := hc.1
  have hz := A1.out.size
  have es := e1.symm
  clear e1 hc
  go_enter Try.func80, Try.ntmps80
  go_wp2
  try simp only [es]
  have Hcl := Lib.hid hcl
  clear hcl
  go_loopg [9] N (fun g i wr => ∃ (k : Nat), i = .int .i64 k ∧ k + g = N ∧ Hid (T = allF (fun x => goB c (tgtI xs p x) (tgtI xs q x)) g k) ∧ Hid (Below w1.heap.size w1 wr))
  case atStart => exact ⟨0, rfl, by omega, HT, Lib.hid (by first | exact Below.refl _ _ | exact below_drewN (Below.refl _ _) _)⟩
  case round =>
    clear HT
    obtain ⟨k, rfl, hk, HK, HBl⟩ := hrel
    obtain ⟨wk, rfl⟩ : ∃ x, x = wr := ⟨_, rfl⟩
    have d0 := (HBl.out.cell (p := ⟨w.heap.size, 0, none⟩) m1).trans c0
    have d1 := (HBl.out.cell (p := ⟨w.heap.size, 1, none⟩) m1).trans c1
    have d2 := (HBl.out.cell (p := ⟨w.heap.size, 2, none⟩) m1).trans c2
    have zk := HBl.out.size
    have mk : w.heap.size < wk.heap.size := by omega
    obtain ⟨g, hg⟩ : ∃ g, g = gk := ⟨_, rfl⟩
    rw [← hg] at HK hk
    by_cases hlt : k < N
    · obtain ⟨g', rfl⟩ : ∃ t, g = t + 1 := ⟨g - 1, by omega⟩
      have HK1 := Lib.hid (show T = if goB c (tgtI xs p k) (tgtI xs q k) = true then allF (fun x => goB c (tgtI xs p x) (tgtI xs q x)) g' (k + 1) else false from HK.out)
      have C1 := Lib.hid (fun w2 (hb : Below w.heap.size w w2) => HA.out w2 hb k)
      have C2 := Lib.hid (fun w2 (hb : Below w.heap.size w w2) => HB.out w2 hb k)
      have O1 := HOA.out k
      have O2 := HOB.out k
      generalize tgtI xs p k = tA at HK1 C1 O1
      generalize tgtI xs q k = tB at HK1 C2 O2
      obtain ⟨R, hR⟩ : ∃ R, R = allF (fun x => goB c (tgtI xs p x) (tgtI xs q x)) g' (k + 1) := ⟨_, rfl⟩
      have HR := Lib.hid hR
      rw [← hR] at HK1
      have AW := Lib.hid (A1.out.trans (HBl.out.mono hz))
      have hkn : (k : Int) < (N : Int) := by omega
      clear HK hR
      have hS0 : wk.cell? ⟨w.heap.size, 0, none⟩ = some (.int .i64 N) ∧ wk.cell? ⟨w.heap.size, 1, none⟩ = some (.int .i64 S) ∧ wk.cell? ⟨w.heap.size, 2, none⟩ = some (.slice a n cc) := ⟨d0, d1, d2⟩
      have HSS := Lib.hid (fun (w' : World) (hb3 : Below wk.heap.size wk w') => (show w'.cell? ⟨w.heap.size, 0, none⟩ = some (.int .i64 N) ∧ w'.cell? ⟨w.heap.size, 1, none⟩ = some (.int .i64 S) ∧ w'.cell? ⟨w.heap.size, 2, none⟩ = some (.slice a n cc) from ⟨(hb3.cell (p := ⟨w.heap.size, 0, none⟩) mk).trans hS0.1, (hb3.cell (p := ⟨w.heap.size, 1, none⟩) mk).trans hS0.2.1, (hb3.cell (p := ⟨w.heap.size, 2, none⟩) mk).trans hS0.2.2⟩))
      go_wp2_with fail
      refine (C1.out _ AW.out).mono ?_
      rintro e w_2 ⟨rfl, B2⟩
      have hS1' := HSS.out _ B2
      obtain ⟨d20, d21, d22⟩ := hS1'
      clear d0 d1 d2
      go_wp2_with fail
      refine (C2.out _ (AW.out.trans (B2.mono AW.out.size))).mono ?_
      rintro e w_3 ⟨rfl, hb⟩
      have B3 := B2.trans (hb.mono B2.size)
      have hS2' := HSS.out _ B3
      clear hb d20 d21 d22
      obtain ⟨d0, d1, d2⟩ := hS2'
      have HB3 := Lib.hid (HBl.out.trans (B3.mono zk))
      have HCl := Lib.hid (Hcl.out.frame HB3.out)
      have z3 := B3.size
      have HE := Lib.hid (A1.out.trans (HB3.out.mono hz))
      clear AW C1 C2 hS0 HSS B2 B3 HBl mk HA HB
      rcases O1 with rfl | ⟨ta, rfl, hta⟩
      · rcases O2 with rfl | ⟨tb, rfl, htb⟩
        · have HT3 := Lib.hid (show T = R from by rw [HK1.out, goB_nn]; rfl)
          clear HK1
          go_wp2
          go_quiet (fail)
          go_wp2
          go_roundg g'
          case measure => omega
          case rel => exact ⟨k + 1, by go_num, by omega, Lib.hid (by rw [HT3.out, HR.out]), Lib.hid (below_drewN HB3.out _)⟩
        · have HT3 := Lib.hid (show T = false from by rw [HK1.out, goB_np]; rfl)
          obtain ⟨u, hu⟩ : ∃ u : Int, u = (tb : Int) := ⟨_, rfl⟩
          rw [← hu]
          have u0 : decide ((-1 : Int) < 0) = true := rfl
          have u1 : decide (u < 0) = false := decide_eq_false (by omega)
          have htf : (true == false) = false := rfl
          have htf2 : decide (true = false) = false := rfl
          clear HK1 hu
          go_wp2
          go_quiet (fail)
          go_wp2
          go_ret
          exact ⟨by rw [HT3.out]; rfl, below_drewN HE.out _⟩
      · have ha0 : ¬ ((ta : Int) < 0) := by omega
        have ha1 : (0 : Int) ≤ ta := by omega
        rcases O2 with rfl | ⟨tb, rfl, htb⟩
        · have HT3 := Lib.hid (show T = false from by rw [HK1.out, goB_pn]; rfl)
          obtain ⟨u, hu⟩ : ∃ u : Int, u = (ta : Int) := ⟨_, rfl⟩
          rw [← hu]
          have u0 : decide ((-1 : Int) < 0) = true := rfl
          have u1 : decide (u < 0) = false := decide_eq_false (by omega)
          have htf : (false == true) = false := rfl
          have htf2 : decide (false = true) = false := rfl
          clear HK1 hu ha0 ha1
          go_wp2
          go_quiet (fail)
          go_wp2
          go_ret
          exact ⟨by rw [HT3.out]; rfl, below_drewN HE.out _⟩
        · have hb0 : ¬ ((tb : Int) < 0) := by omega
          have u0 : decide ((ta : Int) < 0) = false := decide_eq_false ha0
          have u1 : decide ((tb : Int) < 0) = false := decide_eq_false hb0
          have ga := HCl.out.2 ta (by omega)
          have gb := HCl.out.2 tb (by omega)
          by_cases hab : c ta = c tb
          · have HT3 := Lib.hid (show T = R from by rw [HK1.out, goB_pp, decide_eq_true hab]; rfl)
            rw [← hab] at gb
            clear HK1 hab
            generalize c ta = ca at ga gb
            go_wp2
            go_quiet (fail)
            go_wp2
            go_roundg g'
            case measure => omega
            case rel => exact ⟨k + 1, by go_num, by omega, Lib.hid (by rw [HT3.out, HR.out]), Lib.hid (below_drewN HB3.out _)⟩
          · have HT3 := Lib.hid (show T = false from by rw [HK1.out, goB_pp, decide_eq_false hab]; rfl)
            obtain ⟨U, hU⟩ : ∃ U : Int, U = (c ta : Int) := ⟨_, rfl⟩
            obtain ⟨V, hV⟩ : ∃ V : Int, V = (c tb : Int) := ⟨_, rfl⟩
            have hne : (U == V) = false := by rw [beq_eq_false_iff_ne]; omega
            have hne2 : ¬ U = V := by omega
            have hne3 : decide (U = V) = false := decide_eq_false hne2
            rw [← hU] at ga
            rw [← hV] at gb
            clear HK1 hab hU hV
            go_wp2
            go_quiet (fail)
            go_wp2
            go_ret
            exact ⟨by rw [HT3.out]; rfl, below_drewN HE.out _⟩
    · have HT3 := Lib.hid (show T = true from by rw [HK.out, show g = 0 by omega]; rfl)
      have hkn : ¬ ((k : Int) < (N : Int)) := by omega
      have HE := Lib.hid (A1.out.trans (HBl.out.mono hz))
      clear HK HA HB
      go_wp2
      go_ret
      exact ⟨by rw [HT3.out]; rfl, HE.out⟩
end Go.Proofs.Ytcilgihmaaobeaa
end

section
namespace Go.Proofs.Ytcilgihmaaobeaa
open Go.RowKit Go.Deep Go.Sd
set_option linter.unusedSimpArgs false
theorem OIntR.zero2 : ∀ w : World, OIntR w (.int .i64 0) 0 [] := fun _ => ⟨rfl, rfl⟩
theorem allF_snoc (f : Nat → Bool) (j : Nat) : allF f (j + 1) 0 = (allF f j 0 && f j) := by
  rw [Bool.eq_iff_iff, Bool.and_eq_true, allF_iff, allF_iff]
  refine ⟨fun h => ⟨fun i hi => h i (by omega), by simpa using h j (by omega)⟩, fun h i hi => ?_⟩
  by_cases e : i = j
  · subst e; simpa using h.2
  · exact h.1 i (by omega)
theorem rowOf_getD {S p q : Nat} {f : Nat → Int} (h1 : q < p) (h2 : p ≤ S) : ((rowOf' S f).take p).getD q 0 = f q := by
  have h : ((rowOf' S f).take p)[q]? = some (f q) := by
    rw [List.getElem?_take_of_lt h1]; exact rowOf_at (by omega)
  simp [List.getD, h]
set_option maxHeartbeats 16000000 in
set_option maxRecDepth 100000 in
theorem classes_c {w : World} {v : Value} {N S : Nat} {xs : List Arc3} (h : LabR w v ((N : Int), (S : Int), xs)) (ho : okArcs S xs) (hN : N ≤ 3) (hS1 : 1 ≤ S) (hS : S ≤ 12) :
    Calls Try.prog 42 #[v] w fun e w' => ∃ b cap, e = .returned (.slice (some ⟨b, 0, none⟩) S cap) ∧ ClR w' b S (nmb (cls xs N (clsK xs N S))) ∧ Below w.heap.size w w' := by
  have HC := Lib.hid (fun w1 (hb : Below w.heap.size w w1) (b cap k p q : Nat) (hc : ClR w1 b S (nmb (cls xs N k))) (hp : p < S) (hq : q < S) => same_c (LabR.frame _ _ _ _ h hb) ho hN hS (cap := cap) hc hp hq)
  obtain ⟨va, rfl, hlen, a, cc, rfl, _, _, _, _⟩ := h
  simp only at HC
  obtain ⟨n, hn⟩ : ∃ n, n = xs.length := ⟨_, rfl⟩
  simp only
  rw [← hn] at HC ⊢
  clear hn hlen ho
  have HK := Lib.hid (clsK_spec xs N S)
  obtain ⟨K, hK⟩ : ∃ K, K = clsK xs N S := ⟨_, rfl⟩
  rw [← hK] at HK ⊢
  clear hK
  obtain ⟨w1, e1⟩ : ∃ x, x = w.alloc (.cells #[.int .i64 N, .int .i64 S, .slice a n cc] 26) := ⟨_, rfl⟩
  have A1 := Lib.hid (show Below w.heap.size w w1 from by rw [e1]; exact (Below.refl _ _).alloc (Nat.le_refl _) _)
  have c0 : w1.cell? ⟨w.heap.size, 0, none⟩ = some (.int .i64 N) := by rw [e1]; simp [go_sem]
  have c1 : w1.cell? ⟨w.heap.size, 1, none⟩ = some (.int .i64 S) := by rw [e1]; simp [go_sem]
  have c2 : w1.cell? ⟨w.heap.size, 2, none⟩ = some (.slice a n cc) := by rw [e1]; simp [go_sem]
  have m1 : w.heap.size < w1.heap.size := by rw [e1]; simp
  have hz := A1.out.size
  have es := e1.symm
  clear e1
  go_enter Try.func42, Try.ntmps42
  go_wp2_with (first
    | (at_make; go_loud (refine wpl_make (R := OIntR) rfl (.tmp 12) (.tmp 12) 54 rfl 3 (.int .i64 0) 8 Try.underlying54 infoI rfl S (by rfl) (by rfl) (by omega) (by omega) OIntR.zero2 ?_; intro wm hzm hnm hbm; have Hnm := Lib.hid hnm; have Hbm := Lib.hid hbm; clear hnm hbm hzm))
    | fail)
  have HCl1 := Lib.hid (show ClR wm w1.heap.size S (nmb (cls xs N 0)) from by
    obtain ⟨b', c', hv, _, _, hlt, hc⟩ := Hnm.out.cellsI (by simp; exact hS1)
    have hv1 := congrArg Value.ownBlock hv
    simp only [Value.ownBlock, Option.some.injEq] at hv1
    have e : b' = w1.heap.size := hv1.symm
    subst e
    refine ⟨hlt, fun j hj => ?_⟩
    have h1 := (hc j (by simpa using hj)).1
    rw [h1]
    have h2 : nmb (cls xs N 0) j = 0 := rfl
    rw [h2]
    simp [List.getD, hj])
  have HBm := Lib.hid (show Below w1.heap.size w1 wm from Hbm.out)
  clear Hnm Hbm
  go_loopg [3] K (fun g cv wr => ∃ (k b cap : Nat), cv = .slice (some ⟨b, 0, none⟩) S cap ∧ k + g = K ∧ Hid (ClR wr b S (nmb (cls xs N k))) ∧ Hid (Below w1.heap.size w1 wr))
  case atStart => exact ⟨0, _, _, rfl, by omega, HCl1, HBm⟩
  case round =>
    clear HCl1 HBm
    obtain ⟨k, b, cap, rfl, hk, HCl, HB⟩ := hrel
    obtain ⟨wi, rfl⟩ : ∃ x, x = wr := ⟨_, rfl⟩
    have zi := HB.out.size
    have mi : w.heap.size < wi.heap.size := by omega
    have bi := HCl.out.1
    have i0 := (HB.out.cell (p := ⟨w.heap.size, 0, none⟩) m1).trans c0
    have i1 := (HB.out.cell (p := ⟨w.heap.size, 1, none⟩) m1).trans c1
    have i2 := (HB.out.cell (p := ⟨w.heap.size, 2, none⟩) m1).trans c2
    obtain ⟨E, hE⟩ : ∃ E, E = sameB xs N (cls xs N k) := ⟨_, rfl⟩
    obtain ⟨d, hd⟩ : ∃ d, d = cls xs N (k + 1) := ⟨_, rfl⟩
    have hdE : d = lst1 E := by rw [hd, hE]; rfl
    have HEq := Lib.hid (show Eqv E from by rw [hE]; exact sameB_eqv _ _ _)
    have HN1 := Lib.hid (fun p => (show nmb d p = match upF (E p) p 0 with | some q => nmb d q | none => rk d p from by rw [hdE]; exact nmb_next HEq.out p))
    have HR1 := Lib.hid (fun p => (show rk d (p + 1) = match upF (E p) p 0 with | some _ => rk d p | none => rk d p + 1 from by rw [hdE]; exact rk_next HEq.out p))
    have HC1 := Lib.hid (fun w1 (hb : Below w.heap.size w w1) (p q : Nat) (hc : ClR w1 b S (nmb (cls xs N k))) (hp : p < S) (hq : q < S) => (show Calls Try.prog 79 #[.agg #[.int .i64 N, .int .i64 S, .slice a n cc], .slice (some ⟨b, 0, none⟩) S cap, .int .i64 p, .int .i64 q] w1 fun e w' => e = .returned (.bool (E p q)) ∧ Below w1.heap.size w1 w' from by rw [hE, ← same_nmb]; exact HC.out w1 hb b cap k p q hc hp hq))
    have AWi := Lib.hid (A1.out.trans (HB.out.mono hz))
    have HD := Lib.hid hd
    obtain ⟨fn, hfn⟩ : ∃ fn : Nat → Int, fn = fun i => (nmb d i : Int) := ⟨_, rfl⟩
    have HFn := Lib.hid (fun i => show fn i = (nmb d i : Int) from by rw [hfn])
    have HQ := Lib.hid (show eqS (nmb (cls xs N k)) (nmb d) S = eqS (cls xs N k) (cls xs N (k + 1)) S from by rw [hd]; exact eqS_nmb xs N S k)
    have hS63 : (S : Int) ≤ 12 := by omega
    clear hE hd hdE HEq hfn
    go_wp2
    go_loopg [4, 5, 17] S (fun g cv mv iv wr => ∃ (p nn : Nat) (na : Option Addr) (nc : Nat), cv = .slice na nn nc ∧ mv = .int .i64 (rk d p) ∧ iv = .int .i64 p ∧ p + g = S ∧ Hid (New (OInts 3) wi.heap.size wr (.slice na nn nc) ((rowOf' S fn).take p)) ∧ Hid (Below wi.heap.size wi wr))
    case atStart => exact ⟨0, _, _, _, rfl, rfl, rfl, by omega, Lib.hid (New.empty wi (Nat.le_refl _)), Lib.hid ((Below.refl _ _).alloc (Nat.le_refl _) _)⟩
    case round =>
      obtain ⟨p, nn, na, nc, rfl, rfl, rfl, hp, HNw, HBi⟩ := hrel
      obtain ⟨wj, rfl⟩ : ∃ x, x = wr := ⟨_, rfl⟩
      have zj := HBi.out.size
      have mj : w.heap.size < wj.heap.size := by omega
      have hrk := rk_le d p
      have j0 := (HBi.out.cell (p := ⟨w.heap.size, 0, none⟩) (show w.heap.size < wi.heap.size by omega)).trans i0
      have j1 := (HBi.out.cell (p := ⟨w.heap.size, 1, none⟩) (show w.heap.size < wi.heap.size by omega)).trans i1
      have j2 := (HBi.out.cell (p := ⟨w.heap.size, 2, none⟩) (show w.heap.size < wi.heap.size by omega)).trans i2
      have hlp := Lib.hid (show ((rowOf' S fn).take p).length = p from by rw [List.length_take, rowOf_len]; omega)
      obtain rfl : nn = p := by
        obtain ⟨a', c', hv, _⟩ := HNw.out.ints.shape
        simp only [Value.slice.injEq] at hv
        rw [hv.2.1, hlp.out]
      obtain ⟨p, rfl⟩ : ∃ x, x = nn := ⟨_, rfl⟩
      by_cases hps : p < S
      · have hpi : (p : Int) < (S : Int) := by omega
        go_wp2
        go_loopg [7, 21] p (fun g fv iv wr => ∃ (q : Nat), fv = .int .i64 (-1) ∧ iv = .int .i64 q ∧ q + g = p ∧ Hid (upF (E p) p 0 = upF (E p) g q) ∧ Hid (Below wj.heap.size wj wr))
        case atStart => exact ⟨0, rfl, rfl, by omega, Lib.hid rfl, Lib.hid (Below.refl _ _)⟩
        case round =>
          obtain ⟨q, rfl, rfl, hq, HU, HBj⟩ := hrel
          obtain ⟨wq, rfl⟩ : ∃ x, x = wr := ⟨_, rfl⟩
          have zq := HBj.out.size
          have q0 := (HBj.out.cell (p := ⟨w.heap.size, 0, none⟩) (show w.heap.size < wj.heap.size by omega)).trans j0
          have q1 := (HBj.out.cell (p := ⟨w.heap.size, 1, none⟩) (show w.heap.size < wj.heap.size by omega)).trans j1
          have q2 := (HBj.out.cell (p := ⟨w.heap.size, 2, none⟩) (show w.heap.size < wj.heap.size by omega)).trans j2
          obtain ⟨g, hg⟩ : ∃ g, g = gk := ⟨_, rfl⟩
          rw [← hg] at HU hq
          have HBq := Lib.hid (HBi.out.trans (HBj.out.mono zj))
          have AWq := Lib.hid (AWi.out.trans (HBq.out.mono AWi.out.size))
          by_cases hqp : q < p
          · obtain ⟨g', rfl⟩ : ∃ t, g = t + 1 := ⟨g - 1, by omega⟩
            have HU1 := Lib.hid (show upF (E p) p 0 = if E p q = true then some q else upF (E p) g' (q + 1) from HU.out)
            have C1 := Lib.hid (HC1.out wq AWq.out p q (HCl.out.frame HBq.out) hps (by omega))
            have hqi : (q : Int) < (p : Int) := by omega
            generalize E p q = ep at HU1 C1
            clear HU
            go_wp2_with fail
            refine C1.out.mono ?_
            rintro e wc ⟨rfl, hbc⟩
            have HBc := Lib.hid (HBj.out.trans (hbc.mono zq))
            have c0' := (hbc.cell (p := ⟨w.heap.size, 0, none⟩) (show w.heap.size < wq.heap.size by omega)).trans q0
            have c1' := (hbc.cell (p := ⟨w.heap.size, 1, none⟩) (show w.heap.size < wq.heap.size by omega)).trans q1
            have c2' := (hbc.cell (p := ⟨w.heap.size, 2, none⟩) (show w.heap.size < wq.heap.size by omega)).trans q2
            have zc := HBc.out.size
            clear hbc q0 q1 q2 C1
            cases ep with
            | false =>
              have HU2 := Lib.hid (show upF (E p) p 0 = upF (E p) g' (q + 1) from HU1.out)
              clear HU1
              go_wp2
              go_roundg g'
              case measure => omega
              case rel => exact ⟨q + 1, rfl, by go_num, by omega, HU2, HBc⟩
            | true =>
              have HU2 := Lib.hid (show upF (E p) p 0 = some q from HU1.out)
              have HF := Lib.hid (show fn p = (nmb d q : Int) from by rw [HFn.out, HN1.out, HU2.out])
              have HRK := Lib.hid (show rk d (p + 1) = rk d p from by rw [HR1.out, HU2.out])
              have HNc := Lib.hid (New.keep (OInts.kept _) HNw.out HBc.out (Nat.le_refl _))
              have HBt := Lib.hid (HBi.out.trans (HBc.out.mono zj))
              obtain ⟨bn, cn, hv, _, _, hbn, hcn⟩ := HNc.out.cellsI (by rw [hlp.out]; omega)
              rw [hlp.out] at hv hcn
              simp only [Value.slice.injEq] at hv
              obtain ⟨rfl, -, rfl⟩ := hv
              have gq : wc.cell? ⟨bn, q, none⟩ = some (.int .i64 (((rowOf' S fn).take p).getD q 0)) := (hcn q hqp).1
              rw [rowOf_getD hqp (by omega), HFn.out] at gq
              generalize hfd : nmb d q = fd at gq HF
              have hf0 : ¬ ((fd : Int) < 0) := by omega
              clear HU1 hcn HBj HBq AWq hfd
              go_wp2_with (first
                | (at_builtin; refine wpl_push (w0 := wc) (lo := wi.heap.size) (y := (fd : Int)) OIntR.kept rfl (.tmp 39) (.tmp 41) 54 rfl 3 (.int .i64 0) 8 Try.underlying54 infoI rfl HNc.out (by omega) ((Below.refl _ _).alloc (Nat.le_refl _) _) ⟨[], ⟨rfl, rfl⟩, by simp [Fresh]⟩ (bb := wc.heap.size) (c := 1) (by simp) rfl rfl (by rw [hlp.out]; omega) (by rw [hlp.out]; omega) ?_; intro v3 w3 hn3 _ _ hb3; obtain ⟨ya, yn, yc, rfl⟩ := hn3.slice; have Hn3 := Lib.hid hn3; have Hb3 := Lib.hid hb3; clear hn3 hb3)
                | fail)
              have R1 := Lib.hid (show New (OInts 3) wi.heap.size w3 (.slice ya yn yc) ((rowOf' S fn).take (p + 1)) from by rw [← rowOf_take hps, HF.out]; exact Hn3.out)
              have R2 := Lib.hid (HBt.out.trans Hb3.out)
              clear HNc Hn3 Hb3
              go_roundg (S - (p + 1))
              case measure => omega
              case rel => exact ⟨p + 1, yn, ya, yc, rfl, by rw [HRK.out], by go_num, by omega, R1, R2⟩
          · have HU2 := Lib.hid (show upF (E p) p 0 = none from by rw [HU.out, show g = 0 by omega]; rfl)
            have HF := Lib.hid (show fn p = (rk d p : Int) from by rw [HFn.out, HN1.out, HU2.out])
            have HRK := Lib.hid (show rk d (p + 1) = rk d p + 1 from by rw [HR1.out, HU2.out])
            have HNc := Lib.hid (New.keep (OInts.kept _) HNw.out HBj.out (Nat.le_refl _))
            have HBt := HBq
            have zc := zq
            generalize hfd : rk d p = fd at HF HRK hrk ⊢
            have hf0 : ¬ ((fd : Int) < 0) := by omega
            have hqi : ¬ ((q : Int) < (p : Int)) := by omega
            clear HU HBj HBq AWq hfd q0 q2
            go_wp2_with (first
              | (at_builtin; refine wpl_push (w0 := wq) (lo := wi.heap.size) (y := (fd : Int)) OIntR.kept rfl (.tmp 39) (.tmp 41) 54 rfl 3 (.int .i64 0) 8 Try.underlying54 infoI rfl HNc.out (by omega) ((Below.refl _ _).alloc (Nat.le_refl _) _) ⟨[], ⟨rfl, rfl⟩, by simp [Fresh]⟩ (bb := wq.heap.size) (c := 1) (by simp) rfl rfl (by rw [hlp.out]; omega) (by rw [hlp.out]; omega) ?_; intro v3 w3 hn3 _ _ hb3; obtain ⟨ya, yn, yc, rfl⟩ := hn3.slice; have Hn3 := Lib.hid hn3; have Hb3 := Lib.hid hb3; clear hn3 hb3)
              | fail)
            have R1 := Lib.hid (show New (OInts 3) wi.heap.size w3 (.slice ya yn yc) ((rowOf' S fn).take (p + 1)) from by rw [← rowOf_take hps, HF.out]; exact Hn3.out)
            have R2 := Lib.hid (HBt.out.trans Hb3.out)
            clear HNc Hn3 Hb3
            go_roundg (S - (p + 1))
            case measure => omega
            case rel => exact ⟨p + 1, yn, ya, yc, rfl, by rw [HRK.out]; rfl, by go_num, by omega, R1, R2⟩
      · obtain rfl : p = S := by omega
        have hpi : ¬ ((p : Int) < (p : Int)) := by omega
        obtain ⟨bn, cn, hv, _, _, hbn, hcn⟩ := HNw.out.cellsI (by rw [hlp.out]; omega)
        rw [hlp.out] at hv hcn
        simp only [Value.slice.injEq] at hv
        obtain ⟨rfl, -, rfl⟩ := hv
        have HClj := Lib.hid (HCl.out.frame HBi.out)
        have HCn := Lib.hid (show ClR wj bn p (nmb d) from ⟨hbn, fun j hj => by
          have h1 : wj.cell? ⟨bn, j, none⟩ = some (.int .i64 (((rowOf' p fn).take p).getD j 0)) := (hcn j hj).1
          rw [rowOf_getD hj (Nat.le_refl _), HFn.out] at h1; exact h1⟩)
        have HBw := Lib.hid (HB.out.trans (HBi.out.mono zi))
        clear hcn HNw HCl HC1 HN1 HR1 HFn hlp hp
        go_wp2
        go_loopg [9, 46] p (fun g dv iv wr => ∃ (j : Nat), dv = .bool (allF (fun i => decide (nmb (cls xs N k) i = nmb d i)) j 0) ∧ iv = .int .i64 j ∧ j + g = p ∧ Hid (Below wj.heap.size wj wr))
        case atStart => exact ⟨0, rfl, rfl, by omega, Lib.hid (Below.refl _ _)⟩
        case round =>
          obtain ⟨j, rfl, rfl, hj, HBq⟩ := hrel
          obtain ⟨wq, rfl⟩ : ∃ x, x = wr := ⟨_, rfl⟩
          have HS := Lib.hid (allF_snoc (fun i => decide (nmb (cls xs N k) i = nmb d i)) j)
          generalize hD : allF (fun i => decide (nmb (cls xs N k) i = nmb d i)) j 0 = D at HS ⊢
          by_cases hjp : j < p
          · have gc := (HClj.out.frame HBq.out).2 j hjp
            have gn := (HCn.out.frame HBq.out).2 j hjp
            have hjpi : (j : Int) < (p : Int) := by omega
            clear hD
            cases D with
            | false =>
              have HS2 := Lib.hid (show false = allF (fun i => decide (nmb (cls xs N k) i = nmb d i)) (j + 1) 0 from by rw [HS.out]; rfl)
              clear HS gc gn
              go_wp2
              go_quiet (fail)
              go_wp2
              go_roundg (p - (j + 1))
              case measure => omega
              case rel => exact ⟨j + 1, by rw [← HS2.out], by go_num, by omega, Lib.hid (below_drewN HBq.out _)⟩
            | true =>
              by_cases hcd : nmb (cls xs N k) j = nmb d j
              · have HS2 := Lib.hid (show true = allF (fun i => decide (nmb (cls xs N k) i = nmb d i)) (j + 1) 0 from by rw [HS.out, decide_eq_true hcd]; rfl)
                rw [← hcd] at gn
                clear HS hcd
                generalize nmb (cls xs N k) j = ca at gc gn
                go_wp2
                go_quiet (fail)
                go_wp2
                go_roundg (p - (j + 1))
                case measure => omega
                case rel => exact ⟨j + 1, by rw [← HS2.out], by go_num, by omega, Lib.hid (below_drewN HBq.out _)⟩
              · have HS2 := Lib.hid (show false = allF (fun i => decide (nmb (cls xs N k) i = nmb d i)) (j + 1) 0 from by rw [HS.out, decide_eq_false hcd]; rfl)
                obtain ⟨U, hU⟩ : ∃ U : Int, U = (nmb (cls xs N k) j : Int) := ⟨_, rfl⟩
                obtain ⟨V, hV⟩ : ∃ V : Int, V = (nmb d j : Int) := ⟨_, rfl⟩
                have hne : (U == V) = false := by rw [beq_eq_false_iff_ne]; omega
                rw [← hU] at gc
                rw [← hV] at gn
                clear HS hcd hU hV
                go_wp2
                go_quiet (fail)
                go_wp2
                go_roundg (p - (j + 1))
                case measure => omega
                case rel => exact ⟨j + 1, by rw [← HS2.out], by go_num, by omega, Lib.hid (below_drewN HBq.out _)⟩
          · have hjpi : ¬ ((j : Int) < (p : Int)) := by omega
            have HDe := Lib.hid (show D = eqS (cls xs N k) (cls xs N (k + 1)) p from by rw [← HQ.out, ← hD, show j = p by omega]; rfl)
            clear HS hD
            cases D with
            | true =>
              have hkK : k = K := by
                refine Classical.byContradiction fun hn => ?_
                have h1 := HK.out.2 k (by omega)
                rw [← HDe.out] at h1; cases h1
              subst hkK
              have HR := Lib.hid (HClj.out.frame HBq.out)
              have HE := Lib.hid (AWi.out.trans ((HBi.out.trans (HBq.out.mono zj)).mono AWi.out.size))
              clear HDe HQ HK HC
              go_wp2
              go_ret
              exact ⟨b, ⟨cap, rfl⟩, HR.out, HE.out⟩
            | false =>
              have hkK : k < K := by
                refine Nat.lt_of_le_of_ne (by omega) fun hn => ?_
                have h1 := HK.out.1
                rw [← hn, ← HDe.out] at h1; cases h1
              have HR := Lib.hid (show ClR wq bn p (nmb (cls xs N (k + 1))) from by rw [← HD.out]; exact HCn.out.frame HBq.out)
              have HE := Lib.hid (HBw.out.trans (HBq.out.mono HBw.out.size))
              clear HDe HQ HK HC
              go_wp2
              go_roundg (K - (k + 1))
              case measure => omega
              case rel => exact ⟨k + 1, bn, _, rfl, by omega, HR, HE⟩
end Go.Proofs.Ytcilgihmaaobeaa
end

section
namespace Go.Proofs.Ytcilgihmaaobeaa
open Go.RowKit Go.Deep Go.Sd
def cR (c : Nat → Nat) (p q : Nat) : Bool := decide (c p = c q)
theorem cR_eqv (c : Nat → Nat) : Go.Sd.Eqv (cR c) :=
  ⟨fun p => by simp [cR], fun p q h => by simp [cR] at h ⊢; exact h.symm, fun p q r h k => by simp [cR] at h k ⊢; exact h.trans k⟩
theorem rep_cR {c : Nat → Nat} (hc : Can c) (p : Nat) : rep (cR c) p = c p := by
  refine Nat.le_antisymm (rep_min (cR_eqv c) (by simp [cR, hc.idem])) ?_
  have h := rep_rel (cR_eqv c) p
  simp only [cR, decide_eq_true_eq] at h
  rw [← h]; exact hc.le _
theorem isRep_cR {c : Nat → Nat} (hc : Can c) (p : Nat) : isRep (cR c) p = decide (c p = p) := by unfold isRep; rw [rep_cR hc]
theorem cntR_cR {c : Nat → Nat} (hc : Can c) : ∀ v, cntR (cR c) v = rk c v
  | 0 => rfl
  | v + 1 => by
    show cntR (cR c) v + (if isRep (cR c) v = true then 1 else 0) = rk c v + (if c v = v then 1 else 0)
    rw [cntR_cR hc v, isRep_cR hc]
    by_cases h : c v = v <;> simp [h]
theorem num_cR {c : Nat → Nat} (hc : Can c) (p : Nat) : num (cR c) p = nmb c p := by unfold num nmb; rw [rep_cR hc, cntR_cR hc]
theorem tgtI_tgt {L n : Nat} : ∀ {xs : List Arc3}, (∀ a, a ∈ xs → okArc L n a) → ∀ p x : Nat, tgtI xs p x = match tgt xs p x with | some q => (q : Int) | none => -1
  | [], _, _, _ => rfl
  | a :: ys, h, p, x => by
    have ha := h a (by simp)
    have ih := tgtI_tgt (xs := ys) (fun b hb => h b (List.mem_cons_of_mem _ hb)) p x
    show (if a.1 = (p : Int) ∧ a.2.2 = (x : Int) then a.2.1 else tgtI ys p x) = _
    by_cases hc : a.1 = (p : Int) ∧ a.2.2 = (x : Int)
    · have h1 : tgt (a :: ys) p x = some a.2.1.toNat := by
        unfold tgt arcAt
        rw [List.find?_cons_of_pos (by unfold isAt; simp [hc.1, hc.2])]; rfl
      rw [if_pos hc, h1]
      have h2 := ha.2.2.1
      show a.2.1 = ((a.2.1.toNat : Nat) : Int)
      omega
    · have h1 : tgt (a :: ys) p x = tgt ys p x := by
        unfold tgt arcAt
        rw [List.find?_cons_of_neg (by unfold isAt; simp only [Bool.and_eq_true, decide_eq_true_eq]; exact hc)]
      rw [if_neg hc, h1]; exact ih
def clsV (l : Lb) : Nat → Nat := cls l.2.2 l.1.toNat (clsK l.2.2 l.1.toNat l.2.1.toNat)
theorem clsV_can (l : Lb) : Can (clsV l) := cls_can _ _ _
def smV (l : Lb) : Lb := if resolvM l = true then (l.1, (rk (clsV l) l.2.1.toNat : Int), smA (cR (clsV l)) l.2.2) else (0, 0, [])
/-- The reference's arcs, one after the other. -/
def arcS (c : Nat → Nat) (xs : List Arc3) : List Arc3 := (xs.filter fun a => decide (c a.1.toNat = a.1.toNat)).map fun a => ((nmb c a.1.toNat : Int), (nmb c a.2.1.toNat : Int), a.2.2)
theorem smA_cR {c : Nat → Nat} (hc : Can c) (xs : List Arc3) : smA (cR c) xs = arcS c xs := by
  unfold smA arcS
  simp only [isRep_cR hc]
  congr 1
  funext a
  unfold smRen
  rw [num_cR hc, num_cR hc]
/-- The program's arcs, state by state, letter by letter. -/
def rowI (c : Nat → Nat) (xs : List Arc3) (N p : Nat) : List Arc3 := (List.range N).filterMap fun x : Nat => if 0 ≤ tgtI xs p x then some ((nmb c p : Int), (nmb c (tgtI xs p x).toNat : Int), (x : Int)) else none
theorem rows_smA {l : Lb} (h : resolvM l = true) : (List.range l.2.1.toNat).flatMap (fun p => if clsV l p = p then rowI (clsV l) l.2.2 l.1.toNat p else []) = smA (cR (clsV l)) l.2.2 := by
  have hc := clsV_can l
  generalize clsV l = c at hc ⊢
  have hl : isLab l = true := by unfold resolvM at h; rw [Bool.and_eq_true] at h; exact h.1
  have hL : l.1.toNat ≤ 4 := by have := isLab_ok hl; omega
  rw [← smB_eq hL (isLab_arcs hl) (resolv_sort h)]
  unfold smB
  congr 1
  funext p
  rw [isRep_cR hc]
  by_cases hp : c p = p
  · rw [if_pos hp, if_pos (by simp [hp])]
    unfold rowI smRow
    congr 1
    funext x
    rw [num_cR hc, tgtI_tgt (isLab_arcs hl)]
    cases ht : tgt l.2.2 p x with
    | none => rfl
    | some q =>
      show (if (0 : Int) ≤ (q : Int) then _ else _) = _
      rw [if_pos (by omega)]
      simp [num_cR hc]
  · rw [if_neg hp, if_neg (by simp [hp])]
end Go.Proofs.Ytcilgihmaaobeaa
end
