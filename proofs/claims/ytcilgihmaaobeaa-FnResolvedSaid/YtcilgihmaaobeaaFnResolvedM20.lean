/-
  Texts of this claim joined: laws for its walks, contracts of the functions that the law reaches.
-/
import Derived.Test.YtcilgihmaaobeaaFnResolvedM16
import Derived.Test.YtcilgihmaaobeaaFnResolvedM19
set_option linter.unusedVariables false
set_option linter.unusedSimpArgs false
section
namespace Go.Proofs.Ytcilgihmaaobeaa
open Go.RowKit Go.Deep Go.Sd
set_option linter.unusedSimpArgs false
def nrC (c : Nat → Nat) (k i : Nat) : Int := if i < k ∧ c i = i then (rk c i : Int) else 0
theorem nrC_skip {c : Nat → Nat} {k : Nat} (h : c k ≠ k) (j : Nat) : nrC c k j = nrC c (k + 1) j := by
  unfold nrC
  by_cases e : j = k
  · subst e; rw [if_neg (by omega), if_neg (by omega)]
  · by_cases h2 : j < k ∧ c j = j
    · rw [if_pos h2, if_pos ⟨by omega, h2.2⟩]
    · rw [if_neg h2, if_neg (by omega)]
theorem nrC_take {c : Nat → Nat} {k : Nat} (h : c k = k) (j : Nat) : (if j = k then (rk c k : Int) else nrC c k j) = nrC c (k + 1) j := by
  unfold nrC
  by_cases e : j = k
  · subst e; rw [if_pos rfl, if_pos ⟨by omega, h⟩]
  · rw [if_neg e]
    by_cases h2 : j < k ∧ c j = j
    · rw [if_pos h2, if_pos ⟨by omega, h2.2⟩]
    · rw [if_neg h2, if_neg (by omega)]
theorem arcS_snoc (c : Nat → Nat) (ys : List Arc3) (a : Arc3) : arcS c (ys ++ [a]) = arcS c ys ++ (if c a.1.toNat = a.1.toNat then [((nmb c a.1.toNat : Int), (nmb c a.2.1.toNat : Int), a.2.2)] else []) := by
  unfold arcS
  rw [List.filter_append, List.map_append]
  congr 1
  by_cases h : c a.1.toNat = a.1.toNat <;> simp [h]
set_option maxHeartbeats 8000000 in
set_option maxRecDepth 100000 in
theorem spec_SmallestLabels_c {w : World} {v : Value} {l : Lb} (h : LabR w v l) :
    Calls Try.prog 11 #[v] w (Makes2 OLab w (smV l) (resolvM l)) := by
  have H1 := Lib.hid (fun w1 (hb : Below w.heap.size w w1) => spec_IsResolving_c (LabR.frame _ _ _ _ h hb))
  have Hfr := Lib.hid (fun w1 (hb : Below w.heap.size w w1) => LabR.frame _ _ _ _ h hb)
  have HV := Lib.hid (show smV l = if resolvM l = true then (l.1, (rk (clsV l) l.2.1.toNat : Int), smA (cR (clsV l)) l.2.2) else (0, 0, []) from rfl)
  have Hok := Lib.hid (fun (hr : resolvM l = true) => (⟨isLab_ok (resolvM_lab hr), rows_smA hr, isLab_len (resolvM_lab hr)⟩ : (okArcs l.2.1 l.2.2 ∧ 1 ≤ l.2.1 ∧ l.2.1 ≤ 12 ∧ 1 ≤ l.1 ∧ l.1 ≤ 3) ∧ (List.range l.2.1.toNat).flatMap (fun p => if clsV l p = p then rowI (clsV l) l.2.2 l.1.toNat p else []) = smA (cR (clsV l)) l.2.2 ∧ l.2.2.length ≤ 768))
  have HCan := Lib.hid (clsV_can l)
  have HCl := Lib.hid (show clsV l = cls l.2.2 l.1.toNat (clsK l.2.2 l.1.toNat l.2.1.toNat) from rfl)
  generalize smV l = V at HV ⊢
  generalize resolvM l = il at H1 HV Hok ⊢
  generalize clsV l = c at HV Hok HCan HCl
  obtain ⟨L, S, xs⟩ := l
  obtain ⟨va, rfl, hlen, a, cc, rfl, _, _, _, hcell⟩ := h
  simp only at *
  generalize hn : xs.length = n at *
  have Hn := Lib.hid hn.symm
  clear hn
  obtain ⟨wA, eA, hA0⟩ : ∃ wA, wA = (w.alloc (.cells #[.int .i64 L, .int .i64 S, .slice a n cc] 26)).alloc (.cells #[.int .i64 0, .int .i64 0, .slice none 0 0] 26) ∧ Below w.heap.size w wA := ⟨_, rfl, ((Below.refl _ _).alloc (Nat.le_refl _) _).alloc (by simp) _⟩
  have zA : wA.heap.size = w.heap.size + 1 + 1 := by rw [eA]; simp
  have l0 : wA.cell? ⟨w.heap.size, 0, none⟩ = some (.int .i64 L) := by rw [eA]; simp [go_sem]
  have l1 : wA.cell? ⟨w.heap.size, 1, none⟩ = some (.int .i64 S) := by rw [eA]; simp [go_sem]
  have l2 : wA.cell? ⟨w.heap.size, 2, none⟩ = some (.slice a n cc) := by rw [eA]; simp [go_sem]
  have r0 : wA.cell? ⟨w.heap.size + 1, 0, none⟩ = some (.int .i64 0) := by rw [eA]; simp [go_sem]
  have r1 : wA.cell? ⟨w.heap.size + 1, 1, none⟩ = some (.int .i64 0) := by rw [eA]; simp [go_sem]
  have r2 : wA.cell? ⟨w.heap.size + 1, 2, none⟩ = some (.slice none 0 0) := by rw [eA]; simp [go_sem]
  have t0 : wA.frozen? ⟨w.heap.size + 1, 0, none⟩ = false := by rw [eA]; simp [go_sem]
  have t1 : wA.frozen? ⟨w.heap.size + 1, 1, none⟩ = false := by rw [eA]; simp [go_sem]
  have t2 : wA.frozen? ⟨w.heap.size + 1, 2, none⟩ = false := by rw [eA]; simp [go_sem]
  have HA := Lib.hid hA0
  have eW := eA.symm
  have h1A : w.heap.size + 1 < wA.heap.size := by omega
  have h0A : w.heap.size < wA.heap.size := by omega
  clear eA hA0 zA
  go_enter Try.func11, Try.ntmps11
  go_wp2_with fail
  refine (H1.out _ HA.out).mono ?_
  rintro e w1 ⟨rfl, hb1⟩
  replace l0 := (hb1.cell (p := ⟨w.heap.size, 0, none⟩) h0A).trans l0
  replace l1 := (hb1.cell (p := ⟨w.heap.size, 1, none⟩) h0A).trans l1
  replace l2 := (hb1.cell (p := ⟨w.heap.size, 2, none⟩) h0A).trans l2
  replace r0 := (hb1.cell (p := ⟨w.heap.size + 1, 0, none⟩) h1A).trans r0
  replace t0 := (hb1.frozen (p := ⟨w.heap.size + 1, 0, none⟩) h1A).trans t0
  replace r1 := (hb1.cell (p := ⟨w.heap.size + 1, 1, none⟩) h1A).trans r1
  replace t1 := (hb1.frozen (p := ⟨w.heap.size + 1, 1, none⟩) h1A).trans t1
  replace r2 := (hb1.cell (p := ⟨w.heap.size + 1, 2, none⟩) h1A).trans r2
  replace t2 := (hb1.frozen (p := ⟨w.heap.size + 1, 2, none⟩) h1A).trans t2
  have A1 := Lib.hid (HA.out.trans (hb1.mono HA.out.size))
  have h1w : w.heap.size + 1 < w1.heap.size := Nat.lt_of_lt_of_le h1A hb1.size
  have h0w : w.heap.size < w1.heap.size := Nat.lt_of_lt_of_le h0A hb1.size
  clear eW hb1 H1 HA h1A h0A
  cases il with
  | false =>
    have HW := Lib.hid (show V = (0, 0, []) from by rw [HV.out]; rfl)
    clear HV Hok HCl
    go_wp2
    have s0 := World.cell?_setCell_same w1 _ (.int .i64 0) r0
    have u1 := (World.cell?_setCell_other _ ⟨w.heap.size + 1, 0, none⟩ _ (.int .i64 0) (by simp)).trans r1
    have s1 := World.cell?_setCell_same _ _ (.int .i64 0) u1
    have u2 := (World.cell?_setCell_other _ ⟨w.heap.size + 1, 1, none⟩ _ (.int .i64 0) (by simp)).trans ((World.cell?_setCell_other _ ⟨w.heap.size + 1, 0, none⟩ _ (.int .i64 0) (by simp)).trans r2)
    have s2 := World.cell?_setCell_same _ _ (.slice none 0 0) u2
    refine bodyPost_ret (v := .tuple #[.agg #[.int .i64 0, .int .i64 0, .slice none 0 0], .bool false]) (by simp [results, Try.results11, go_sem, s0, s1, s2]) rfl ?_
    exact ⟨_, rfl, by rw [HW.out]; exact New.lab0, (((A1.out.setCell (p := ⟨w.heap.size + 1, 0, none⟩) (by simp) _).setCell (p := ⟨w.heap.size + 1, 1, none⟩) (by simp) _).setCell (p := ⟨w.heap.size + 1, 2, none⟩) (by simp) _)⟩
  | true =>
  obtain ⟨⟨ho, hS1, hS2, hL1, hL2⟩, hrows, hlen768⟩ := Hok.out (by first | rfl | trivial)
  obtain ⟨p, rfl⟩ := Int.eq_ofNat_of_zero_le (show 0 ≤ S by omega)
  obtain ⟨N, rfl⟩ := Int.eq_ofNat_of_zero_le (show 0 ≤ L by omega)
  have HW := Lib.hid (show V = ((N : Int), (rk c p : Int), arcS c xs) from by rw [HV.out, ← smA_cR HCan.out]; rfl)
  have Ho := Lib.hid ho
  have HC1 := Lib.hid (fun w1 (hb : Below w.heap.size w w1) => (show Calls Try.prog 44 #[.agg #[.int .i64 N, .int .i64 p, .slice a n cc]] w1 fun e w' => ∃ b cap, e = .returned (.slice (some ⟨b, 0, none⟩) p cap) ∧ ClR w' b p c ∧ Below w1.heap.size w1 w' from by rw [HCl.out]; exact l15Classes_c (Hfr.out w1 hb) ho (by omega) (by omega) (by omega)))
  have R0 := Lib.hid r0
  have R1 := Lib.hid r1
  have R2 := Lib.hid r2
  have F0 := Lib.hid t0
  have F1 := Lib.hid t1
  have F2 := Lib.hid t2
  have hp0 : 0 < p := by omega
  clear HV Hok HCl Hfr ho hrows r0 r1 r2 t0 t1 t2
  go_wp2_with fail
  refine (HC1.out _ A1.out).mono ?_
  rintro e w3 ⟨b, cap, rfl, hcl, hb3⟩
  replace l0 := (hb3.cell (p := ⟨w.heap.size, 0, none⟩) h0w).trans l0
  replace l1 := (hb3.cell (p := ⟨w.heap.size, 1, none⟩) h0w).trans l1
  replace l2 := (hb3.cell (p := ⟨w.heap.size, 2, none⟩) h0w).trans l2
  replace R0 := Lib.hid ((hb3.cell (p := ⟨w.heap.size + 1, 0, none⟩) h1w).trans R0.out)
  replace R1 := Lib.hid ((hb3.cell (p := ⟨w.heap.size + 1, 1, none⟩) h1w).trans R1.out)
  replace R2 := Lib.hid ((hb3.cell (p := ⟨w.heap.size + 1, 2, none⟩) h1w).trans R2.out)
  replace F0 := Lib.hid ((hb3.frozen (p := ⟨w.heap.size + 1, 0, none⟩) h1w).trans F0.out)
  replace F1 := Lib.hid ((hb3.frozen (p := ⟨w.heap.size + 1, 1, none⟩) h1w).trans F1.out)
  replace F2 := Lib.hid ((hb3.frozen (p := ⟨w.heap.size + 1, 2, none⟩) h1w).trans F2.out)
  have A3 := Lib.hid (A1.out.trans (hb3.mono A1.out.size))
  replace h1w : w.heap.size + 1 < w3.heap.size := Nat.lt_of_lt_of_le h1w hb3.size
  replace h0w : w.heap.size < w3.heap.size := by omega
  have Hcl := Lib.hid hcl
  have bw := hcl.1
  clear hcl hb3 HC1
  go_wp2_with (first
    | (at_make; refine wpl_make (R := OIntR) rfl (.tmp 17) (.tmp 17) 54 rfl 3 (.int .i64 0) 8 Try.underlying54 infoI rfl p (by rfl) (by rfl) (by omega) (by omega) OIntR.zero2 ?_; intro wm hzm hnm hbm; have Hnm := Lib.hid hnm; have Hbm := Lib.hid hbm; have l0 := (hbm.cell (p := ⟨w.heap.size, 0, none⟩) h0w).trans l0; clear hnm hbm)
    | fail)
  obtain ⟨wB, eB, hbB, o0, o1, o2, mB⟩ := boxA3_ex wm 26 (.int .i64 N) (.int .i64 0) (.slice none 0 0)
  have f1 : wB.frozen? ⟨wm.heap.size, 1, none⟩ = false := by rw [← eB]; simp [go_sem]
  have f2 : wB.frozen? ⟨wm.heap.size, 2, none⟩ = false := by rw [← eB]; simp [go_sem]
  have f0 : wB.frozen? ⟨wm.heap.size, 0, none⟩ = false := by rw [← eB]; simp [go_sem]
  rw [hzm] at o0 o1 o2 f0 f1 f2 mB
  rw [eB]
  have HC0 := Lib.hid (show CellsI wB w3.heap.size p (nrC c 0) from by
    obtain ⟨b', c', hv, _, _, hlt, hc⟩ := Hnm.out.cellsI (by simp; exact hp0)
    have hv1 := congrArg Value.ownBlock hv
    simp only [Value.ownBlock, Option.some.injEq] at hv1
    have e : b' = w3.heap.size := hv1.symm
    subst e
    rw [List.length_replicate] at hc
    exact (hc.congr (fun j hj => by simp [nrC, List.getD, hj])).keep hbB hlt)
  have HB0 := Lib.hid (show Below w3.heap.size w3 wB from Hbm.out.trans (hbB.mono (by omega)))
  have HX0 := Lib.hid (show Cells wB (w3.heap.size + 1) [.int .i64 N, .int .i64 (rk c 0 : Nat), .slice none 0 0] from ⟨mB, fun j u hu => by
    match j, hu with
    | 0, hu => simp at hu; subst hu; exact ⟨o0, f0⟩
    | 1, hu => simp at hu; subst hu; exact ⟨o1, f1⟩
    | 2, hu => simp at hu; subst hu; exact ⟨o2, f2⟩⟩)
  have LL1 := Lib.hid l1
  have LL2 := Lib.hid l2
  clear Hnm Hbm hbB eB hzm l0 l1 l2 o0 o1 o2 f0 f1 f2 mB
  go_loopg [7] p (fun g i wr => ∃ (k : Nat), i = .int .i64 k ∧ k + g = p ∧ Hid (CellsI wr w3.heap.size p (nrC c k)) ∧ Hid (Cells wr (w3.heap.size + 1) [.int .i64 N, .int .i64 (rk c k : Nat), .slice none 0 0]) ∧ Hid (Below w3.heap.size w3 wr))
  case atStart => exact ⟨0, rfl, by omega, HC0, HX0, HB0⟩
  case round =>
    clear HC0 HX0 HB0
    obtain ⟨k, rfl, hk, HC, HX, HB⟩ := hrel
    obtain ⟨wl, rfl⟩ : ∃ x, x = wr := ⟨_, rfl⟩
    have zl := HB.out.size
    have l1 := (HB.out.cell (p := ⟨w.heap.size, 1, none⟩) h0w).trans LL1.out
    have mX := HX.out.1
    have o1 := (HX.out.2 1 _ rfl).1
    have o1f := (HX.out.2 1 _ rfl).2
    have hrk := rk_le c k
    by_cases hkp : k < p
    · have hki : (k : Int) < (p : Int) := by omega
      have gc := (HB.out.cell (p := ⟨b, k, none⟩) bw).trans (Hcl.out.2 k hkp)
      by_cases hrep : c k = k
      · obtain ⟨n1, n2⟩ := HC.out k hkp
        have HR1 := Lib.hid (show rk c (k + 1) = rk c k + 1 from by show rk c k + (if c k = k then 1 else 0) = _; rw [if_pos hrep])
        have HC2 := Lib.hid (show CellsI ((wl.setCell ⟨w3.heap.size, k, none⟩ (.int .i64 (rk c k))).setCell ⟨w3.heap.size + 1, 1, none⟩ (.int .i64 ((rk c k : Int) + 1))) w3.heap.size p (nrC c (k + 1)) from ((HC.out.set hkp (rk c k : Int)).congr fun j _ => nrC_take hrep j).other (by simp) _)
        have hX1 : Cells (wl.setCell ⟨w3.heap.size, k, none⟩ (.int .i64 (rk c k))) (w3.heap.size + 1) [.int .i64 N, .int .i64 (rk c k : Nat), .slice none 0 0] := ⟨by simp; exact mX, fun j u hu => ⟨(World.cell?_setCell_other _ _ _ _ (by simp)).trans (HX.out.2 j u hu).1, (World.frozen?_setCell _ _ _ _).trans (HX.out.2 j u hu).2⟩⟩
        have HX2 := Lib.hid (show Cells ((wl.setCell ⟨w3.heap.size, k, none⟩ (.int .i64 (rk c k))).setCell ⟨w3.heap.size + 1, 1, none⟩ (.int .i64 ((rk c k : Int) + 1))) (w3.heap.size + 1) [.int .i64 N, .int .i64 ((rk c k : Int) + 1), .slice none 0 0] from hX1.store rfl _)
        have HB2 := Lib.hid ((HB.out.setCell (p := ⟨w3.heap.size, k, none⟩) (Nat.le_refl _) (.int .i64 (rk c k))).setCell (p := ⟨w3.heap.size + 1, 1, none⟩) (by simp) (.int .i64 ((rk c k : Int) + 1)))
        rw [hrep] at gc
        generalize rk c k = q at *
        clear HC HX HB hrep hX1
        go_wp2
        go_roundg (p - (k + 1))
        case measure => omega
        case rel => exact ⟨k + 1, by go_num, by omega, HC2, Lib.hid (by rw [HR1.out]; exact HX2.out), HB2⟩
      · have HR1 := Lib.hid (show rk c (k + 1) = rk c k from by show rk c k + (if c k = k then 1 else 0) = _; rw [if_neg hrep]; rfl)
        have HC2 := Lib.hid (show CellsI wl w3.heap.size p (nrC c (k + 1)) from HC.out.congr fun j _ => nrC_skip hrep j)
        have hne : ((c k : Int) == (k : Int)) = false := by rw [beq_eq_false_iff_ne]; omega
        generalize c k = q at *
        clear HC hrep o1 o1f
        go_wp2
        go_roundg (p - (k + 1))
        case measure => omega
        case rel => exact ⟨k + 1, by go_num, by omega, HC2, Lib.hid (by rw [HR1.out]; exact HX.out), HB⟩
    · obtain rfl : k = p := by omega
      have hki : ¬ ((k : Int) < (k : Int)) := by omega
      have hSep0 : Sep (w3.heap.size + 1) wl [Res.box (w3.heap.size + 1) [.int .i64 N, .int .i64 (rk c k : Nat), .slice none 0 0], Res.row 59 3 acell (.slice none 0 0) (arcS c (xs.take 0))] := ⟨[w3.heap.size + 1] ++ ([] ++ []), ⟨[w3.heap.size + 1], [] ++ [], rfl, ⟨rfl, HX.out⟩, ⟨[], [], rfl, ⟨World.ownsRow_nil _ _ _ _, rfl⟩, rfl⟩⟩, by simp [Fresh]⟩
      have HS0 := Lib.hid hSep0
      have HBL := Lib.hid HB.out
      have HCC := Lib.hid HC.out
      generalize hct : rk c k = ct at *
      have Hct := Lib.hid hct
      clear hSep0 HX HC HB o1 o1f hct hrk
      go_wp2
      go_loopg [8] n (fun g i wr => ∃ (j : Nat) (ya : Option Addr) (yn yc : Nat), i = .int .i64 j ∧ j + g = n ∧ Hid (Sep (w3.heap.size + 1) wr [Res.box (w3.heap.size + 1) [.int .i64 N, .int .i64 (ct : Nat), .slice ya yn yc], Res.row 59 3 acell (.slice ya yn yc) (arcS c (xs.take j))]) ∧ Hid (Below (w3.heap.size + 1) wl wr))
      case atStart => exact ⟨0, _, _, _, rfl, by omega, HS0, Lib.hid (Below.refl _ _)⟩
      case round =>
        clear HS0 l1
        obtain ⟨j, ya, yn, yc, rfl, hj, HS, HB⟩ := hrel
        obtain ⟨wk, rfl⟩ : ∃ x, x = wr := ⟨_, rfl⟩
        have zk := HB.out.size
        have HBw := Lib.hid (HBL.out.trans (HB.out.mono (by omega)))
        have l2 := (HBw.out.cell (p := ⟨w.heap.size, 2, none⟩) h0w).trans LL2.out
        by_cases hltj : j < n
        · obtain ⟨x, hx, _⟩ := at_lt (xs := xs) (k := j) (by have := Hn.out; omega)
          have HT := Lib.hid (show xs.take (j + 1) = xs.take j ++ [x] from (take_snoc' hx).symm)
          obtain ⟨ab, ao, rfl, hab, hx0⟩ := hcell (by omega)
          obtain ⟨g0, g1, g2⟩ := hx0 j x hx
          obtain ⟨i0, i1, i2, i3⟩ := okArcs_at Ho.out hx
          clear hx0 hx hcell
          obtain ⟨x0, x1, x2⟩ := x
          simp only at g0 g1 g2 i0 i1 i2 i3
          obtain ⟨p0, rfl⟩ := Int.eq_ofNat_of_zero_le i0
          obtain ⟨p1, rfl⟩ := Int.eq_ofNat_of_zero_le i2
          have hkn : (j : Int) < (n : Int) := by omega
          have hk0 : (p0 : Int) < (k : Int) := by omega
          have hk1 : (p1 : Int) < (k : Int) := by omega
          have up : ∀ (o : Nat) (b' : Nat) u, b' < w.heap.size → w.cell? ⟨b', o, none⟩ = some u → wk.cell? ⟨b', o, none⟩ = some u := fun o b' u hb' hu => (HBw.out.cell (p := ⟨b', o, none⟩) (show b' < w3.heap.size from Nat.lt_of_lt_of_le hb' A3.out.size)).trans ((A3.out.cell (p := ⟨b', o, none⟩) hb').trans hu)
          replace g0 := up _ _ _ hab g0
          replace g1 := up _ _ _ hab g1
          replace g2 := up _ _ _ hab g2
          have e0 := (HBw.out.cell (p := ⟨b, p0, none⟩) bw).trans (Hcl.out.2 p0 (by omega))
          have e1 := (HBw.out.cell (p := ⟨b, p1, none⟩) bw).trans (Hcl.out.2 p1 (by omega))
          have hq1 : c p1 < k := by have := HCan.out.le p1; omega
          have n0 := (HB.out.cell (p := ⟨w3.heap.size, p0, none⟩) (by simp)).trans (HCC.out p0 (by omega)).1
          have n1 := (HB.out.cell (p := ⟨w3.heap.size, c p1, none⟩) (by simp)).trans (HCC.out (c p1) hq1).1
          have hY1 : nrC c k (c p1) = (nmb c p1 : Int) := by unfold nrC; rw [if_pos ⟨hq1, HCan.out.idem p1⟩]; rfl
          have HA := Lib.hid (arcS_snoc c (xs.take j) ((p0 : Int), (p1 : Int), x2))
          have hSk := HS.out.boxNew (by omega) [.int .i64 p0, .int .i64 p1, .int .i64 x2] 59
          obtain ⟨w1, ex, hb1, _, _, _, m1⟩ := boxA3_ex wk 59 (.int .i64 p0) (.int .i64 p1) (.int .i64 x2)
          have HS1 := Lib.hid (show Sep (w3.heap.size + 1) w1 [Res.box wk.heap.size [.int .i64 p0, .int .i64 p1, .int .i64 x2], Res.box (w3.heap.size + 1) [.int .i64 N, .int .i64 (ct : Nat), .slice ya yn yc], Res.row 59 3 acell (.slice ya yn yc) (arcS c (xs.take j))] from by rw [← ex]; exact hSk)
          have HB1 := Lib.hid (HB.out.trans (hb1.mono (by omega)))
          have mb : b < wk.heap.size := by omega
          have mn : w3.heap.size < wk.heap.size := by have := (HS.out.headBox).2.1; omega
          replace e0 := (hb1.cell (p := ⟨b, p0, none⟩) mb).trans e0
          replace e1 := (hb1.cell (p := ⟨b, p1, none⟩) mb).trans e1
          replace n0 := (hb1.cell (p := ⟨w3.heap.size, p0, none⟩) mn).trans n0
          replace n1 := (hb1.cell (p := ⟨w3.heap.size, c p1, none⟩) mn).trans n1
          have hbx := HS1.out.headBox.2
          have k0 := (hbx.2 0 _ rfl).1
          have k1 := (hbx.2 1 _ rfl).1
          have k2 := (hbx.2 2 _ rfl).1
          have z1 := hb1.size
          clear up HS HB hSk hb1 hbx HBw
          by_cases hrep : c p0 = p0
          · obtain ⟨Y0, hY0⟩ : ∃ Y : Int, Y = nrC c k p0 := ⟨_, rfl⟩
            obtain ⟨Y1, hY1'⟩ : ∃ Y : Int, Y = nrC c k (c p1) := ⟨_, rfl⟩
            have hE0 : Y0 = (nmb c p0 : Int) := by rw [hY0]; unfold nrC nmb; rw [if_pos ⟨by omega, hrep⟩, hrep]
            have HA2 := Lib.hid (show arcS c (xs.take (j + 1)) = arcS c (xs.take j) ++ [(Y0, Y1, x2)] from by rw [HT.out, HA.out, if_pos (by simpa using hrep), hE0, hY1', hY1]; simp)
            rw [← hY0] at n0
            rw [← hY1'] at n1
            rw [hrep] at e0
            have hqk : (c p1 : Int) < (k : Int) := by omega
            have hll := Lib.hid (show (arcS c (xs.take j)).length ≤ 768 from by unfold arcS; rw [List.length_map]; exact Nat.le_trans (List.length_filter_le _ _) (by rw [List.length_take]; omega))
            generalize c p1 = q1 at *
            clear HA HT hY0 hY1' hE0 hY1 hrep
            go_wp2
            go_quiet (fail)
            obtain ⟨wd, hwd⟩ : ∃ x, x = w1.drewN nq := ⟨_, rfl⟩
            have hbd : Below w1.heap.size w1 wd := by rw [hwd]; exact below_drewN (Below.refl _ _) _
            rw [← hwd]
            clear hwd
            have zd := hbd.size
            have ALW : wk.heap.size < wd.heap.size ∧ b < wd.heap.size ∧ w3.heap.size < wd.heap.size ∧ w3.heap.size + 1 < wd.heap.size := by have := HS1.out.swap.headBox.2.1; omega
            obtain ⟨mwk, mwb, mw3, mw4⟩ := ALW
            have B1 := ((Below.refl wd.heap.size wd).alloc (Nat.le_refl _) (.cells #[.int .i64 Y0, .int .i64 Y1, .int .i64 x2] 59)).drew
            have HSd := HS1.out.below hbd (Nat.le_refl _)
            obtain ⟨v', w2, hr, hs2, hb2⟩ := HSd.third.pushG (P := Try.prog) acell_lay 24 24 (.agg #[.int .i64 0, .int .i64 0, .int .i64 0]) 24 Try.underlying24 infoA rfl (by omega) (w1 := ((wd.alloc (.cells #[.int .i64 Y0, .int .i64 Y1, .int .i64 x2] 59)).drew)) B1 (Y0, Y1, x2) (bb := wd.heap.size) 1
              (by
                intro i u hu
                match i, hu with
                | 0, hu => simp [acell] at hu; subst hu; simp [go_sem]
                | 1, hu => simp [acell] at hu; subst hu; simp [go_sem]
                | 2, hu => simp [acell] at hu; subst hu; simp [go_sem]) (by have := hll.out; omega) (by have := hll.out; omega)
            obtain ⟨za, zn, zc, rfl⟩ : ∃ a n c, v' = .slice a n c := hs2.headNew.imp (fun F hF => hF.1) |> fun h => by obtain ⟨F, hF⟩ := h; obtain ⟨a, c, e⟩ := RowG.slice hF; exact ⟨a, _, c, e⟩
            have d2 := (HSd.swap.headBox.2.2 2 _ rfl).1
            have d3 := (hbd.cell (p := ⟨wk.heap.size, 0, none⟩) m1).trans k0
            have d4 := (hbd.cell (p := ⟨wk.heap.size, 1, none⟩) m1).trans k1
            have d5 := (hbd.cell (p := ⟨wk.heap.size, 2, none⟩) m1).trans k2
            have d6 := (hbd.cell (p := ⟨w3.heap.size, p0, none⟩) (show w3.heap.size < w1.heap.size by omega)).trans n0
            have d7 := (hbd.cell (p := ⟨b, p1, none⟩) (show b < w1.heap.size by omega)).trans e1
            have d8 := (hbd.cell (p := ⟨w3.heap.size, q1, none⟩) (show w3.heap.size < w1.heap.size by omega)).trans n1
            have hbx := hs2.third.headBox.2
            have hc2 := (hbx.2 2 _ rfl).1
            have hf2 := (hbx.2 2 _ rfl).2
            have hst := hs2.third.boxStore (by have := hb2.size; omega) (j := 2) rfl (.slice za zn zc)
            have HST := Lib.hid (show Sep (w3.heap.size + 1) (w2.setCell ⟨w3.heap.size + 1, 2, none⟩ (.slice za zn zc)) [Res.box (w3.heap.size + 1) [.int .i64 N, .int .i64 (ct : Nat), .slice za zn zc], Res.row 59 3 acell (.slice za zn zc) (arcS c (xs.take (j + 1)))] from by rw [HA2.out]; exact hst.third.tail)
            have HBs := Lib.hid (((HB1.out.trans (hbd.mono (by omega))).trans (hb2.mono (by omega))).setCell (p := ⟨w3.heap.size + 1, 2, none⟩) (Nat.le_refl _) (.slice za zn zc))
            have Hr := Lib.hid hr
            have hSd : wd.drew.cell? ⟨w3.heap.size + 1, 2, none⟩ = some (.slice ya yn yc) ∧ wd.drew.cell? ⟨wk.heap.size, 0, none⟩ = some (.int .i64 p0) ∧ wd.drew.cell? ⟨wk.heap.size, 1, none⟩ = some (.int .i64 p1) ∧ wd.drew.cell? ⟨wk.heap.size, 2, none⟩ = some (.int .i64 x2) ∧ wd.drew.cell? ⟨w3.heap.size, p0, none⟩ = some (.int .i64 Y0) ∧ wd.drew.cell? ⟨b, p1, none⟩ = some (.int .i64 q1) ∧ wd.drew.cell? ⟨w3.heap.size, q1, none⟩ = some (.int .i64 Y1) := ⟨d2, d3, d4, d5, d6, d7, d8⟩
            have hS1 : ((wd.alloc (.cells #[.int .i64 Y0, .int .i64 Y1, .int .i64 x2] 59)).drew).cell? ⟨w3.heap.size + 1, 2, none⟩ = some (.slice ya yn yc) ∧ ((wd.alloc (.cells #[.int .i64 Y0, .int .i64 Y1, .int .i64 x2] 59)).drew).cell? ⟨wk.heap.size, 0, none⟩ = some (.int .i64 p0) ∧ ((wd.alloc (.cells #[.int .i64 Y0, .int .i64 Y1, .int .i64 x2] 59)).drew).cell? ⟨wk.heap.size, 1, none⟩ = some (.int .i64 p1) ∧ ((wd.alloc (.cells #[.int .i64 Y0, .int .i64 Y1, .int .i64 x2] 59)).drew).cell? ⟨wk.heap.size, 2, none⟩ = some (.int .i64 x2) ∧ ((wd.alloc (.cells #[.int .i64 Y0, .int .i64 Y1, .int .i64 x2] 59)).drew).cell? ⟨w3.heap.size, p0, none⟩ = some (.int .i64 Y0) ∧ ((wd.alloc (.cells #[.int .i64 Y0, .int .i64 Y1, .int .i64 x2] 59)).drew).cell? ⟨b, p1, none⟩ = some (.int .i64 q1) ∧ ((wd.alloc (.cells #[.int .i64 Y0, .int .i64 Y1, .int .i64 x2] 59)).drew).cell? ⟨w3.heap.size, q1, none⟩ = some (.int .i64 Y1) := ⟨(B1.cell (p := ⟨w3.heap.size + 1, 2, none⟩) mw4).trans d2, (B1.cell (p := ⟨wk.heap.size, 0, none⟩) mwk).trans d3, (B1.cell (p := ⟨wk.heap.size, 1, none⟩) mwk).trans d4, (B1.cell (p := ⟨wk.heap.size, 2, none⟩) mwk).trans d5, (B1.cell (p := ⟨w3.heap.size, p0, none⟩) mw3).trans d6, (B1.cell (p := ⟨b, p1, none⟩) mwb).trans d7, (B1.cell (p := ⟨w3.heap.size, q1, none⟩) mw3).trans d8⟩
            have hbw := hs2.swap.headBox.2
            have hS2 : w2.cell? ⟨w3.heap.size + 1, 2, none⟩ = some (.slice ya yn yc) ∧ w2.cell? ⟨wk.heap.size, 0, none⟩ = some (.int .i64 p0) ∧ w2.cell? ⟨wk.heap.size, 1, none⟩ = some (.int .i64 p1) ∧ w2.cell? ⟨wk.heap.size, 2, none⟩ = some (.int .i64 x2) ∧ w2.cell? ⟨w3.heap.size, p0, none⟩ = some (.int .i64 Y0) ∧ w2.cell? ⟨b, p1, none⟩ = some (.int .i64 q1) ∧ w2.cell? ⟨w3.heap.size, q1, none⟩ = some (.int .i64 Y1) := ⟨hc2, (hbw.2 0 _ rfl).1, (hbw.2 1 _ rfl).1, (hbw.2 2 _ rfl).1, (hb2.cell (p := ⟨w3.heap.size, p0, none⟩) (Nat.lt_succ_self _)).trans d6, (hb2.cell (p := ⟨b, p1, none⟩) (show b < w3.heap.size + 1 by omega)).trans d7, (hb2.cell (p := ⟨w3.heap.size, q1, none⟩) (Nat.lt_succ_self _)).trans d8⟩
            clear HSd B1 hbw hr hs2 hb2 hbx hst hbd HS1 HB1 k0 k1 k2 e1 n0 n1 hll
            go_wp2
            refine wp_region_L (fun w' => w'.cell? ⟨w3.heap.size + 1, 2, none⟩ = some (.slice ya yn yc) ∧ w'.cell? ⟨wk.heap.size, 0, none⟩ = some (.int .i64 p0) ∧ w'.cell? ⟨wk.heap.size, 1, none⟩ = some (.int .i64 p1) ∧ w'.cell? ⟨wk.heap.size, 2, none⟩ = some (.int .i64 x2) ∧ w'.cell? ⟨w3.heap.size, p0, none⟩ = some (.int .i64 Y0) ∧ w'.cell? ⟨b, p1, none⟩ = some (.int .i64 q1) ∧ w'.cell? ⟨w3.heap.size, q1, none⟩ = some (.int .i64 Y1)) (by kernel_rfl) ?_
            refine wpAnyL_take 0 (v := ?_) rfl (by kernel_rfl) (by kernel_rfl) (by kernel_rfl) (by kernel_rfl) (fun _ _ _ h => h) (Or.inl ⟨by rfl, ?_⟩) hSd ?_
            rotate_left
            · (intro w hSw; (try dsimp only at hSw); go_simp) <;> (try with_reducible rfl)
            try simp only [Act.put, List.setIfInBounds_toArray, List.set_cons_zero, List.set_cons_succ]
            refine wpAnyL_take 1 (v := ?_) rfl (by kernel_rfl) (by kernel_rfl) (by kernel_rfl) (by kernel_rfl) (fun _ _ _ h => h) (Or.inl ⟨by rfl, ?_⟩) hSd ?_
            rotate_left
            · (intro w hSw; (try dsimp only at hSw); go_simp) <;> (try with_reducible rfl)
            try simp only [Act.put, List.setIfInBounds_toArray, List.set_cons_zero, List.set_cons_succ]
            refine wpAnyL_take 2 (v := ?_) rfl (by kernel_rfl) (by kernel_rfl) (by kernel_rfl) (by kernel_rfl) (fun _ _ _ h => h) (Or.inl ⟨by rfl, ?_⟩) hSd ?_
            rotate_left
            · (intro w hSw; (try dsimp only at hSw); go_simp) <;> (try with_reducible rfl)
            try simp only [Act.put, List.setIfInBounds_toArray, List.set_cons_zero, List.set_cons_succ]
            refine wpAnyL_take 3 (v := ?_) rfl (by kernel_rfl) (by kernel_rfl) (by kernel_rfl) (by kernel_rfl) (fun _ _ _ h => h) (Or.inl ⟨by rfl, ?_⟩) hSd ?_
            rotate_left
            · (intro w hSw; (try dsimp only at hSw); go_simp) <;> (try with_reducible rfl)
            try simp only [Act.put, List.setIfInBounds_toArray, List.set_cons_zero, List.set_cons_succ]
            refine wpAnyL_take 4 (v := ?_) rfl (by kernel_rfl) (by kernel_rfl) (by kernel_rfl) (by kernel_rfl) (fun _ _ _ h => h) (Or.inl ⟨by rfl, ?_⟩) hSd ?_
            rotate_left
            · (intro w hSw; (try dsimp only at hSw); go_simp) <;> (try with_reducible rfl)
            try simp only [Act.put, List.setIfInBounds_toArray, List.set_cons_zero, List.set_cons_succ]
            refine wpAnyL_take 5 (v := ?_) rfl (by kernel_rfl) (by kernel_rfl) (by kernel_rfl) (by kernel_rfl) (fun _ _ _ h => h) (Or.inl ⟨by rfl, ?_⟩) hSd ?_
            rotate_left
            · (intro w hSw; (try dsimp only at hSw); go_simp) <;> (try with_reducible rfl)
            try simp only [Act.put, List.setIfInBounds_toArray, List.set_cons_zero, List.set_cons_succ]
            refine wpAnyL_take 6 (v := ?_) rfl (by kernel_rfl) (by kernel_rfl) (by kernel_rfl) (by kernel_rfl) (fun _ _ _ h => h) (Or.inl ⟨by rfl, ?_⟩) hSd ?_
            rotate_left
            · (intro w hSw; (try dsimp only at hSw); go_simp) <;> (try with_reducible rfl)
            try simp only [Act.put, List.setIfInBounds_toArray, List.set_cons_zero, List.set_cons_succ]
            refine wpAnyL_take 7 (v := ?_) rfl (by kernel_rfl) (by kernel_rfl) (by kernel_rfl) (by kernel_rfl) (fun _ _ _ h => h) (Or.inl ⟨by rfl, ?_⟩) hSd ?_
            rotate_left
            · (intro w hSw; (try dsimp only at hSw); go_simp) <;> (try with_reducible rfl)
            try simp only [Act.put, List.setIfInBounds_toArray, List.set_cons_zero, List.set_cons_succ]
            refine wpAnyL_take 8 (v := ?_) rfl (by kernel_rfl) (by kernel_rfl) (by kernel_rfl) (by kernel_rfl) (fun _ _ _ h => h) (Or.inl ⟨by rfl, ?_⟩) hSd ?_
            rotate_left
            · (intro w hSw; (try dsimp only at hSw); go_simp) <;> (try with_reducible rfl)
            try simp only [Act.put, List.setIfInBounds_toArray, List.set_cons_zero, List.set_cons_succ]
            refine wpAnyL_take 9 (v := ?_) rfl (by kernel_rfl) (by kernel_rfl) (by kernel_rfl) (by kernel_rfl) (fun _ _ _ h => h) (Or.inl ⟨by rfl, ?_⟩) hSd ?_
            rotate_left
            · (intro w hSw; (try dsimp only at hSw); go_simp) <;> (try with_reducible rfl)
            try simp only [Act.put, List.setIfInBounds_toArray, List.set_cons_zero, List.set_cons_succ]
            refine wpAnyL_take 10 (v := ?_) rfl (by kernel_rfl) (by kernel_rfl) (by kernel_rfl) (by kernel_rfl) (fun _ _ _ h => h) (Or.inl ⟨by rfl, ?_⟩) hSd ?_
            rotate_left
            · (intro w hSw; (try dsimp only at hSw); go_simp) <;> (try with_reducible rfl)
            try simp only [Act.put, List.setIfInBounds_toArray, List.set_cons_zero, List.set_cons_succ]
            refine wpAnyL_take 11 (v := ?_) rfl (by kernel_rfl) (by kernel_rfl) (by kernel_rfl) (by kernel_rfl) (fun _ _ _ h => h) (Or.inl ⟨by rfl, ?_⟩) hSd ?_
            rotate_left
            · (intro w hSw; (try dsimp only at hSw); go_simp) <;> (try with_reducible rfl)
            try simp only [Act.put, List.setIfInBounds_toArray, List.set_cons_zero, List.set_cons_succ]
            refine wpAnyL_take 12 (v := ?_) rfl (by kernel_rfl) (by kernel_rfl) (by kernel_rfl) (by kernel_rfl) (fun _ _ _ h => h) (Or.inl ⟨by rfl, ?_⟩) hSd ?_
            rotate_left
            · (intro w hSw; (try dsimp only at hSw); go_simp) <;> (try with_reducible rfl)
            try simp only [Act.put, List.setIfInBounds_toArray, List.set_cons_zero, List.set_cons_succ]
            refine wpAnyL_take 13 (v := ?_) rfl (by kernel_rfl) (by kernel_rfl) (by kernel_rfl) (by kernel_rfl) (fun _ _ _ h => h) (Or.inl ⟨by rfl, ?_⟩) hSd ?_
            rotate_left
            · (intro w hSw; (try dsimp only at hSw); go_simp) <;> (try with_reducible rfl)
            try simp only [Act.put, List.setIfInBounds_toArray, List.set_cons_zero, List.set_cons_succ]
            refine wpAnyL_take 14 (v := ?_) rfl (by kernel_rfl) (by kernel_rfl) (by kernel_rfl) (by kernel_rfl) (fun _ _ _ h => h) (Or.inl ⟨by rfl, ?_⟩) hSd ?_
            rotate_left
            · (intro w hSw; (try dsimp only at hSw); go_simp) <;> (try with_reducible rfl)
            try simp only [Act.put, List.setIfInBounds_toArray, List.set_cons_zero, List.set_cons_succ]
            refine wpAnyL_take 15 (v := ?_) rfl (by kernel_rfl) (by kernel_rfl) (by kernel_rfl) (by kernel_rfl) (fun _ _ _ h => h) (Or.inl ⟨by rfl, ?_⟩) hSd ?_
            rotate_left
            · (intro w hSw; (try dsimp only at hSw); go_simp) <;> (try with_reducible rfl)
            try simp only [Act.put, List.setIfInBounds_toArray, List.set_cons_zero, List.set_cons_succ]
            refine wpAnyL_take 16 (v := ?_) rfl (by kernel_rfl) (by kernel_rfl) (by kernel_rfl) (by kernel_rfl) (fun _ _ _ h => h) (Or.inl ⟨by rfl, ?_⟩) hSd ?_
            rotate_left
            · (intro w hSw; (try dsimp only at hSw); go_simp) <;> (try with_reducible rfl)
            try simp only [Act.put, List.setIfInBounds_toArray, List.set_cons_zero, List.set_cons_succ]
            refine wpAnyL_take 17 (v := ?_) rfl (by kernel_rfl) (by kernel_rfl) (by kernel_rfl) (by kernel_rfl) (fun _ _ _ h => h) (Or.inl ⟨by rfl, ?_⟩) hSd ?_
            rotate_left
            · (intro w hSw; (try dsimp only at hSw); go_simp) <;> (try with_reducible rfl)
            try simp only [Act.put, List.setIfInBounds_toArray, List.set_cons_zero, List.set_cons_succ]
            refine wpAnyL_one 18 (by kernel_rfl) rfl (fun K hK => ?_)
            go_simp
            refine hK.out _ _ (fun _ => hS1) ?_
            clear hK K
            try simp only [Act.put, List.setIfInBounds_toArray, List.set_cons_zero, List.set_cons_succ]
            refine wpAnyL_one 19 (by kernel_rfl) rfl (fun K hK => ?_)
            refine step_append_run (by rfl) (.tmp 64) (.tmp 81) 24 (by rfl) (by rfl) (by rfl) Hr.out ?_
            refine hK.out _ _ (fun _ => hS2) ?_
            clear hK K
            try simp only [Act.put, List.setIfInBounds_toArray, List.set_cons_zero, List.set_cons_succ]
            refine wpAnyL_take 20 (v := ?_) rfl (by kernel_rfl) (by kernel_rfl) (by kernel_rfl) (by kernel_rfl) (fun _ _ _ h => h) (Or.inl ⟨by rfl, ?_⟩) hS2 ?_
            rotate_left
            · (intro w hSw; (try dsimp only at hSw); go_simp) <;> (try with_reducible rfl)
            try simp only [Act.put, List.setIfInBounds_toArray, List.set_cons_zero, List.set_cons_succ]
            refine wpAnyL_one 21 (by kernel_rfl) rfl (fun K hK => ?_)
            go_simp
            refine hK.out _ _ (fun h => absurd h (not_rem (by kernel_rfl))) ?_
            clear hK K
            try simp only [Act.put, List.setIfInBounds_toArray, List.set_cons_zero, List.set_cons_succ]
            refine wpAnyL_done (by kernel_rfl) ?_ _
            all_goals (
              go_wp2
              go_roundg (n - (j + 1))
              case measure => omega
              case rel => exact ⟨j + 1, za, zn, zc, by go_num, by omega, HST, HBs⟩)
          · have HA2 := Lib.hid (show arcS c (xs.take (j + 1)) = arcS c (xs.take j) from by rw [HT.out, HA.out, if_neg (by simpa using hrep)]; simp)
            obtain ⟨U, hU⟩ : ∃ U : Int, U = (c p0 : Int) := ⟨_, rfl⟩
            obtain ⟨V2, hV2⟩ : ∃ V : Int, V = (p0 : Int) := ⟨_, rfl⟩
            have hne : ((c p0 : Int) == (p0 : Int)) = false := by rw [beq_eq_false_iff_ne]; omega
            generalize c p0 = q0 at *
            clear HA HT hrep hU hV2 n0 n1 e1 hY1
            go_wp2
            go_quiet (fail)
            go_wp2
            go_roundg (n - (j + 1))
            case measure => omega
            case rel => exact ⟨j + 1, ya, yn, yc, by go_num, by omega, Lib.hid (by rw [HA2.out]; exact HS1.out.tail.below (below_drewN (Below.refl _ _) _) (Nat.le_refl _)), Lib.hid (below_drewN HB1.out _)⟩
        · obtain rfl : j = n := by omega
          have HR := Lib.hid (show New (RowA 59) (w3.heap.size + 1) wk (.slice ya yn yc) (arcS c xs) from by have h := HS.out.swap.headNew; rw [List.take_of_length_le (by have := Hn.out; omega)] at h; exact h)
          have r0 := (HBw.out.cell (p := ⟨w.heap.size + 1, 0, none⟩) h1w).trans R0.out
          have t0 := (HBw.out.frozen (p := ⟨w.heap.size + 1, 0, none⟩) h1w).trans F0.out
          have r1 := (HBw.out.cell (p := ⟨w.heap.size + 1, 1, none⟩) h1w).trans R1.out
          have t1 := (HBw.out.frozen (p := ⟨w.heap.size + 1, 1, none⟩) h1w).trans F1.out
          have r2 := (HBw.out.cell (p := ⟨w.heap.size + 1, 2, none⟩) h1w).trans R2.out
          have t2 := (HBw.out.frozen (p := ⟨w.heap.size + 1, 2, none⟩) h1w).trans F2.out
          have HB2 := Lib.hid (A3.out.trans (HBw.out.mono A3.out.size))
          have hkn : ¬ ((j : Int) < (j : Int)) := by omega
          have h1w' : w.heap.size + 1 < w3.heap.size + 1 := by omega
          have hbx := HS.out.headBox.2
          have o0 := (hbx.2 0 _ rfl).1
          have o1 := (hbx.2 1 _ rfl).1
          have o2 := (hbx.2 2 _ rfl).1
          clear HS HB HBw hbx hcell
          go_wp2
          have s0 := World.cell?_setCell_same wk _ (.int .i64 N) r0
          have u1 := (World.cell?_setCell_other _ ⟨w.heap.size + 1, 0, none⟩ _ (.int .i64 N) (by simp)).trans r1
          have s1 := World.cell?_setCell_same _ _ (.int .i64 (ct : Int)) u1
          have u2 := (World.cell?_setCell_other _ ⟨w.heap.size + 1, 1, none⟩ _ (.int .i64 (ct : Int)) (by simp)).trans ((World.cell?_setCell_other _ ⟨w.heap.size + 1, 0, none⟩ _ (.int .i64 N) (by simp)).trans r2)
          have s2 := World.cell?_setCell_same _ _ (.slice ya yn yc) u2
          refine bodyPost_ret (v := .tuple #[.agg #[.int .i64 N, .int .i64 (ct : Int), .slice ya yn yc], .bool true]) (by simp [results, Try.results11, go_sem, s0, s1, s2]) rfl ?_
          refine ⟨_, rfl, ?_, (((HB2.out.setCell (p := ⟨w.heap.size + 1, 0, none⟩) (by simp) _).setCell (p := ⟨w.heap.size + 1, 1, none⟩) (by simp) _).setCell (p := ⟨w.heap.size + 1, 2, none⟩) (by simp) _)⟩
          have hk2 := New.storeLow RowG.held (New.storeLow RowG.held (New.storeLow RowG.held HR.out h1w' (.int .i64 N) (p := ⟨w.heap.size + 1, 0, none⟩)) h1w' (.int .i64 (ct : Int)) (p := ⟨w.heap.size + 1, 1, none⟩)) h1w' (.slice ya yn yc) (p := ⟨w.heap.size + 1, 2, none⟩)
          obtain ⟨F, hF, hFn, hFg⟩ := hk2
          rw [HW.out]
          exact ⟨F, ⟨_, rfl, RowG.arcs hF⟩, hFn, fun b hb => by have := hFg b hb; omega⟩
end Go.Proofs.Ytcilgihmaaobeaa
end
