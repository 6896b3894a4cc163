/-
  Texts of this claim joined: laws for its walks, contracts of the functions that the law reaches.
-/
import Derived.Test.YtcilgihmaaobeaaFnResolvedM14
import Derived.Test.YtcilgihmaaobeaaFnResolvedM2
import Derived.Test.YtcilgihmaaobeaaFnResolvedM15
import Derived.Test.YtcilgihmaaobeaaFnResolvedM3
import Derived.Test.YtcilgihmaaobeaaFnResolvedM4
import Derived.Test.YtcilgihmaaobeaaFnResolvedM11
import Derived.Test.YtcilgihmaaobeaaFnResolvedM13
set_option linter.unusedVariables false
set_option linter.unusedSimpArgs false
section
namespace Go.Proofs.Ytcilgihmaaobeaa
open Go.RowKit Go.Deep Go.Sd
set_option linter.unusedSimpArgs false
theorem rowI_snoc (c : Nat → Nat) (xs : List Arc3) (x p : Nat) : rowI c xs (x + 1) p = rowI c xs x p ++ (if 0 ≤ tgtI xs p x then [((nmb c p : Int), (nmb c (tgtI xs p x).toNat : Int), (x : Int))] else []) := by
  unfold rowI
  rw [List.range_succ, List.filterMap_append]
  congr 1
  by_cases h : 0 ≤ tgtI xs p x <;> simp [h]
def rowsI (c : Nat → Nat) (xs : List Arc3) (N m : Nat) : List Arc3 := (List.range m).flatMap fun p => if c p = p then rowI c xs N p else []
theorem rowsI_snoc (c : Nat → Nat) (xs : List Arc3) (N p : Nat) : rowsI c xs N (p + 1) = rowsI c xs N p ++ (if c p = p then rowI c xs N p else []) := by
  unfold rowsI
  rw [List.range_succ, List.flatMap_append]
  simp
set_option maxHeartbeats 8000000 in
set_option maxRecDepth 100000 in
theorem impl_SmallestLabels_c {w : World} {v : Value} {l : Lb} (h : LabR w v l) :
    Calls Try.prog 10 #[v] w (Makes2 OLab w (smV l) (resolvM l)) := by
  have H1 := Lib.hid (fun w1 (hb : Below w.heap.size w w1) => impl_IsResolving_c (LabR.frame _ _ _ _ h hb))
  have Hfr := Lib.hid (fun w1 (hb : Below w.heap.size w w1) => LabR.frame _ _ _ _ h hb)
  have HV := Lib.hid (show smV l = if resolvM l = true then (l.1, (rk (clsV l) l.2.1.toNat : Int), smA (cR (clsV l)) l.2.2) else (0, 0, []) from rfl)
  have Hok := Lib.hid (fun (hr : resolvM l = true) => (⟨isLab_ok (resolvM_lab hr), rows_smA hr, isLab_len (resolvM_lab hr)⟩ : (okArcs l.2.1 l.2.2 ∧ 1 ≤ l.2.1 ∧ l.2.1 ≤ 12 ∧ 1 ≤ l.1 ∧ l.1 ≤ 3) ∧ (List.range l.2.1.toNat).flatMap (fun p => if clsV l p = p then rowI (clsV l) l.2.2 l.1.toNat p else []) = smA (cR (clsV l)) l.2.2 ∧ l.2.2.length ≤ 768))
  have HCan := Lib.hid (clsV_can l)
  have HCl := Lib.hid (show clsV l = cls l.2.2 l.1.toNat (clsK l.2.2 l.1.toNat l.2.1.toNat) from rfl)
  generalize smV l = V at HV ⊢
  generalize resolvM l = il at H1 HV Hok ⊢
  generalize clsV l = c at HV Hok HCan HCl
  obtain ⟨L, S, xs⟩ := l
  obtain ⟨va, rfl, hlen, a, cc, rfl, _, _, _, _⟩ := h
  simp only at *
  generalize hn : xs.length = n at *
  clear hn
  obtain ⟨wA, eA, hA0⟩ : ∃ wA, wA = (w.alloc (.cells #[.int .i64 L, .int .i64 S, .slice a n cc] 26)).alloc (.cells #[.int .i64 0, .int .i64 0, .slice none 0 0] 26) ∧ Below w.heap.size w wA := ⟨_, rfl, ((Below.refl _ _).alloc (Nat.le_refl _) _).alloc (by simp) _⟩
  have zA : wA.heap.size = w.heap.size + 1 + 1 := by rw [eA]; simp
  have l0 : wA.cell? ⟨w.heap.size, 0, none⟩ = some (.int .i64 L) := by rw [eA]; simp [go_sem]
  have l1 : wA.cell? ⟨w.heap.size, 1, none⟩ = some (.int .i64 S) := by rw [eA]; simp [go_sem]
  have l2 : wA.cell? ⟨w.heap.size, 2, none⟩ = some (.slice a n cc) := by rw [eA]; simp [go_sem]
  have r0 : wA.cell? ⟨w.heap.size + 1, 0, none⟩ = some (.int .i64 0) := by rw [eA]; simp [go_sem]
  have r1 : wA.cell? ⟨w.heap.size + 1, 1, none⟩ = some (.int .i64 0) := by rw [eA]; simp [go_sem]
  have r2 : wA.cell? ⟨w.heap.size + 1, 2, none⟩ = some (.slice none 0 0) := by rw [eA]; simp [go_sem]
  have t0 : wA.frozen? ⟨w.heap.size + 1, 0, none⟩ = false := by rw [eA]; simp [go_sem]
  have t1 : wA.frozen? ⟨w.heap.size + 1, 1, none⟩ = false := by rw [eA]; simp [go_sem]
  have t2 : wA.frozen? ⟨w.heap.size + 1, 2, none⟩ = false := by rw [eA]; simp [go_sem]
  have HA := Lib.hid hA0
  have eW := eA.symm
  have h1A : w.heap.size + 1 < wA.heap.size := by omega
  have h0A : w.heap.size < wA.heap.size := by omega
  clear eA hA0 zA
  go_enter Try.func10, Try.ntmps10
  go_wp2_with fail
  refine (H1.out _ HA.out).mono ?_
  rintro e w1 ⟨rfl, hb1⟩
  replace l0 := (hb1.cell (p := ⟨w.heap.size, 0, none⟩) h0A).trans l0
  replace l1 := (hb1.cell (p := ⟨w.heap.size, 1, none⟩) h0A).trans l1
  replace l2 := (hb1.cell (p := ⟨w.heap.size, 2, none⟩) h0A).trans l2
  replace r0 := (hb1.cell (p := ⟨w.heap.size + 1, 0, none⟩) h1A).trans r0
  replace t0 := (hb1.frozen (p := ⟨w.heap.size + 1, 0, none⟩) h1A).trans t0
  replace r1 := (hb1.cell (p := ⟨w.heap.size + 1, 1, none⟩) h1A).trans r1
  replace t1 := (hb1.frozen (p := ⟨w.heap.size + 1, 1, none⟩) h1A).trans t1
  replace r2 := (hb1.cell (p := ⟨w.heap.size + 1, 2, none⟩) h1A).trans r2
  replace t2 := (hb1.frozen (p := ⟨w.heap.size + 1, 2, none⟩) h1A).trans t2
  have A1 := Lib.hid (HA.out.trans (hb1.mono HA.out.size))
  have h1w : w.heap.size + 1 < w1.heap.size := Nat.lt_of_lt_of_le h1A hb1.size
  have h0w : w.heap.size < w1.heap.size := Nat.lt_of_lt_of_le h0A hb1.size
  clear eW hb1 H1 HA h1A h0A
  cases il with
  | false =>
    have HW := Lib.hid (show V = (0, 0, []) from by rw [HV.out]; rfl)
    clear HV Hok HCl
    go_wp2
    have s0 := World.cell?_setCell_same w1 _ (.int .i64 0) r0
    have u1 := (World.cell?_setCell_other _ ⟨w.heap.size + 1, 0, none⟩ _ (.int .i64 0) (by simp)).trans r1
    have s1 := World.cell?_setCell_same _ _ (.int .i64 0) u1
    have u2 := (World.cell?_setCell_other _ ⟨w.heap.size + 1, 1, none⟩ _ (.int .i64 0) (by simp)).trans ((World.cell?_setCell_other _ ⟨w.heap.size + 1, 0, none⟩ _ (.int .i64 0) (by simp)).trans r2)
    have s2 := World.cell?_setCell_same _ _ (.slice none 0 0) u2
    refine bodyPost_ret (v := .tuple #[.agg #[.int .i64 0, .int .i64 0, .slice none 0 0], .bool false]) (by simp [results, Try.results10, go_sem, s0, s1, s2]) rfl ?_
    exact ⟨_, rfl, by rw [HW.out]; exact New.lab0, (((A1.out.setCell (p := ⟨w.heap.size + 1, 0, none⟩) (by simp) _).setCell (p := ⟨w.heap.size + 1, 1, none⟩) (by simp) _).setCell (p := ⟨w.heap.size + 1, 2, none⟩) (by simp) _)⟩
  | true =>
  obtain ⟨⟨ho, hS1, hS2, hL1, hL2⟩, hrows, hlen768⟩ := Hok.out (by first | rfl | trivial)
  obtain ⟨p, rfl⟩ := Int.eq_ofNat_of_zero_le (show 0 ≤ S by omega)
  obtain ⟨N, rfl⟩ := Int.eq_ofNat_of_zero_le (show 0 ≤ L by omega)
  have HW := Lib.hid (show V = ((N : Int), (rk c p : Int), rowsI c xs N p) from by rw [HV.out]; simp only [if_true]; rw [← hrows]; rfl)
  have HTg := Lib.hid (fun w1 (hb : Below w.heap.size w w1) (q x : Nat) => target_c (Hfr.out w1 hb) q x)
  have HOk := Lib.hid (fun (q x : Nat) => tgtI_ok ho q x)
  have HC1 := Lib.hid (fun w1 (hb : Below w.heap.size w w1) => (show Calls Try.prog 42 #[.agg #[.int .i64 N, .int .i64 p, .slice a n cc]] w1 fun e w' => ∃ b cap, e = .returned (.slice (some ⟨b, 0, none⟩) p cap) ∧ ClR w' b p (nmb c) ∧ Below w1.heap.size w1 w' from by rw [HCl.out]; exact classes_c (Hfr.out w1 hb) ho (by omega) (by omega) (by omega)))
  have R0 := Lib.hid r0
  have R1 := Lib.hid r1
  have R2 := Lib.hid r2
  have F0 := Lib.hid t0
  have F1 := Lib.hid t1
  have F2 := Lib.hid t2
  have hp0 : 0 < p := by omega
  clear HV Hok HCl Hfr ho hrows r0 r1 r2 t0 t1 t2
  go_wp2_with fail
  refine (HC1.out _ A1.out).mono ?_
  rintro e w3 ⟨b, cap, rfl, hcl, hb3⟩
  replace l0 := (hb3.cell (p := ⟨w.heap.size, 0, none⟩) h0w).trans l0
  replace l1 := (hb3.cell (p := ⟨w.heap.size, 1, none⟩) h0w).trans l1
  replace l2 := (hb3.cell (p := ⟨w.heap.size, 2, none⟩) h0w).trans l2
  replace R0 := Lib.hid ((hb3.cell (p := ⟨w.heap.size + 1, 0, none⟩) h1w).trans R0.out)
  replace R1 := Lib.hid ((hb3.cell (p := ⟨w.heap.size + 1, 1, none⟩) h1w).trans R1.out)
  replace R2 := Lib.hid ((hb3.cell (p := ⟨w.heap.size + 1, 2, none⟩) h1w).trans R2.out)
  replace F0 := Lib.hid ((hb3.frozen (p := ⟨w.heap.size + 1, 0, none⟩) h1w).trans F0.out)
  replace F1 := Lib.hid ((hb3.frozen (p := ⟨w.heap.size + 1, 1, none⟩) h1w).trans F1.out)
  replace F2 := Lib.hid ((hb3.frozen (p := ⟨w.heap.size + 1, 2, none⟩) h1w).trans F2.out)
  have A3 := Lib.hid (A1.out.trans (hb3.mono A1.out.size))
  replace h1w : w.heap.size + 1 < w3.heap.size := Nat.lt_of_lt_of_le h1w hb3.size
  replace h0w : w.heap.size < w3.heap.size := by omega
  have Hcl := Lib.hid hcl
  have bw := hcl.1
  clear hcl hb3 HC1
  go_wp2
  obtain ⟨wB, eB, hbB, o0, o1, o2, mB⟩ := boxA3_ex w3 26 (.int .i64 N) (.int .i64 0) (.slice none 0 0)
  have hsp := ((Sep.nil w3.heap.size w3).new RowG.held (Below.refl _ _) (Nat.le_refl _) (RowG.nil (e := 59) (sz := 3) (f := acell))).boxNew (Nat.le_refl _) [.int .i64 N, .int .i64 0, .slice none 0 0] 26
  have HSP := Lib.hid (show Sep w3.heap.size wB [Res.box w3.heap.size [.int .i64 N, .int .i64 (rk c 0 : Nat), .slice none 0 0], Res.row 59 3 acell (.slice none 0 0) (rowsI c xs N 0)] from by rw [← eB]; exact hsp)
  try rw [eB]
  have HBB := Lib.hid hbB
  clear hsp hbB eB o0 o1 o2 mB
  have LL0 := Lib.hid l0
  have LL1 := Lib.hid l1
  have LL2 := Lib.hid l2
  clear l0 l1 l2
  go_loopg [21] p (fun g i wr => ∃ (k : Nat) (ya : Option Addr) (yn yc : Nat), i = .int .i64 k ∧ k + g = p ∧ Hid (Sep w3.heap.size wr [Res.box w3.heap.size [.int .i64 N, .int .i64 (rk c k : Nat), .slice ya yn yc], Res.row 59 3 acell (.slice ya yn yc) (rowsI c xs N k)]) ∧ Hid (Below w3.heap.size w3 wr))
  case atStart => exact ⟨0, _, _, _, rfl, by omega, HSP, HBB⟩
  case round =>
    clear HSP HBB
    obtain ⟨k, ya, yn, yc, rfl, hk, HS, HB⟩ := hrel
    obtain ⟨wk, rfl⟩ : ∃ x, x = wr := ⟨_, rfl⟩
    have zk := HB.out.size
    obtain ⟨-, mk, hbx⟩ := HS.out.headBox
    have o0 := (hbx 0 _ rfl).1
    have o1 := (hbx 1 _ rfl).1
    have o1f := (hbx 1 _ rfl).2
    have o2 := (hbx 2 _ rfl).1
    have o2f := (hbx 2 _ rfl).2
    have l0 := (HB.out.cell (p := ⟨w.heap.size, 0, none⟩) h0w).trans LL0.out
    have l1 := (HB.out.cell (p := ⟨w.heap.size, 1, none⟩) h0w).trans LL1.out
    have l2 := (HB.out.cell (p := ⟨w.heap.size, 2, none⟩) h0w).trans LL2.out
    have hrk := rk_le c k
    clear hbx
    by_cases hkp : k < p
    · have hki : (k : Int) < (p : Int) := by omega
      have gk2 := (HB.out.cell (p := ⟨b, k, none⟩) bw).trans (Hcl.out.2 k hkp)
      by_cases hrep : c k = k
      · have hnk : nmb c k = rk c k := by unfold nmb; rw [hrep]
        have HR1 := Lib.hid (show rk c (k + 1) = rk c k + 1 from by show rk c k + (if c k = k then 1 else 0) = _; rw [if_pos hrep])
        have HR2 := Lib.hid (show rowsI c xs N (k + 1) = rowsI c xs N k ++ rowI c xs N k from by rw [rowsI_snoc, if_pos hrep])
        have hst := HS.out.boxStore (by omega) (j := 1) rfl (.int .i64 ((rk c k : Int) + 1))
        have HS1 := Lib.hid (show Sep w3.heap.size (wk.setCell ⟨w3.heap.size, 1, none⟩ (.int .i64 ((rk c k : Int) + 1))) [Res.box w3.heap.size [.int .i64 N, .int .i64 ((rk c k : Int) + 1), .slice ya yn yc], Res.row 59 3 acell (.slice ya yn yc) (rowsI c xs N k ++ rowI c xs 0 k)] from by rw [show rowsI c xs N k ++ rowI c xs 0 k = rowsI c xs N k by simp [rowI]]; exact hst)
        have HB1 := Lib.hid (HB.out.setCell (p := ⟨w3.heap.size, 1, none⟩) (Nat.le_refl _) (.int .i64 ((rk c k : Int) + 1)))
        have hlt3 : ¬ ((nmb c k : Int) < (rk c k : Int)) := by omega
        rw [hnk] at gk2 hlt3
        have Hnk := Lib.hid hnk
        generalize hrr : rk c k = rr at *
        have HRR := Lib.hid hrr
        clear hrep hnk hrr hst
        go_wp2
        go_loopg [36] N (fun g i wr => ∃ (x : Nat) (ya : Option Addr) (yn yc : Nat), i = .int .i64 x ∧ x + g = N ∧ Hid (Sep w3.heap.size wr [Res.box w3.heap.size [.int .i64 N, .int .i64 ((rr : Int) + 1), .slice ya yn yc], Res.row 59 3 acell (.slice ya yn yc) (rowsI c xs N k ++ rowI c xs x k)]) ∧ Hid (Below w3.heap.size w3 wr))
        case atStart => exact ⟨0, _, _, _, rfl, by omega, HS1, HB1⟩
        case round =>
          clear HS1 HB1 HS HB o0 o1 o1f o2 o2f l0 l1 l2 gk2
          obtain ⟨x, ya, yn, yc, rfl, hx, HS, HB⟩ := hrel
          obtain ⟨wx, rfl⟩ : ∃ x, x = wr := ⟨_, rfl⟩
          have zx := HB.out.size
          obtain ⟨-, mx, hbx⟩ := HS.out.headBox
          have o2 := (hbx 2 _ rfl).1
          have o2f := (hbx 2 _ rfl).2
          have l0 := (HB.out.cell (p := ⟨w.heap.size, 0, none⟩) h0w).trans LL0.out
          have l1 := (HB.out.cell (p := ⟨w.heap.size, 1, none⟩) h0w).trans LL1.out
          have l2 := (HB.out.cell (p := ⟨w.heap.size, 2, none⟩) h0w).trans LL2.out
          clear hbx
          by_cases hxN : x < N
          · have hxi : (x : Int) < (N : Int) := by omega
            have AX := Lib.hid (A3.out.trans (HB.out.mono A3.out.size))
            have C1 := Lib.hid (HTg.out wx AX.out k x)
            have O1 := HOk.out k x
            have HSn := Lib.hid (rowI_snoc c xs x k)
            generalize tgtI xs k x = t at C1 O1 HSn
            try simp only at C1
            go_wp2_with fail
            refine C1.out.mono ?_
            rintro e wy ⟨rfl, hby⟩
            have HBy := Lib.hid (HB.out.trans (hby.mono zx))
            have HSy := Lib.hid (HS.out.below hby (Nat.le_refl _))
            have zy := hby.size
            replace o2 := (hby.cell (p := ⟨w3.heap.size, 2, none⟩) mx).trans o2
            replace o2f := (hby.frozen (p := ⟨w3.heap.size, 2, none⟩) mx).trans o2f
            clear hby C1 HS HB AX
            rcases O1 with rfl | ⟨tt, rfl, htt⟩
            · have HR3 := Lib.hid (show rowI c xs (x + 1) k = rowI c xs x k from by rw [HSn.out, if_neg (by omega)]; simp)
              clear HSn
              go_wp2
              go_roundg (N - (x + 1))
              case measure => omega
              case rel => exact ⟨x + 1, ya, yn, yc, by go_num, by omega, Lib.hid (by rw [HR3.out]; exact HSy.out), HBy⟩
            · have htk : (0 : Int) ≤ (tt : Int) := by omega
              have htp : (tt : Int) < (p : Int) := htt
              have ga := (HBy.out.cell (p := ⟨b, tt, none⟩) bw).trans (Hcl.out.2 tt (by omega))
              have bwy : b < wy.heap.size := by omega
              have hBy : w3.heap.size < wy.heap.size := by omega
              have HR3 := Lib.hid (show rowI c xs (x + 1) k = rowI c xs x k ++ [((rr : Int), (nmb c tt : Int), (x : Int))] from by rw [HSn.out, if_pos (by omega), Hnk.out]; simp)
              obtain ⟨Y, hY⟩ : ∃ Y : Int, Y = (nmb c tt : Int) := ⟨_, rfl⟩
              rw [← hY] at HR3 ga
              have hll := Lib.hid (show (rowsI c xs N k ++ rowI c xs x k).length ≤ 4096 from by
                have h1 : ∀ m q : Nat, (rowI c xs m q).length ≤ m := fun m q => Nat.le_trans (List.length_filterMap_le _ _) (by simp)
                have h2 : ∀ m : Nat, (rowsI c xs N m).length ≤ m * 3 := fun m => by
                  induction m with
                  | zero => simp [rowsI]
                  | succ m ih =>
                    rw [rowsI_snoc, List.length_append]
                    have h3 := h1 N m
                    split
                    · omega
                    · simp; omega
                have h4 := h2 k
                have h5 := h1 x k
                rw [List.length_append]; omega)
              have B1 := ((Below.refl wy.heap.size wy).alloc (Nat.le_refl _) (.cells #[.int .i64 rr, .int .i64 Y, .int .i64 x] 59)).drew
              obtain ⟨v', w2, hr, hs2, hb2⟩ := HSy.out.swap.pushG (P := Try.prog) acell_lay 24 24 (.agg #[.int .i64 0, .int .i64 0, .int .i64 0]) 24 Try.underlying24 infoA rfl (by omega) (w1 := ((wy.alloc (.cells #[.int .i64 rr, .int .i64 Y, .int .i64 x] 59)).drew)) B1 ((rr : Int), Y, (x : Int)) (bb := wy.heap.size) 1
                (by
                  intro i u hu
                  match i, hu with
                  | 0, hu => simp [acell] at hu; subst hu; simp [go_sem]
                  | 1, hu => simp [acell] at hu; subst hu; simp [go_sem]
                  | 2, hu => simp [acell] at hu; subst hu; simp [go_sem]) (by have := hll.out; omega) (by have := hll.out; omega)
              obtain ⟨za, zn, zc, rfl⟩ : ∃ a n c, v' = .slice a n c := hs2.headNew.imp (fun F hF => hF.1) |> fun h => by obtain ⟨F, hF⟩ := h; obtain ⟨a, c, e⟩ := RowG.slice hF; exact ⟨a, _, c, e⟩
              have hbx := hs2.swap.headBox.2
              have hc2 := (hbx.2 2 _ rfl).1
              have hf2 := (hbx.2 2 _ rfl).2
              have hga2 : w2.cell? ⟨b, tt, none⟩ = some (.int .i64 Y) := (hb2.cell (p := ⟨b, tt, none⟩) bw).trans ga
              have hst := hs2.swap.boxStore (by have := hb2.size; omega) (j := 2) rfl (.slice za zn zc)
              have HST := Lib.hid (show Sep w3.heap.size (w2.setCell ⟨w3.heap.size, 2, none⟩ (.slice za zn zc)) [Res.box w3.heap.size [.int .i64 N, .int .i64 ((rr : Int) + 1), .slice za zn zc], Res.row 59 3 acell (.slice za zn zc) (rowsI c xs N k ++ rowI c xs (x + 1) k)] from by rw [HR3.out, ← List.append_assoc]; exact hst)
              have HBs := Lib.hid ((HBy.out.trans hb2).setCell (p := ⟨w3.heap.size, 2, none⟩) (Nat.le_refl _) (.slice za zn zc))
              have Hr := Lib.hid hr
              have hSd : wy.drew.cell? ⟨w3.heap.size, 2, none⟩ = some (.slice ya yn yc) ∧ wy.drew.cell? ⟨b, tt, none⟩ = some (.int .i64 Y) := ⟨o2, ga⟩
              have hS1 : ((wy.alloc (.cells #[.int .i64 rr, .int .i64 Y, .int .i64 x] 59)).drew).cell? ⟨w3.heap.size, 2, none⟩ = some (.slice ya yn yc) ∧ ((wy.alloc (.cells #[.int .i64 rr, .int .i64 Y, .int .i64 x] 59)).drew).cell? ⟨b, tt, none⟩ = some (.int .i64 Y) := ⟨(B1.cell (p := ⟨w3.heap.size, 2, none⟩) hBy).trans o2, (B1.cell (p := ⟨b, tt, none⟩) bwy).trans ga⟩
              have hS2 : w2.cell? ⟨w3.heap.size, 2, none⟩ = some (.slice ya yn yc) ∧ w2.cell? ⟨b, tt, none⟩ = some (.int .i64 Y) := ⟨hc2, hga2⟩
              clear HSn hY B1 hr hs2 hb2 hbx hst HSy HBy hga2
              go_wp2
              refine wp_region_L (fun w' => w'.cell? ⟨w3.heap.size, 2, none⟩ = some (.slice ya yn yc) ∧ w'.cell? ⟨b, tt, none⟩ = some (.int .i64 Y)) (by kernel_rfl) ?_
              refine wpAnyL_take 0 (v := ?_) rfl (by kernel_rfl) (by kernel_rfl) (by kernel_rfl) (by kernel_rfl) (fun _ _ _ h => h) (Or.inl ⟨by rfl, ?_⟩) hSd ?_
              rotate_left
              · (intro w hSw; (try dsimp only at hSw); go_simp) <;> (try with_reducible rfl)
              try simp only [Act.put, List.setIfInBounds_toArray, List.set_cons_zero, List.set_cons_succ]
              refine wpAnyL_take 1 (v := ?_) rfl (by kernel_rfl) (by kernel_rfl) (by kernel_rfl) (by kernel_rfl) (fun _ _ _ h => h) (Or.inl ⟨by rfl, ?_⟩) hSd ?_
              rotate_left
              · (intro w hSw; (try dsimp only at hSw); go_simp) <;> (try with_reducible rfl)
              try simp only [Act.put, List.setIfInBounds_toArray, List.set_cons_zero, List.set_cons_succ]
              refine wpAnyL_take 2 (v := ?_) rfl (by kernel_rfl) (by kernel_rfl) (by kernel_rfl) (by kernel_rfl) (fun _ _ _ h => h) (Or.inl ⟨by rfl, ?_⟩) hSd ?_
              rotate_left
              · (intro w hSw; (try dsimp only at hSw); go_simp) <;> (try with_reducible rfl)
              try simp only [Act.put, List.setIfInBounds_toArray, List.set_cons_zero, List.set_cons_succ]
              refine wpAnyL_take 3 (v := ?_) rfl (by kernel_rfl) (by kernel_rfl) (by kernel_rfl) (by kernel_rfl) (fun _ _ _ h => h) (Or.inl ⟨by rfl, ?_⟩) hSd ?_
              rotate_left
              · (intro w hSw; (try dsimp only at hSw); go_simp) <;> (try with_reducible rfl)
              try simp only [Act.put, List.setIfInBounds_toArray, List.set_cons_zero, List.set_cons_succ]
              refine wpAnyL_take 4 (v := ?_) rfl (by kernel_rfl) (by kernel_rfl) (by kernel_rfl) (by kernel_rfl) (fun _ _ _ h => h) (Or.inl ⟨by rfl, ?_⟩) hSd ?_
              rotate_left
              · (intro w hSw; (try dsimp only at hSw); go_simp) <;> (try with_reducible rfl)
              try simp only [Act.put, List.setIfInBounds_toArray, List.set_cons_zero, List.set_cons_succ]
              refine wpAnyL_take 5 (v := ?_) rfl (by kernel_rfl) (by kernel_rfl) (by kernel_rfl) (by kernel_rfl) (fun _ _ _ h => h) (Or.inl ⟨by rfl, ?_⟩) hSd ?_
              rotate_left
              · (intro w hSw; (try dsimp only at hSw); go_simp) <;> (try with_reducible rfl)
              try simp only [Act.put, List.setIfInBounds_toArray, List.set_cons_zero, List.set_cons_succ]
              refine wpAnyL_take 6 (v := ?_) rfl (by kernel_rfl) (by kernel_rfl) (by kernel_rfl) (by kernel_rfl) (fun _ _ _ h => h) (Or.inl ⟨by rfl, ?_⟩) hSd ?_
              rotate_left
              · (intro w hSw; (try dsimp only at hSw); go_simp) <;> (try with_reducible rfl)
              try simp only [Act.put, List.setIfInBounds_toArray, List.set_cons_zero, List.set_cons_succ]
              refine wpAnyL_take 7 (v := ?_) rfl (by kernel_rfl) (by kernel_rfl) (by kernel_rfl) (by kernel_rfl) (fun _ _ _ h => h) (Or.inl ⟨by rfl, ?_⟩) hSd ?_
              rotate_left
              · (intro w hSw; (try dsimp only at hSw); go_simp) <;> (try with_reducible rfl)
              try simp only [Act.put, List.setIfInBounds_toArray, List.set_cons_zero, List.set_cons_succ]
              refine wpAnyL_take 8 (v := ?_) rfl (by kernel_rfl) (by kernel_rfl) (by kernel_rfl) (by kernel_rfl) (fun _ _ _ h => h) (Or.inl ⟨by rfl, ?_⟩) hSd ?_
              rotate_left
              · (intro w hSw; (try dsimp only at hSw); go_simp) <;> (try with_reducible rfl)
              try simp only [Act.put, List.setIfInBounds_toArray, List.set_cons_zero, List.set_cons_succ]
              refine wpAnyL_one 9 (by kernel_rfl) rfl (fun K hK => ?_)
              go_simp
              refine hK.out _ _ (fun _ => hS1) ?_
              clear hK K
              try simp only [Act.put, List.setIfInBounds_toArray, List.set_cons_zero, List.set_cons_succ]
              refine wpAnyL_one 10 (by kernel_rfl) rfl (fun K hK => ?_)
              refine step_append_run (by rfl) (.tmp 46) (.tmp 54) 24 (by rfl) (by rfl) (by rfl) Hr.out ?_
              refine hK.out _ _ (fun _ => hS2) ?_
              clear hK K
              try simp only [Act.put, List.setIfInBounds_toArray, List.set_cons_zero, List.set_cons_succ]
              refine wpAnyL_take 11 (v := ?_) rfl (by kernel_rfl) (by kernel_rfl) (by kernel_rfl) (by kernel_rfl) (fun _ _ _ h => h) (Or.inl ⟨by rfl, ?_⟩) hS2 ?_
              rotate_left
              · (intro w hSw; (try dsimp only at hSw); go_simp) <;> (try with_reducible rfl)
              try simp only [Act.put, List.setIfInBounds_toArray, List.set_cons_zero, List.set_cons_succ]
              refine wpAnyL_one 12 (by kernel_rfl) rfl (fun K hK => ?_)
              go_simp
              refine hK.out _ _ (fun h => absurd h (not_rem (by kernel_rfl))) ?_
              clear hK K
              try simp only [Act.put, List.setIfInBounds_toArray, List.set_cons_zero, List.set_cons_succ]
              refine wpAnyL_done (by kernel_rfl) ?_ _
              all_goals (
                go_wp2
                go_roundg (N - (x + 1))
                case measure => omega
                case rel => exact ⟨x + 1, za, zn, zc, by go_num, by omega, HST, HBs⟩)
          · obtain rfl : x = N := by omega
            have hxi : ¬ ((x : Int) < (x : Int)) := by omega
            clear HTg HOk
            go_wp2
            go_roundg (p - (k + 1))
            case measure => omega
            case rel => exact ⟨k + 1, ya, yn, yc, by go_num, by omega, Lib.hid (by rw [HR1.out, HR2.out]; exact HS.out), HB⟩
      · have hlt2 : nmb c k < rk c k := by
          have h1 := HCan.out.le k
          exact rk_lt (HCan.out.idem k) (by omega)
        have hlt3 : (nmb c k : Int) < (rk c k : Int) := by omega
        have HR1 := Lib.hid (show rk c (k + 1) = rk c k from by show rk c k + (if c k = k then 1 else 0) = _; rw [if_neg hrep]; rfl)
        have HR2 := Lib.hid (show rowsI c xs N (k + 1) = rowsI c xs N k from by rw [rowsI_snoc, if_neg hrep]; simp)
        generalize nmb c k = nk at *
        generalize hrr : rk c k = rr at *
        clear hrep
        go_wp2
        go_roundg (p - (k + 1))
        case measure => omega
        case rel => exact ⟨k + 1, ya, yn, yc, by go_num, by omega, Lib.hid (by rw [HR1.out, HR2.out]; exact HS.out), HB⟩
    · obtain rfl : k = p := by omega
      have HR := Lib.hid (show New (RowA 59) w3.heap.size wk (.slice ya yn yc) (rowsI c xs N k) from HS.out.swap.headNew)
      have r0 := (HB.out.cell (p := ⟨w.heap.size + 1, 0, none⟩) h1w).trans R0.out
      have t0 := (HB.out.frozen (p := ⟨w.heap.size + 1, 0, none⟩) h1w).trans F0.out
      have r1 := (HB.out.cell (p := ⟨w.heap.size + 1, 1, none⟩) h1w).trans R1.out
      have t1 := (HB.out.frozen (p := ⟨w.heap.size + 1, 1, none⟩) h1w).trans F1.out
      have r2 := (HB.out.cell (p := ⟨w.heap.size + 1, 2, none⟩) h1w).trans R2.out
      have t2 := (HB.out.frozen (p := ⟨w.heap.size + 1, 2, none⟩) h1w).trans F2.out
      have HB2 := Lib.hid (A3.out.trans (HB.out.mono A3.out.size))
      have hki : ¬ ((k : Int) < (k : Int)) := by omega
      clear HS HB
      go_wp2
      have s0 := World.cell?_setCell_same wk _ (.int .i64 N) r0
      have u1 := (World.cell?_setCell_other _ ⟨w.heap.size + 1, 0, none⟩ _ (.int .i64 N) (by simp)).trans r1
      have s1 := World.cell?_setCell_same _ _ (.int .i64 (rk c k : Int)) u1
      have u2 := (World.cell?_setCell_other _ ⟨w.heap.size + 1, 1, none⟩ _ (.int .i64 (rk c k : Int)) (by simp)).trans ((World.cell?_setCell_other _ ⟨w.heap.size + 1, 0, none⟩ _ (.int .i64 N) (by simp)).trans r2)
      have s2 := World.cell?_setCell_same _ _ (.slice ya yn yc) u2
      refine bodyPost_ret (v := .tuple #[.agg #[.int .i64 N, .int .i64 (rk c k : Int), .slice ya yn yc], .bool true]) (by simp [results, Try.results10, go_sem, s0, s1, s2]) rfl ?_
      refine ⟨_, rfl, ?_, (((HB2.out.setCell (p := ⟨w.heap.size + 1, 0, none⟩) (by simp) _).setCell (p := ⟨w.heap.size + 1, 1, none⟩) (by simp) _).setCell (p := ⟨w.heap.size + 1, 2, none⟩) (by simp) _)⟩
      have hk2 := New.storeLow RowG.held (New.storeLow RowG.held (New.storeLow RowG.held HR.out h1w (.int .i64 N) (p := ⟨w.heap.size + 1, 0, none⟩)) h1w (.int .i64 (rk c k : Int)) (p := ⟨w.heap.size + 1, 1, none⟩)) h1w (.slice ya yn yc) (p := ⟨w.heap.size + 1, 2, none⟩)
      obtain ⟨F, hF, hFn, hFg⟩ := hk2
      rw [HW.out]
      exact ⟨F, ⟨_, rfl, RowG.arcs hF⟩, hFn, fun b hb => by have := hFg b hb; omega⟩
end Go.Proofs.Ytcilgihmaaobeaa
end

section
namespace Go.Proofs.Ytcilgihmaaobeaa
open Go.RowKit Go.Deep Go.Sd
set_option linter.unusedSimpArgs false
set_option maxHeartbeats 8000000 in
set_option maxRecDepth 100000 in
theorem spec_LabelsOf_g {w : World} {vs : Value} {z : Sh} (hz : ShR w vs z) (hf : ∀ f, f ∈ z.2 → f.size ≤ 1048576) :
    Calls Try.prog 27 #[vs] w (Makes2 OLabG w (lofV z) (lofOk z)) := by
  have HGr := Lib.hid (fun w1 (hb : Below w.heap.size w w1) => spec_GraphOf_c (ShR.frame _ _ _ _ hz hb) hf)
  have HSt := Lib.hid (fun w1 (hb : Below w.heap.size w w1) => spec_StatesOf_c (ShR.frame _ _ _ _ hz hb) hf)
  rw [lan2 z] at HSt
  have HV := Lib.hid (lofV_eq z)
  have HO := Lib.hid (lofOk_eq z)
  have HSo := Lib.hid (fun h : lofOk z = true => garcs_sorted h)
  have HPo := Lib.hid (fun h : lofOk z = true => garcs_pos h)
  have HG := Lib.hid (show gmV z = tabOf (stW z).length (stW z).length (gent z.2 (stW z)) from rfl)
  have HTw := Lib.hid (fun v (h : v ∈ stW z) => stW_two h)
  have h9 := stW_len z
  have HLe := Lib.hid (garcs_le z.2 (stW z) h9)
  generalize lofV z = V at HV ⊢
  generalize lofOk z = ok at HV HO HSo HPo HGr ⊢
  generalize gmV z = GM at HG HGr
  generalize stW z = W at HV HO HSo HPo HG HTw h9 HLe HSt
  obtain ⟨L, FF⟩ := z
  obtain ⟨va, rfl, ht⟩ := hz
  obtain ⟨a, cc, rfl, -⟩ := ht.shape
  simp only at ht HGr HSt HV HSo HPo HG HLe
  generalize FF.length = n0 at *
  obtain ⟨wA, eA, hA0⟩ : ∃ wA, wA = (w.alloc (.cells #[.int .i64 L, .slice a n0 cc] 44)).alloc (.cells #[.int .i64 0, .int .i64 0, .slice none 0 0] 26) ∧ Below w.heap.size w wA := ⟨_, rfl, ((Below.refl _ _).alloc (Nat.le_refl _) _).alloc (by simp) _⟩
  have zA : wA.heap.size = w.heap.size + 1 + 1 := by rw [eA]; simp
  have l0 : wA.cell? ⟨w.heap.size, 0, none⟩ = some (.int .i64 L) := by rw [eA]; simp [go_sem]
  have l1 : wA.cell? ⟨w.heap.size, 1, none⟩ = some (.slice a n0 cc) := by rw [eA]; simp [go_sem]
  have R0 := Lib.hid (show wA.cell? ⟨w.heap.size + 1, 0, none⟩ = some (.int .i64 0) from by rw [eA]; simp [go_sem])
  have R1 := Lib.hid (show wA.cell? ⟨w.heap.size + 1, 1, none⟩ = some (.int .i64 0) from by rw [eA]; simp [go_sem])
  have R2 := Lib.hid (show wA.cell? ⟨w.heap.size + 1, 2, none⟩ = some (.slice none 0 0) from by rw [eA]; simp [go_sem])
  have F0 := Lib.hid (show wA.frozen? ⟨w.heap.size + 1, 0, none⟩ = false from by rw [eA]; simp [go_sem])
  have F1 := Lib.hid (show wA.frozen? ⟨w.heap.size + 1, 1, none⟩ = false from by rw [eA]; simp [go_sem])
  have F2 := Lib.hid (show wA.frozen? ⟨w.heap.size + 1, 2, none⟩ = false from by rw [eA]; simp [go_sem])
  have HA := Lib.hid hA0
  have eW := eA.symm
  have h1w : w.heap.size + 1 < wA.heap.size := by omega
  have h0w : w.heap.size < wA.heap.size := by omega
  clear eA hA0 zA ht hf
  go_enter Try.func27, Try.ntmps27
  go_wp2_with fail
  (with_reducible refine (HGr.out _ HA.out).mono ?_)
  rintro e w1 ⟨r, rfl, hn, hb1⟩
  have HT1 := Lib.hid (New.tab hn)
  obtain ⟨ta, tc, er, -⟩ := (New.tab hn).shape
  subst er
  replace l0 := (hb1.cell (p := ⟨w.heap.size, 0, none⟩) h0w).trans l0
  replace l1 := (hb1.cell (p := ⟨w.heap.size, 1, none⟩) h0w).trans l1
  replace R0 := Lib.hid ((hb1.cell (p := ⟨w.heap.size + 1, 0, none⟩) h1w).trans R0.out)
  replace F0 := Lib.hid ((hb1.frozen (p := ⟨w.heap.size + 1, 0, none⟩) h1w).trans F0.out)
  replace R1 := Lib.hid ((hb1.cell (p := ⟨w.heap.size + 1, 1, none⟩) h1w).trans R1.out)
  replace F1 := Lib.hid ((hb1.frozen (p := ⟨w.heap.size + 1, 1, none⟩) h1w).trans F1.out)
  replace R2 := Lib.hid ((hb1.cell (p := ⟨w.heap.size + 1, 2, none⟩) h1w).trans R2.out)
  replace F2 := Lib.hid ((hb1.frozen (p := ⟨w.heap.size + 1, 2, none⟩) h1w).trans F2.out)
  have A1 := Lib.hid (HA.out.trans (hb1.mono HA.out.size))
  replace h1w : w.heap.size + 1 < w1.heap.size := Nat.lt_of_lt_of_le h1w hb1.size
  replace h0w : w.heap.size < w1.heap.size := Nat.lt_of_lt_of_le h0w hb1.size
  clear eW hb1 HGr HA hn
  cases ok with
  | false =>
    have HW := Lib.hid (show V = (0, 0, []) from by rw [HV.out]; rfl)
    clear HV HO HSo HPo HSt HG HLe HTw HT1
    have r0 := R0.out
    have r1 := R1.out
    have r2 := R2.out
    have t0 := F0.out
    have t1 := F1.out
    have t2 := F2.out
    go_wp2
    have s0 := World.cell?_setCell_same w1 _ (.int .i64 0) R0.out
    have u1 := (World.cell?_setCell_other _ ⟨w.heap.size + 1, 0, none⟩ _ (.int .i64 0) (by simp)).trans R1.out
    have s1 := World.cell?_setCell_same _ _ (.int .i64 0) u1
    have u2 := (World.cell?_setCell_other _ ⟨w.heap.size + 1, 1, none⟩ _ (.int .i64 0) (by simp)).trans ((World.cell?_setCell_other _ ⟨w.heap.size + 1, 0, none⟩ _ (.int .i64 0) (by simp)).trans R2.out)
    have s2 := World.cell?_setCell_same _ _ (.slice none 0 0) u2
    refine bodyPost_ret (v := .tuple #[.agg #[.int .i64 0, .int .i64 0, .slice none 0 0], .bool false]) (by simp [results, Try.results27, go_sem, s0, s1, s2]) rfl ?_
    exact ⟨_, rfl, by rw [HW.out]; exact New.lab0G, (((A1.out.setCell (p := ⟨w.heap.size + 1, 0, none⟩) (by simp) _).setCell (p := ⟨w.heap.size + 1, 1, none⟩) (by simp) _).setCell (p := ⟨w.heap.size + 1, 2, none⟩) (by simp) _)⟩
  | true =>
  have hok := HO.out
  obtain ⟨n, hn⟩ : ∃ n, n = W.length := ⟨_, rfl⟩
  have Hn := Lib.hid hn
  have hn0 : n ≠ 0 := by
    have h := hok.symm
    rw [decide_eq_true_eq] at h
    omega
  replace HSo := Lib.hid (HSo.out rfl)
  replace HPo := Lib.hid (HPo.out rfl)
  have HW := Lib.hid (show V = (L, (n : Int), garcs FF W n) from by rw [HV.out, hn]; rfl)
  have HGn := Lib.hid (show GM = tabOf n n (gent FF W) from by rw [HG.out, hn])
  have hGl : GM.length = n := by rw [HGn.out, tabOf_len]
  rw [← hn] at h9 HSo HPo
  rw [hGl]
  clear HV HO HG hok hGl hn
  go_wp2_with fail
  (with_reducible refine (HSt.out _ A1.out).mono ?_)
  rintro e w2 ⟨sv, rfl, hn2, hb2⟩
  have hs2 := Sep.one (OwnOf.kept OStr.kept).held hn2
  obtain ⟨sa, sc, es, hq⟩ := hs2.strsAt
  subst es
  rw [List.length_map, ← Hn.out] at hq ⊢
  obtain ⟨sb, esb, hsb, hsc⟩ := hq (by omega)
  subst esb
  have HSc := Lib.hid hsc
  have HT2 := Lib.hid (Tab.frame _ _ _ _ HT1.out hb2)
  replace l0 := (hb2.cell (p := ⟨w.heap.size, 0, none⟩) h0w).trans l0
  replace l1 := (hb2.cell (p := ⟨w.heap.size, 1, none⟩) h0w).trans l1
  replace R0 := Lib.hid ((hb2.cell (p := ⟨w.heap.size + 1, 0, none⟩) h1w).trans R0.out)
  replace F0 := Lib.hid ((hb2.frozen (p := ⟨w.heap.size + 1, 0, none⟩) h1w).trans F0.out)
  replace R1 := Lib.hid ((hb2.cell (p := ⟨w.heap.size + 1, 1, none⟩) h1w).trans R1.out)
  replace F1 := Lib.hid ((hb2.frozen (p := ⟨w.heap.size + 1, 1, none⟩) h1w).trans F1.out)
  replace R2 := Lib.hid ((hb2.cell (p := ⟨w.heap.size + 1, 2, none⟩) h1w).trans R2.out)
  replace F2 := Lib.hid ((hb2.frozen (p := ⟨w.heap.size + 1, 2, none⟩) h1w).trans F2.out)
  have A2 := Lib.hid (A1.out.trans (hb2.mono A1.out.size))
  replace h1w : w.heap.size + 1 < w2.heap.size := Nat.lt_of_lt_of_le h1w hb2.size
  replace h0w : w.heap.size < w2.heap.size := Nat.lt_of_lt_of_le h0w hb2.size
  clear hb2 hn2 hs2 hq hsc HSt HT1
  have w3d : w2.heap.size = w2.heap.size := rfl
  go_wp2
  obtain ⟨w4, e4, hb4, o0, o1, o2, m4⟩ := boxA3_ex w2 26 (.int .i64 L) (.int .i64 (n : Int)) (.slice none 0 0)
  have hsp := (Sep.one RowG.held (RowG.nil (e := 59) (sz := 3) (f := acell) (w := w2) (lo := w2.heap.size))).boxNew (Nat.le_refl _) [.int .i64 L, .int .i64 (n : Int), .slice none 0 0] 26
  have HSP := Lib.hid (show Sep w2.heap.size w4 [Res.box w2.heap.size [.int .i64 L, .int .i64 (n : Int), .slice none 0 0], Res.row 59 3 acell (.slice none 0 0) (garcs FF W 0)] from by rw [← e4]; exact hsp)
  have HBB := Lib.hid hb4
  rw [e4]
  clear hsp hb4 o0 o1 o2 l0 l1 w3d
  go_loopg [8] n (fun g i wr => ∃ (k : Nat) (ya : Option Addr) (yn yc : Nat), i = .int .i64 k ∧ k + g = n ∧ Hid (Sep w2.heap.size wr [Res.box w2.heap.size [.int .i64 L, .int .i64 (n : Int), .slice ya yn yc], Res.row 59 3 acell (.slice ya yn yc) (garcs FF W k)]) ∧ Hid (Below w2.heap.size w2 wr))
  case atStart => exact ⟨0, _, _, _, rfl, by omega, HSP, HBB⟩
  case round =>
    clear HSP HBB e4 m4
    obtain ⟨k, ya, yn, yc, rfl, hk, HS, HB⟩ := hrel
    obtain ⟨wk, rfl⟩ : ∃ x, x = wr := ⟨_, rfl⟩
    have zk := HB.out.size
    by_cases hkN : k < n
    · have hki : (k : Int) < (n : Int) := by omega
      obtain ⟨b, o, c, hv, hbw, hE⟩ := Tab.entAt HT2.out (by rw [HGn.out, tabOf_len]) (fun r hr => by rw [HGn.out] at hr; exact mem_tabOf hr) (by omega)
      simp at hv
      obtain ⟨rfl, -, rfl⟩ := hv
      obtain ⟨b', o', c', g1, hbw', -, gx⟩ := hE.at hkN (show 0 < n by omega)
      have G1 := Lib.hid g1
      have GX := Lib.hid (show ∀ x, x < n → w2.cell? ⟨b', o' + x, none⟩ = some (.int .i64 (gent FF W k x)) from fun x hx => by rw [gx x hx, HGn.out, ent_tabOf hkN hx])
      have HTk := Lib.hid (show garcs FF W (k + 1) = garcs FF W k ++ garcR FF W k n from by rw [garcs_succ, ← Hn.out])
      have HLn := Lib.hid (show (garcs FF W k).length ≤ 81 from by have := HLe.out k; omega)
      have HS0 := Lib.hid (show Sep w2.heap.size wk [Res.box w2.heap.size [.int .i64 L, .int .i64 (n : Int), .slice ya yn yc], Res.row 59 3 acell (.slice ya yn yc) (garcs FF W k ++ garcR FF W k 0)] from by rw [garcR_zero, List.append_nil]; exact HS.out)
      clear hE gx
      have g1 := (HB.out.cell (p := ⟨b, o + k, none⟩) hbw).trans g1
      go_wp2
      go_loopg [9] n (fun g i wr => ∃ (x : Nat) (ya : Option Addr) (yn yc : Nat), i = .int .i64 x ∧ x + g = n ∧ Hid (Sep w2.heap.size wr [Res.box w2.heap.size [.int .i64 L, .int .i64 (n : Int), .slice ya yn yc], Res.row 59 3 acell (.slice ya yn yc) (garcs FF W k ++ garcR FF W k x)]) ∧ Hid (Below w2.heap.size w2 wr))
      case atStart => exact ⟨0, _, _, _, rfl, by omega, HS0, HB⟩
      case round =>
        clear HS0 HS HB zk g1
        obtain ⟨x, ya, yn, yc, rfl, hx, HS, HB⟩ := hrel
        obtain ⟨wx, rfl⟩ : ∃ x, x = wr := ⟨_, rfl⟩
        have zx := HB.out.size
        obtain ⟨-, mx, hbx⟩ := HS.out.headBox
        have o2 := (hbx 2 _ rfl).1
        have o2f := (hbx 2 _ rfl).2
        have g1 := (HB.out.cell (p := ⟨b, o + k, none⟩) hbw).trans G1.out
        clear hbx
        by_cases hxN : x < n
        · have hxi : (x : Int) < (n : Int) := by omega
          have g2 := (HB.out.cell (p := ⟨b', o' + x, none⟩) hbw').trans (GX.out x hxN)
          obtain ⟨v, hv, _⟩ := at_lt (xs := W) (k := x) (by rw [← Hn.out]; exact hxN)
          have g3 := HSc.out x (wordT v) (by rw [List.getElem?_map, hv]; rfl)
          have g3 := (HB.out.cell (p := ⟨sb, x, none⟩) hsb).trans g3
          have hTv := HTw.out v (List.mem_of_getElem? hv)
          obtain ⟨hvs, -, hv1, -, -⟩ := hTv.facts
          have hlv : v.getD 1 0 < 3 := by obtain ⟨p, q, rfl, -, h⟩ := hTv; exact h
          have HTx := Lib.hid (show garcR FF W k (x + 1) = garcR FF W k x ++ (if goesB FF (W.getD k []) (W.getD x []) = true then [((k : Int), (x : Int), ((v.getD 1 0 : Nat) : Int))] else []) from by rw [garcR_succ, getD_of hv])
          have HLx := Lib.hid (show (garcs FF W k ++ garcR FF W k x).length ≤ 90 from by
            have h1 := garcR_le FF W k x
            rw [List.length_append]
            have := HLn.out
            omega)
          have HGe := Lib.hid (show gent FF W k x = if goesB FF (W.getD k []) (W.getD x []) = true then 1 else 0 from rfl)
          generalize gent FF W k x = t at g2 HGe
          generalize goesB FF (W.getD k []) (W.getD x []) = gg at HTx HGe
          obtain ⟨lv, hlve⟩ : ∃ l, l = v.getD 1 0 := ⟨_, rfl⟩
          rw [← hlve] at HTx hv1 hlv
          obtain ⟨svx, hsvx⟩ : ∃ x, x = wordT v := ⟨_, rfl⟩
          rw [← hsvx] at hvs hv1 g3
          clear hv hTv hlve hsvx
          cases gg with
          | true =>
            have et : t = 1 := HGe.out
            subst et
            have HR3 := Lib.hid (show garcR FF W k (x + 1) = garcR FF W k x ++ [((k : Int), (x : Int), (lv : Int))] from by rw [HTx.out, if_pos rfl])
            have hll := Lib.hid HLx.out
            have bsx : sb < wx.heap.size := by omega
            have B1 := ((Below.refl wx.heap.size wx).alloc (Nat.le_refl _) (.cells #[.int .i64 k, .int .i64 x, .int .i64 lv] 59)).drew
            obtain ⟨v', w5, hr, hs2, hb2⟩ := HS.out.swap.pushG (P := Try.prog) acell_lay 24 24 (.agg #[.int .i64 0, .int .i64 0, .int .i64 0]) 24 Try.underlying24 infoA rfl (by omega) (w1 := ((wx.alloc (.cells #[.int .i64 k, .int .i64 x, .int .i64 lv] 59)).drew)) B1 ((k : Int), (x : Int), (lv : Int)) (bb := wx.heap.size) 1
              (by
                intro i u hu
                match i, hu with
                | 0, hu => simp [acell] at hu; subst hu; simp [go_sem]
                | 1, hu => simp [acell] at hu; subst hu; simp [go_sem]
                | 2, hu => simp [acell] at hu; subst hu; simp [go_sem]) (by have := hll.out; omega) (by have := hll.out; omega)
            obtain ⟨za, zn, zc, rfl⟩ : ∃ a n c, v' = .slice a n c := hs2.headNew.imp (fun F hF => hF.1) |> fun h => by obtain ⟨F, hF⟩ := h; obtain ⟨a, c, e⟩ := RowG.slice hF; exact ⟨a, _, c, e⟩
            have hbx := hs2.swap.headBox.2
            have hc2 := (hbx.2 2 _ rfl).1
            have hf2 := (hbx.2 2 _ rfl).2
            have hg3 : w5.cell? ⟨sb, x, none⟩ = some (.string svx) := (hb2.cell (p := ⟨sb, x, none⟩) hsb).trans g3
            have hst := hs2.swap.boxStore (by have := hb2.size; omega) (j := 2) rfl (.slice za zn zc)
            have HST := Lib.hid (show Sep w2.heap.size (w5.setCell ⟨w2.heap.size, 2, none⟩ (.slice za zn zc)) [Res.box w2.heap.size [.int .i64 L, .int .i64 (n : Int), .slice za zn zc], Res.row 59 3 acell (.slice za zn zc) (garcs FF W k ++ garcR FF W k (x + 1))] from by rw [HR3.out, ← List.append_assoc]; exact hst)
            have HBs := Lib.hid ((HB.out.trans hb2).setCell (p := ⟨w2.heap.size, 2, none⟩) (Nat.le_refl _) (.slice za zn zc))
            have Hr := Lib.hid hr
            have hSd : wx.drew.cell? ⟨w2.heap.size, 2, none⟩ = some (.slice ya yn yc) ∧ wx.drew.cell? ⟨sb, x, none⟩ = some (.string svx) := ⟨o2, g3⟩
            have hS1 : ((wx.alloc (.cells #[.int .i64 k, .int .i64 x, .int .i64 lv] 59)).drew).cell? ⟨w2.heap.size, 2, none⟩ = some (.slice ya yn yc) ∧ ((wx.alloc (.cells #[.int .i64 k, .int .i64 x, .int .i64 lv] 59)).drew).cell? ⟨sb, x, none⟩ = some (.string svx) := ⟨(B1.cell (p := ⟨w2.heap.size, 2, none⟩) mx).trans o2, (B1.cell (p := ⟨sb, x, none⟩) bsx).trans g3⟩
            have hS2 : w5.cell? ⟨w2.heap.size, 2, none⟩ = some (.slice ya yn yc) ∧ w5.cell? ⟨sb, x, none⟩ = some (.string svx) := ⟨hc2, hg3⟩
            have hlw : IntKind.i64.wrap (IntKind.i64.wrap (97 + (lv : Int)) - 97) = (lv : Int) := lw_i64 hlv
            clear HTx B1 hr hs2 hb2 hbx hst HB hg3 HS HLx HGe
            go_wp2
            refine wp_region_L (fun w' => w'.cell? ⟨w2.heap.size, 2, none⟩ = some (.slice ya yn yc) ∧ w'.cell? ⟨sb, x, none⟩ = some (.string svx)) (by kernel_rfl) ?_
            refine wpAnyL_take 0 (v := ?_) rfl (by kernel_rfl) (by kernel_rfl) (by kernel_rfl) (by kernel_rfl) (fun _ _ _ h => h) (Or.inl ⟨by rfl, ?_⟩) hSd ?_
            rotate_left
            · (intro w hSw; (try dsimp only at hSw); go_simp) <;> (try with_reducible rfl)
            try simp only [Act.put, List.getElem_toArray, List.getElem_cons_zero, List.getElem_cons_succ, List.setIfInBounds_toArray, List.set_cons_zero, List.set_cons_succ]
            refine wpAnyL_take 1 (v := ?_) rfl (by kernel_rfl) (by kernel_rfl) (by kernel_rfl) (by kernel_rfl) (fun _ _ _ h => h) (Or.inl ⟨by rfl, ?_⟩) hSd ?_
            rotate_left
            · (intro w hSw; (try dsimp only at hSw); go_simp) <;> (try with_reducible rfl)
            try simp only [Act.put, List.getElem_toArray, List.getElem_cons_zero, List.getElem_cons_succ, List.setIfInBounds_toArray, List.set_cons_zero, List.set_cons_succ]
            refine wpAnyL_take 2 (v := ?_) rfl (by kernel_rfl) (by kernel_rfl) (by kernel_rfl) (by kernel_rfl) (fun _ _ _ h => h) (Or.inl ⟨by rfl, ?_⟩) hSd ?_
            rotate_left
            · (intro w hSw; (try dsimp only at hSw); go_simp) <;> (try with_reducible rfl)
            try simp only [Act.put, List.getElem_toArray, List.getElem_cons_zero, List.getElem_cons_succ, List.setIfInBounds_toArray, List.set_cons_zero, List.set_cons_succ]
            refine wpAnyL_take 3 (v := ?_) rfl (by kernel_rfl) (by kernel_rfl) (by kernel_rfl) (by kernel_rfl) (fun _ _ _ h => h) (Or.inl ⟨by rfl, ?_⟩) hSd ?_
            rotate_left
            · (intro w hSw; (try dsimp only at hSw); go_simp) <;> (try with_reducible rfl)
            try simp only [Act.put, List.getElem_toArray, List.getElem_cons_zero, List.getElem_cons_succ, List.setIfInBounds_toArray, List.set_cons_zero, List.set_cons_succ]
            refine wpAnyL_take 4 (v := ?_) rfl (by kernel_rfl) (by kernel_rfl) (by kernel_rfl) (by kernel_rfl) (fun _ _ _ h => h) (Or.inl ⟨by rfl, ?_⟩) hSd ?_
            rotate_left
            · (intro w hSw; (try dsimp only at hSw); go_simp) <;> (try with_reducible rfl)
            try simp only [Act.put, List.getElem_toArray, List.getElem_cons_zero, List.getElem_cons_succ, List.setIfInBounds_toArray, List.set_cons_zero, List.set_cons_succ]
            refine wpAnyL_take 5 (v := ?_) rfl (by kernel_rfl) (by kernel_rfl) (by kernel_rfl) (by kernel_rfl) (fun _ _ _ h => h) (Or.inl ⟨by rfl, ?_⟩) hSd ?_
            rotate_left
            · (intro w hSw; (try dsimp only at hSw); go_simp) <;> (try with_reducible rfl)
            try simp only [Act.put, List.getElem_toArray, List.getElem_cons_zero, List.getElem_cons_succ, List.setIfInBounds_toArray, List.set_cons_zero, List.set_cons_succ]
            refine wpAnyL_take 6 (v := ?_) rfl (by kernel_rfl) (by kernel_rfl) (by kernel_rfl) (by kernel_rfl) (fun _ _ _ h => h) (Or.inl ⟨by rfl, ?_⟩) hSd ?_
            rotate_left
            · (intro w hSw; (try dsimp only at hSw); go_simp) <;> (try with_reducible rfl)
            try simp only [Act.put, List.getElem_toArray, List.getElem_cons_zero, List.getElem_cons_succ, List.setIfInBounds_toArray, List.set_cons_zero, List.set_cons_succ]
            refine wpAnyL_take 7 (v := ?_) rfl (by kernel_rfl) (by kernel_rfl) (by kernel_rfl) (by kernel_rfl) (fun _ _ _ h => h) (Or.inl ⟨by rfl, ?_⟩) hSd ?_
            rotate_left
            · (intro w hSw; (try dsimp only at hSw); go_simp) <;> (try with_reducible rfl)
            try simp only [Act.put, List.getElem_toArray, List.getElem_cons_zero, List.getElem_cons_succ, List.setIfInBounds_toArray, List.set_cons_zero, List.set_cons_succ]
            refine wpAnyL_take 8 (v := ?_) rfl (by kernel_rfl) (by kernel_rfl) (by kernel_rfl) (by kernel_rfl) (fun _ _ _ h => h) (Or.inl ⟨by rfl, ?_⟩) hSd ?_
            rotate_left
            · (intro w hSw; (try dsimp only at hSw); go_simp) <;> (try with_reducible rfl)
            try simp only [Act.put, List.getElem_toArray, List.getElem_cons_zero, List.getElem_cons_succ, List.setIfInBounds_toArray, List.set_cons_zero, List.set_cons_succ]
            refine wpAnyL_take 9 (v := ?_) rfl (by kernel_rfl) (by kernel_rfl) (by kernel_rfl) (by kernel_rfl) (fun _ _ _ h => h) (Or.inl ⟨by rfl, ?_⟩) hSd ?_
            rotate_left
            · (intro w hSw; (try dsimp only at hSw); go_simp) <;> (try with_reducible rfl)
            try simp only [Act.put, List.getElem_toArray, List.getElem_cons_zero, List.getElem_cons_succ, List.setIfInBounds_toArray, List.set_cons_zero, List.set_cons_succ]
            refine wpAnyL_take 10 (v := ?_) rfl (by kernel_rfl) (by kernel_rfl) (by kernel_rfl) (by kernel_rfl) (fun _ _ _ h => h) (Or.inl ⟨by rfl, ?_⟩) hSd ?_
            rotate_left
            · (intro w hSw; (try dsimp only at hSw); go_simp) <;> (try with_reducible rfl)
            try simp only [Act.put, List.getElem_toArray, List.getElem_cons_zero, List.getElem_cons_succ, List.setIfInBounds_toArray, List.set_cons_zero, List.set_cons_succ]
            refine wpAnyL_take 11 (v := ?_) rfl (by kernel_rfl) (by kernel_rfl) (by kernel_rfl) (by kernel_rfl) (fun _ _ _ h => h) (Or.inl ⟨by rfl, ?_⟩) hSd ?_
            rotate_left
            · (intro w hSw; (try dsimp only at hSw); go_simp) <;> (try with_reducible rfl)
            try simp only [Act.put, List.getElem_toArray, List.getElem_cons_zero, List.getElem_cons_succ, List.setIfInBounds_toArray, List.set_cons_zero, List.set_cons_succ]
            refine wpAnyL_one 12 (by kernel_rfl) rfl (fun K hK => ?_)
            go_simp
            refine hK.out _ _ (fun _ => hS1) ?_
            clear hK K
            try simp only [Act.put, List.getElem_toArray, List.getElem_cons_zero, List.getElem_cons_succ, List.setIfInBounds_toArray, List.set_cons_zero, List.set_cons_succ]
            refine wpAnyL_one 13 (by kernel_rfl) rfl (fun K hK => ?_)
            refine step_append_run (by rfl) (.tmp 46) (.tmp 57) 24 (by rfl) (by rfl) (by rfl) Hr.out ?_
            refine hK.out _ _ (fun _ => hS2) ?_
            clear hK K
            try simp only [Act.put, List.getElem_toArray, List.getElem_cons_zero, List.getElem_cons_succ, List.setIfInBounds_toArray, List.set_cons_zero, List.set_cons_succ]
            refine wpAnyL_take 14 (v := ?_) rfl (by kernel_rfl) (by kernel_rfl) (by kernel_rfl) (by kernel_rfl) (fun _ _ _ h => h) (Or.inl ⟨by rfl, ?_⟩) hS2 ?_
            rotate_left
            · (intro w hSw; (try dsimp only at hSw); go_simp) <;> (try with_reducible rfl)
            try simp only [Act.put, List.getElem_toArray, List.getElem_cons_zero, List.getElem_cons_succ, List.setIfInBounds_toArray, List.set_cons_zero, List.set_cons_succ]
            refine wpAnyL_one 15 (by kernel_rfl) rfl (fun K hK => ?_)
            go_simp
            refine hK.out _ _ (fun h => absurd h (not_rem (by kernel_rfl))) ?_
            clear hK K
            try simp only [Act.put, List.getElem_toArray, List.getElem_cons_zero, List.getElem_cons_succ, List.setIfInBounds_toArray, List.set_cons_zero, List.set_cons_succ]
            refine wpAnyL_done (by kernel_rfl) ?_ _
            all_goals (
              go_wp2
              go_roundg (n - (x + 1))
              case measure => omega
              case rel => exact ⟨x + 1, za, zn, zc, by go_num, by omega, HST, HBs⟩)
          | false =>
            have et : t = 0 := HGe.out
            subst et
            have HR3 := Lib.hid (show garcR FF W k (x + 1) = garcR FF W k x from by rw [HTx.out, if_neg (by decide), List.append_nil])
            clear HTx HLx HGe
            go_wp2
            go_roundg (n - (x + 1))
            case measure => omega
            case rel => exact ⟨x + 1, ya, yn, yc, by go_num, by omega, by rw [HR3.out]; exact HS, HB⟩
        · obtain rfl : x = n := by omega
          have hxi : ¬ ((x : Int) < (x : Int)) := by omega
          have HSE := Lib.hid (show Sep w2.heap.size wx [Res.box w2.heap.size [.int .i64 L, .int .i64 (x : Int), .slice ya yn yc], Res.row 59 3 acell (.slice ya yn yc) (garcs FF W (k + 1))] from by rw [HTk.out]; exact HS.out)
          clear HTk HS GX
          go_wp2
          go_roundg (x - (k + 1))
          case measure => omega
          case rel => exact ⟨k + 1, ya, yn, yc, by go_num, by omega, HSE, HB⟩
    · obtain rfl : k = n := by omega
      have hki : ¬ ((k : Int) < (k : Int)) := by omega
      obtain ⟨-, mk, hbx⟩ := HS.out.headBox
      have o0 := (hbx 0 _ rfl).1
      have o1 := (hbx 1 _ rfl).1
      have o2 := (hbx 2 _ rfl).1
      have f2 := (hbx 2 _ rfl).2
      have HRd := Lib.hid (HS.out.swap.headNew)
      have hal : (garcs FF W k).length ≤ 81 := by have := HLe.out k; omega
      obtain ⟨yb, yc', ey, -, -, -, -, -⟩ := HRd.out.rowAt acell_lay HPo.out
      simp at ey
      obtain ⟨rfl, rfl, rfl⟩ := ey
      have HSf := Lib.hid (l14Sort_c (w := wk) (v := .slice (some ⟨yb, 0, none⟩) (garcs FF W k).length yc) (xs := garcs FF W k) (by
        obtain ⟨F, hF, -⟩ := HRd.out
        exact OArcs.reads (RowG.arcs hF)) (by omega))
      rw [sortM_id _ rfl HSo.out] at HSf
      replace R0 := Lib.hid ((HB.out.cell (p := ⟨w.heap.size + 1, 0, none⟩) h1w).trans R0.out)
      replace F0 := Lib.hid ((HB.out.frozen (p := ⟨w.heap.size + 1, 0, none⟩) h1w).trans F0.out)
      replace R1 := Lib.hid ((HB.out.cell (p := ⟨w.heap.size + 1, 1, none⟩) h1w).trans R1.out)
      replace F1 := Lib.hid ((HB.out.frozen (p := ⟨w.heap.size + 1, 1, none⟩) h1w).trans F1.out)
      replace R2 := Lib.hid ((HB.out.cell (p := ⟨w.heap.size + 1, 2, none⟩) h1w).trans R2.out)
      replace F2 := Lib.hid ((HB.out.frozen (p := ⟨w.heap.size + 1, 2, none⟩) h1w).trans F2.out)
      have HB2 := Lib.hid (A2.out.trans (HB.out.mono A2.out.size))
      have z4 : w2.heap.size ≤ wk.heap.size := HB.out.size
      have hr1 : w.heap.size + 1 < wk.heap.size := by omega
      generalize (garcs FF W k).length = al at HSf hal o2 ⊢
      clear HS HB hbx HT2 HRd
      go_wp2_with fail
      (with_reducible refine HSf.out.mono ?_)
      rintro e w7 ⟨r7, rfl, hn7, hb7⟩
      obtain ⟨za, zn, zc, rfl⟩ : ∃ a n c, r7 = .slice a n c := hn7.imp (fun F hF => hF.1) |> fun h => by obtain ⟨F, hF⟩ := h; obtain ⟨a, c, e⟩ := RowG.slice hF; exact ⟨a, _, c, e⟩
      have o0 := (hb7.cell (p := ⟨w2.heap.size, 0, none⟩) mk).trans o0
      have o1 := (hb7.cell (p := ⟨w2.heap.size, 1, none⟩) mk).trans o1
      have o2 := (hb7.cell (p := ⟨w2.heap.size, 2, none⟩) mk).trans o2
      have f2 := (hb7.frozen (p := ⟨w2.heap.size, 2, none⟩) mk).trans f2
      replace R0 := Lib.hid ((hb7.cell (p := ⟨w.heap.size + 1, 0, none⟩) hr1).trans R0.out)
      replace F0 := Lib.hid ((hb7.frozen (p := ⟨w.heap.size + 1, 0, none⟩) hr1).trans F0.out)
      replace R1 := Lib.hid ((hb7.cell (p := ⟨w.heap.size + 1, 1, none⟩) hr1).trans R1.out)
      replace F1 := Lib.hid ((hb7.frozen (p := ⟨w.heap.size + 1, 1, none⟩) hr1).trans F1.out)
      replace R2 := Lib.hid ((hb7.cell (p := ⟨w.heap.size + 1, 2, none⟩) hr1).trans R2.out)
      replace F2 := Lib.hid ((hb7.frozen (p := ⟨w.heap.size + 1, 2, none⟩) hr1).trans F2.out)
      have HB7 := Lib.hid ((HB2.out.trans (hb7.mono HB2.out.size)).setCell (p := ⟨w2.heap.size, 2, none⟩) (show w.heap.size ≤ w2.heap.size from by omega) (.slice za zn zc))
      have HN7 := Lib.hid (New.storeLow RowG.held hn7 (show w2.heap.size < wk.heap.size from mk) (.slice za zn zc) (p := ⟨w2.heap.size, 2, none⟩))
      have hr7 : w.heap.size + 1 < w7.heap.size := by have := hb7.size; omega
      have hne : ∀ j, (⟨w2.heap.size, 2, none⟩ : Addr) ≠ ⟨w.heap.size + 1, j, none⟩ := fun j => by simp <;> omega
      replace R0 := Lib.hid ((World.cell?_setCell_other w7 _ _ (.slice za zn zc) (hne 0)).trans R0.out)
      replace R1 := Lib.hid ((World.cell?_setCell_other w7 _ _ (.slice za zn zc) (hne 1)).trans R1.out)
      replace R2 := Lib.hid ((World.cell?_setCell_other w7 _ _ (.slice za zn zc) (hne 2)).trans R2.out)
      replace F0 := Lib.hid ((World.frozen?_setCell w7 ⟨w2.heap.size, 2, none⟩ ⟨w.heap.size + 1, 0, none⟩ (.slice za zn zc)).trans F0.out)
      replace F1 := Lib.hid ((World.frozen?_setCell w7 ⟨w2.heap.size, 2, none⟩ ⟨w.heap.size + 1, 1, none⟩ (.slice za zn zc)).trans F1.out)
      replace F2 := Lib.hid ((World.frozen?_setCell w7 ⟨w2.heap.size, 2, none⟩ ⟨w.heap.size + 1, 2, none⟩ (.slice za zn zc)).trans F2.out)
      clear hb7 HSf hn7 HB2 hne
      have r0 := R0.out
      have r1 := R1.out
      have r2 := R2.out
      have t0 := F0.out
      have t1 := F1.out
      have t2 := F2.out
      go_wp2
      have s0 := World.cell?_setCell_same (w7.setCell ⟨w2.heap.size, 2, none⟩ (.slice za zn zc)) _ (.int .i64 L) R0.out
      have u1 := (World.cell?_setCell_other _ ⟨w.heap.size + 1, 0, none⟩ _ (.int .i64 L) (by simp)).trans R1.out
      have s1 := World.cell?_setCell_same _ _ (.int .i64 (k : Int)) u1
      have u2 := (World.cell?_setCell_other _ ⟨w.heap.size + 1, 1, none⟩ _ (.int .i64 (k : Int)) (by simp)).trans ((World.cell?_setCell_other _ ⟨w.heap.size + 1, 0, none⟩ _ (.int .i64 L) (by simp)).trans R2.out)
      have s2 := World.cell?_setCell_same _ _ (.slice za zn zc) u2
      refine bodyPost_ret (v := .tuple #[.agg #[.int .i64 L, .int .i64 (k : Int), .slice za zn zc], .bool true]) (by simp [results, Try.results27, go_sem, s0, s1, s2]) rfl ?_
      refine ⟨_, rfl, ?_, (((HB7.out.setCell (p := ⟨w.heap.size + 1, 0, none⟩) (by simp) _).setCell (p := ⟨w.heap.size + 1, 1, none⟩) (by simp) _).setCell (p := ⟨w.heap.size + 1, 2, none⟩) (by simp) _)⟩
      have hk2 := New.storeLow RowG.held (New.storeLow RowG.held (New.storeLow RowG.held HN7.out hr1 (.int .i64 L) (p := ⟨w.heap.size + 1, 0, none⟩)) hr1 (.int .i64 (k : Int)) (p := ⟨w.heap.size + 1, 1, none⟩)) hr1 (.slice za zn zc) (p := ⟨w.heap.size + 1, 2, none⟩)
      obtain ⟨F, hF, hFn, hFg⟩ := hk2
      rw [HW.out]
      exact ⟨F, ⟨_, rfl, hF⟩, hFn, fun b hb => by have := hFg b hb; omega⟩
end Go.Proofs.Ytcilgihmaaobeaa
end
