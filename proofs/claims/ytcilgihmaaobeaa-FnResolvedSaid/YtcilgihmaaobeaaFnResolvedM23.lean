/-
  Texts of this claim joined: laws for its walks, contracts of the functions that the law reaches.
-/
import Derived.Test.YtcilgihmaaobeaaRows
import Derived.Test.YtcilgihmaaobeaaFnResolvedM1
import Derived.Test.YtcilgihmaaobeaaFnResolvedM2
import Derived.Test.YtcilgihmaaobeaaFnResolvedM3
import Derived.Test.YtcilgihmaaobeaaFnResolvedM4
import Derived.Test.YtcilgihmaaobeaaFnResolvedM22
import Derived.Test.YtcilgihmaaobeaaFnResolvedM5
import Derived.IntWalk
import Derived.Deep.RegionHeld3
import Derived.Deep.DeepCutAuto
import Derived.Test.YtcilgihmaaobeaaFnResolvedM9
import Derived.Test.YtcilgihmaaobeaaFnResolvedM10
import Derived.Test.YtcilgihmaaobeaaFnResolvedM19
set_option linter.unusedVariables false
set_option linter.unusedSimpArgs false
section
namespace Go.Proofs.Ytcilgihmaaobeaa
open Go.RowKit Go.Deep Go.Sd Go.Maps
set_option linter.unusedSimpArgs false

set_option maxHeartbeats 4000000 in
set_option maxRecDepth 100000 in
theorem impl_ReadSame_c {w : World} {va vb : Value} {a b : Lb} (ha : LabR w va a) (hb : LabR w vb b) :
    Calls Try.prog 15 #[va, vb] w fun e w' => e = .returned (.bool (readSameM a b)) ∧ Below w.heap.size w w' := by
  have H1 := Lib.hid (fun w1 (hb : Below w.heap.size w w1) => impl_IsLabels_c (LabR.frame _ _ _ _ ha hb))
  have H2 := Lib.hid (fun w1 (hb' : Below w.heap.size w w1) => impl_IsLabels_c (LabR.frame _ _ _ _ hb hb'))
  have Hfa := Lib.hid (fun w1 (hb : Below w.heap.size w w1) => LabR.frame _ _ _ _ ha hb)
  have Hfb := Lib.hid (fun w1 (hb' : Below w.heap.size w w1) => LabR.frame _ _ _ _ hb hb')
  have H0 := Lib.hid (readSame_eq a b)
  generalize readSameM a b = T at H0 ⊢
  have Hoa := Lib.hid (fun h => isLab_ok (l := a) h)
  have Hob := Lib.hid (fun h => isLab_ok (l := b) h)
  generalize isLab a = ia at H0 H1 Hoa
  generalize isLab b = ib at H0 H2 Hob
  obtain ⟨L, S, xa⟩ := a
  obtain ⟨M, U, xb⟩ := b
  obtain ⟨_, rfl, -, aa, ac, rfl, -, -, -, -⟩ := ha
  obtain ⟨_, rfl, -, ba, bc, rfl, -, -, -, -⟩ := hb
  simp only at *
  generalize hn : xa.length = n at *
  generalize hm : xb.length = m at *
  clear hn hm
  obtain ⟨wA, eA, hA0, zA, hA, hB⟩ := boxB3_ex w 26 26 (.int .i64 L) (.int .i64 S) (.slice aa n ac) (.int .i64 M) (.int .i64 U) (.slice ba m bc)
  have HA := Lib.hid hA0
  have K1 : Box3 wA w.heap.size (.int .i64 L) (.int .i64 S) (.slice aa n ac) := ⟨by omega, hA⟩
  have K2 : Box3 wA (w.heap.size + 1) (.int .i64 M) (.int .i64 U) (.slice ba m bc) := ⟨by omega, hB⟩
  have eW := eA.symm
  obtain ⟨-, c0, c1, c2⟩ := K1
  obtain ⟨-, d0, d1, d2⟩ := K2
  clear hA hB hA0 eA
  go_enter Try.func15, Try.ntmps15
  go_wp2_with fail
  refine (H1.out _ HA.out).mono ?_
  rintro e w1 ⟨rfl, hb1⟩
  replace c0 := (hb1.cell (p := ⟨w.heap.size, 0, none⟩) (by simp; omega)).trans c0
  replace c1 := (hb1.cell (p := ⟨w.heap.size, 1, none⟩) (by simp; omega)).trans c1
  replace c2 := (hb1.cell (p := ⟨w.heap.size, 2, none⟩) (by simp; omega)).trans c2
  replace d0 := (hb1.cell (p := ⟨w.heap.size + 1, 0, none⟩) (by simp; omega)).trans d0
  replace d1 := (hb1.cell (p := ⟨w.heap.size + 1, 1, none⟩) (by simp; omega)).trans d1
  replace d2 := (hb1.cell (p := ⟨w.heap.size + 1, 2, none⟩) (by simp; omega)).trans d2
  have h1 : w.heap.size + 1 < w1.heap.size := Nat.lt_of_lt_of_le (by omega) hb1.size
  have A1 := Lib.hid (HA.out.trans (hb1.mono HA.out.size))
  clear hb1 eW HA H1 zA
  cases ia with
  | false =>
    have HF := Lib.hid (show T = false from by rw [H0.out]; rfl)
    clear H0 H2 Hoa Hob Hfa Hfb
    go_wp2
    go_ret
    exact ⟨by rw [HF.out]; rfl, A1.out⟩
  | true =>
  obtain ⟨hoa, hS1, hS2, hL1, hL2⟩ := Hoa.out rfl
  go_wp2_with fail
  refine (H2.out _ A1.out).mono ?_
  rintro e w2 ⟨rfl, hb1⟩
  replace c0 := (hb1.cell (p := ⟨w.heap.size, 0, none⟩) (by simp; omega)).trans c0
  replace c1 := (hb1.cell (p := ⟨w.heap.size, 1, none⟩) (by simp; omega)).trans c1
  replace c2 := (hb1.cell (p := ⟨w.heap.size, 2, none⟩) (by simp; omega)).trans c2
  replace d0 := (hb1.cell (p := ⟨w.heap.size + 1, 0, none⟩) h1).trans d0
  replace d1 := (hb1.cell (p := ⟨w.heap.size + 1, 1, none⟩) h1).trans d1
  replace d2 := (hb1.cell (p := ⟨w.heap.size + 1, 2, none⟩) h1).trans d2
  replace h1 : w.heap.size + 1 < w2.heap.size := Nat.lt_of_lt_of_le h1 hb1.size
  replace A1 := Lib.hid (A1.out.trans (hb1.mono A1.out.size))
  clear hb1 H2 Hoa
  cases ib with
  | false =>
    have HF := Lib.hid (show T = false from by rw [H0.out]; rfl)
    clear H0 Hob Hfa Hfb
    go_wp2
    go_ret
    exact ⟨by rw [HF.out]; rfl, A1.out⟩
  | true =>
  obtain ⟨hob, hU1, hU2, hM1, hM2⟩ := Hob.out rfl
  clear Hob
  by_cases hLM : L = M
  · subst hLM
    have t0 : (L != L) = false := by simp
    obtain ⟨p, rfl⟩ := Int.eq_ofNat_of_zero_le (show 0 ≤ S by omega)
    obtain ⟨q, rfl⟩ := Int.eq_ofNat_of_zero_le (show 0 ≤ U by omega)
    have hA := allN_lt (S := (p : Int)) (by omega)
    have hB := allN_lt (S := (q : Int)) (by omega)
    have HAl := Lib.hid (fun w1 (hb : Below w.heap.size w w1) => impl_all_c (Hfa.out w1 hb) hS1 hS2)
    have HBl := Lib.hid (fun w1 (hb : Below w.heap.size w w1) => impl_all_c (Hfb.out w1 hb) hU1 hU2)
    have HG := Lib.hid (show T = (open Classical in decide (goodP xa xb L.toNat (allN (p : Int), allN (q : Int)))) from by rw [H0.out]; simp only [if_true]; rfl)
    simp only at HAl HBl
    generalize allN (p : Int) = A at hA HAl HG
    generalize allN (q : Int) = B at hB HBl HG
    obtain ⟨N, rfl⟩ := Int.eq_ofNat_of_zero_le (show 0 ≤ L by omega)
    rw [show (N : Int).toNat = N from rfl] at HG
    have HI := Lib.hid (InvP.start (A := xa) (B := xb) (L := N) (p0 := (A, B)) ⟨hA, hB⟩)
    have HStA := Lib.hid (fun w' (hb : Below w.heap.size w w') q (hq : q < 4096) x => impl_step_c (Hfa.out w' hb) hoa hS2 hq x)
    have HStB := Lib.hid (fun w' (hb : Below w.heap.size w w') q (hq : q < 4096) x => impl_step_c (Hfb.out w' hb) hob hU2 hq x)
    have HltA := Lib.hid (fun q x => stepN_lt hoa hS2 q x)
    have HltB := Lib.hid (fun q x => stepN_lt hob hU2 q x)
    simp only at HStA HStB HltA HltB
    have HAB := Lib.hid (show A < 4096 ∧ B < 4096 from ⟨hA, hB⟩)
    clear H0 hoa hob hS1 hS2 hU1 hU2 hM1 hM2 hA hB Hfa Hfb
    have hS0 : w2.cell? ⟨w.heap.size, 0, none⟩ = some (.int .i64 (N : Int)) ∧ w2.cell? ⟨w.heap.size, 1, none⟩ = some (.int .i64 (p : Int)) ∧ w2.cell? ⟨w.heap.size, 2, none⟩ = some (.slice aa n ac) ∧ w2.cell? ⟨w.heap.size + 1, 0, none⟩ = some (.int .i64 (N : Int)) ∧ w2.cell? ⟨w.heap.size + 1, 1, none⟩ = some (.int .i64 (q : Int)) ∧ w2.cell? ⟨w.heap.size + 1, 2, none⟩ = some (.slice ba m bc) := ⟨c0, c1, c2, d0, d1, d2⟩
    have hSd : w2.drew.cell? ⟨w.heap.size, 0, none⟩ = some (.int .i64 (N : Int)) ∧ w2.drew.cell? ⟨w.heap.size, 1, none⟩ = some (.int .i64 (p : Int)) ∧ w2.drew.cell? ⟨w.heap.size, 2, none⟩ = some (.slice aa n ac) ∧ w2.drew.cell? ⟨w.heap.size + 1, 0, none⟩ = some (.int .i64 (N : Int)) ∧ w2.drew.cell? ⟨w.heap.size + 1, 1, none⟩ = some (.int .i64 (q : Int)) ∧ w2.drew.cell? ⟨w.heap.size + 1, 2, none⟩ = some (.slice ba m bc) := hS0
    have HSS := Lib.hid (fun (w' : World) (hb3 : Below w2.heap.size w2 w') => (show w'.cell? ⟨w.heap.size, 0, none⟩ = some (.int .i64 (N : Int)) ∧ w'.cell? ⟨w.heap.size, 1, none⟩ = some (.int .i64 (p : Int)) ∧ w'.cell? ⟨w.heap.size, 2, none⟩ = some (.slice aa n ac) ∧ w'.cell? ⟨w.heap.size + 1, 0, none⟩ = some (.int .i64 (N : Int)) ∧ w'.cell? ⟨w.heap.size + 1, 1, none⟩ = some (.int .i64 (q : Int)) ∧ w'.cell? ⟨w.heap.size + 1, 2, none⟩ = some (.slice ba m bc) from ⟨(hb3.cell (p := ⟨w.heap.size, 0, none⟩) (show w.heap.size < _ by omega)).trans hS0.1, (hb3.cell (p := ⟨w.heap.size, 1, none⟩) (show w.heap.size < _ by omega)).trans hS0.2.1, (hb3.cell (p := ⟨w.heap.size, 2, none⟩) (show w.heap.size < _ by omega)).trans hS0.2.2.1, (hb3.cell (p := ⟨w.heap.size + 1, 0, none⟩) (show w.heap.size + 1 < _ by omega)).trans hS0.2.2.2.1, (hb3.cell (p := ⟨w.heap.size + 1, 1, none⟩) (show w.heap.size + 1 < _ by omega)).trans hS0.2.2.2.2.1, (hb3.cell (p := ⟨w.heap.size + 1, 2, none⟩) (show w.heap.size + 1 < _ by omega)).trans hS0.2.2.2.2.2⟩))
    have B1 := (Below.refl w2.heap.size w2).drew
    have HA1 := A1.out.trans (B1.mono A1.out.size)
    go_wp2
    go_region_held3 (fun w' => w'.cell? ⟨w.heap.size, 0, none⟩ = some (.int .i64 (N : Int)) ∧ w'.cell? ⟨w.heap.size, 1, none⟩ = some (.int .i64 (p : Int)) ∧ w'.cell? ⟨w.heap.size, 2, none⟩ = some (.slice aa n ac) ∧ w'.cell? ⟨w.heap.size + 1, 0, none⟩ = some (.int .i64 (N : Int)) ∧ w'.cell? ⟨w.heap.size + 1, 1, none⟩ = some (.int .i64 (q : Int)) ∧ w'.cell? ⟨w.heap.size + 1, 2, none⟩ = some (.slice ba m bc))
      (first | with_reducible exact hS2' | with_reducible exact hS1' | with_reducible exact hSd | with_reducible exact hS0 | go_keep)
      ((first
        | (go_at_call 38; (with_reducible refine (HBl.out _ HA2).mono ?_); rintro e w_3 ⟨rfl, hb⟩; have B3 := B2.trans (hb.mono B2.size); have hS2' := HSS.out _ B3; clear hb)
        | (go_at_call 38; (with_reducible refine (HAl.out _ HA1).mono ?_); rintro e w_2 ⟨rfl, hb⟩; have B2 := B1.trans (hb.mono B1.size); have hS1' := HSS.out _ B2; have HA2 := A1.out.trans (B2.mono A1.out.size); clear hb)
        | fail))
    have HB3 := Lib.hid (B3.alloc (show w2.heap.size ≤ w_3.heap.size from B3.size) (.cells #[.int .i64 (A : Int), .int .i64 (B : Int)] 68))
    have hz3 := B3.size
    have h1s := (Sep.nil w2.heap.size w_3).new RowG.held ((Below.refl _ _).alloc (Nat.le_refl _) _) hz3 (New.oneRow (e := 68) pcell_lay w_3 (A, B) (by unfold maxLen; omega))
    have h1t : Sep w2.heap.size (w_3.alloc (.cells #[.int .i64 (A : Int), .int .i64 (B : Int)] 68)) [Res.row 68 2 pcell (.slice (some ⟨w_3.heap.size, 0, none⟩) 1 1) [(A, B)]] := h1s
    obtain ⟨w3, e3⟩ : ∃ x, x = w_3.alloc (.cells #[.int .i64 (A : Int), .int .i64 (B : Int)] 68) := ⟨_, rfl⟩
    have q0 : w3.cell? ⟨w_3.heap.size, 0, none⟩ = some (.int .i64 (A : Int)) := by rw [e3]; simp [go_sem]
    have q1 : w3.cell? ⟨w_3.heap.size, 1, none⟩ = some (.int .i64 (B : Int)) := by rw [e3]; simp [go_sem]
    have hq : w_3.heap.size < w3.heap.size := by rw [e3]; simp
    rw [← e3] at h1t HB3 ⊢
    have hz3' := HB3.out.size
    have h2s := h1t.mapNew hz3' Try.prog 68 4 domP keyP (fun y : Bool => .lit (.bool y))
    rw [memG_nil] at h2s
    obtain ⟨w5, hr5, hs5, hb5, -⟩ := Sep.pairAdd (b := w3.heap.size) (n := 0) (ps := []) h2s (by simp; omega) (by omega) (A, B) ⟨by have := HAB.out; unfold domS; simp only; omega, by have := HAB.out; unfold domS; simp only; omega⟩
    have hr6 : (Instr.mapUpdate 70 (.map (some w3.heap.size)) (.agg #[.int .i64 (A : Int), .int .i64 (B : Int)]) (.bool true)).run Try.prog (w3.alloc (.map #[] 0)) = .ok () w5 := hr5
    have HS0 := Lib.hid hs5
    have HB0 := Lib.hid ((HB3.out.alloc hz3' (.map #[] 0)).trans hb5)
    have hmm := @run_makeMap Try.prog
    clear h1s h1t h2s hr5 hs5 hb5 e3 hS0 hSd HSS B1 HA1 B2 HA2 B3 hS1' hS2' HAB HAl HBl
    have Kc0 := Lib.hid c0
    have Kc1 := Lib.hid c1
    have Kc2 := Lib.hid c2
    have Kd0 := Lib.hid d0
    have Kd1 := Lib.hid d1
    have Kd2 := Lib.hid d2
    clear c0 c1 c2 d0 d1 d2
    go_wp2
    obtain ⟨bm, hbm⟩ : ∃ x, x = w3.heap.size := ⟨_, rfl⟩
    rw [← hbm] at HS0 ⊢
    clear hmm q0 q1 hq hbm hr6 HB3
    go_loopg [5, 7] 16777217 (fun g vl i wr => ∃ (k : Nat) (ps : List P2) (la : Option Addr) (lc : Nat), vl = .slice la ps.length lc ∧ i = .int .i64 k ∧ k + g = 16777217 ∧ Hid (InvP xa xb N (A, B) ps k 0) ∧ Hid (Sep w2.heap.size wr [Res.pairs bm ps.length ps, Res.row 68 2 pcell vl ps]) ∧ Hid (Below w2.heap.size w2 wr))
    case atStart => exact ⟨0, [(A, B)], _, _, rfl, rfl, by omega, HI, HS0, HB0⟩
    case round =>
      clear HI HS0 HB0 hz3 hz3'
      obtain ⟨k, ps, la, lc, rfl, rfl, hk, HI, HS, HB⟩ := hrel
      obtain ⟨wq, rfl⟩ : ∃ x, x = wr := ⟨_, rfl⟩
      have Hl := Lib.hid HI.out.len
      by_cases hlt : k < ps.length
      · have hz := HB.out.size
        have xc0 := (HB.out.cell (p := ⟨w.heap.size, 0, none⟩) (show w.heap.size < _ by omega)).trans Kc0.out
        obtain ⟨n0, hn0⟩ : ∃ x, x = ps.length := ⟨_, rfl⟩
        rw [← hn0] at hlt HS ⊢
        have hki : (k : Int) < (n0 : Int) := by omega
        have Hn0 := Lib.hid hn0
        clear hn0
        go_wp2
        go_loopg [5, 44] N (fun g2 vl i wx => ∃ (x : Nat) (ps : List P2) (la : Option Addr) (lc : Nat), vl = .slice la ps.length lc ∧ i = .int .i64 x ∧ x + g2 = N ∧ k < ps.length ∧ Hid (InvP xa xb N (A, B) ps k x) ∧ Hid (Sep w2.heap.size wx [Res.pairs bm ps.length ps, Res.row 68 2 pcell vl ps]) ∧ Hid (Below w2.heap.size w2 wx))
        case atStart => exact ⟨0, ps, _, _, by rw [Hn0.out], rfl, by omega, by rw [← Hn0.out]; exact hlt, HI, by rw [← Hn0.out]; exact HS, HB⟩
        case round =>
          clear HI HS HB Hn0 Hl hlt hki xc0 hz
          obtain ⟨x, ps, la, lc, rfl, rfl, hx, hlt, HI, HS, HB⟩ := hrel
          obtain ⟨wx, rfl⟩ : ∃ x, x = wr := ⟨_, rfl⟩
          have Hl := Lib.hid HI.out.len
          by_cases hxl : x < N
          · obtain ⟨y, hy, _⟩ := at_lt hlt
            obtain ⟨_, _, hv, hq⟩ := HS.out.swap.rowAt pcell_lay
            obtain ⟨bl, e1, hblo, hbl, hcl⟩ := hq (by omega)
            simp at hv
            obtain ⟨rfl, rfl⟩ := hv
            subst e1
            have f0 := hcl k y 0 (.int .i64 (y.1 : Int)) hy rfl
            have f1 := hcl k y 1 (.int .i64 (y.2 : Int)) hy rfl
            rw [Nat.add_zero] at f0
            have Hy := Lib.hid hy
            have hsm := HI.out.small y (List.mem_of_getElem? hy)
            have hz := HB.out.size
            have xc0 := (HB.out.cell (p := ⟨w.heap.size, 0, none⟩) (show w.heap.size < _ by omega)).trans (Kc0.out)
            have xc1 := (HB.out.cell (p := ⟨w.heap.size, 1, none⟩) (show w.heap.size < _ by omega)).trans (Kc1.out)
            have xc2 := (HB.out.cell (p := ⟨w.heap.size, 2, none⟩) (show w.heap.size < _ by omega)).trans (Kc2.out)
            have xd0 := (HB.out.cell (p := ⟨w.heap.size + 1, 0, none⟩) (show w.heap.size + 1 < _ by omega)).trans (Kd0.out)
            have xd1 := (HB.out.cell (p := ⟨w.heap.size + 1, 1, none⟩) (show w.heap.size + 1 < _ by omega)).trans (Kd1.out)
            have xd2 := (HB.out.cell (p := ⟨w.heap.size + 1, 2, none⟩) (show w.heap.size + 1 < _ by omega)).trans (Kd2.out)
            obtain ⟨s, hs⟩ : ∃ s, s = stepN xa y.1 (x : Int) := ⟨_, rfl⟩
            obtain ⟨t, ht⟩ : ∃ t, t = stepN xb y.2 (x : Int) := ⟨_, rfl⟩
            have HN := Lib.hid (show nextP xa xb y x = (s, t) from by rw [hs, ht]; rfl)
            have Hsl := Lib.hid (show s < 4096 from by rw [hs]; exact HltA.out _ _)
            have Htl := Lib.hid (show t < 4096 from by rw [ht]; exact HltB.out _ _)
            have HA := Lib.hid (A1.out.trans (HB.out.mono A1.out.size))
            have C1 := Lib.hid (fun w' (hb : Below w.heap.size w w') => HStA.out w' hb y.1 hsm.1 (x : Int))
            have C2 := Lib.hid (fun w' (hb : Below w.heap.size w w') => HStB.out w' hb y.2 hsm.2 (x : Int))
            rw [← hs] at C1
            rw [← ht] at C2
            obtain ⟨y1, y2⟩ := y
            have hkl : (k : Int) < (ps.length : Int) := by omega
            have hxN : (x : Int) < (N : Int) := by omega
            clear hy hcl hq hs ht hsm
            simp only at f0 f1 C1 C2 HN Hy
            have hS0 : wx.cell? ⟨w.heap.size, 0, none⟩ = some (.int .i64 (N : Int)) ∧ wx.cell? ⟨w.heap.size, 1, none⟩ = some (.int .i64 (p : Int)) ∧ wx.cell? ⟨w.heap.size, 2, none⟩ = some (.slice aa n ac) ∧ wx.cell? ⟨w.heap.size + 1, 0, none⟩ = some (.int .i64 (N : Int)) ∧ wx.cell? ⟨w.heap.size + 1, 1, none⟩ = some (.int .i64 (q : Int)) ∧ wx.cell? ⟨w.heap.size + 1, 2, none⟩ = some (.slice ba m bc) ∧ wx.cell? ⟨bl, k * 2, none⟩ = some (.int .i64 (y1 : Int)) ∧ wx.cell? ⟨bl, k * 2 + 1, none⟩ = some (.int .i64 (y2 : Int)) := ⟨xc0, xc1, xc2, xd0, xd1, xd2, f0, f1⟩
            have hSd : wx.drew.cell? ⟨w.heap.size, 0, none⟩ = some (.int .i64 (N : Int)) ∧ wx.drew.cell? ⟨w.heap.size, 1, none⟩ = some (.int .i64 (p : Int)) ∧ wx.drew.cell? ⟨w.heap.size, 2, none⟩ = some (.slice aa n ac) ∧ wx.drew.cell? ⟨w.heap.size + 1, 0, none⟩ = some (.int .i64 (N : Int)) ∧ wx.drew.cell? ⟨w.heap.size + 1, 1, none⟩ = some (.int .i64 (q : Int)) ∧ wx.drew.cell? ⟨w.heap.size + 1, 2, none⟩ = some (.slice ba m bc) ∧ wx.drew.cell? ⟨bl, k * 2, none⟩ = some (.int .i64 (y1 : Int)) ∧ wx.drew.cell? ⟨bl, k * 2 + 1, none⟩ = some (.int .i64 (y2 : Int)) := hS0
            have HSS := Lib.hid (fun (w' : World) (hb3 : Below wx.heap.size wx w') => (show w'.cell? ⟨w.heap.size, 0, none⟩ = some (.int .i64 (N : Int)) ∧ w'.cell? ⟨w.heap.size, 1, none⟩ = some (.int .i64 (p : Int)) ∧ w'.cell? ⟨w.heap.size, 2, none⟩ = some (.slice aa n ac) ∧ w'.cell? ⟨w.heap.size + 1, 0, none⟩ = some (.int .i64 (N : Int)) ∧ w'.cell? ⟨w.heap.size + 1, 1, none⟩ = some (.int .i64 (q : Int)) ∧ w'.cell? ⟨w.heap.size + 1, 2, none⟩ = some (.slice ba m bc) ∧ w'.cell? ⟨bl, k * 2, none⟩ = some (.int .i64 (y1 : Int)) ∧ w'.cell? ⟨bl, k * 2 + 1, none⟩ = some (.int .i64 (y2 : Int)) from ⟨(hb3.cell (p := ⟨w.heap.size, 0, none⟩) (show w.heap.size < _ by omega)).trans hS0.1, (hb3.cell (p := ⟨w.heap.size, 1, none⟩) (show w.heap.size < _ by omega)).trans hS0.2.1, (hb3.cell (p := ⟨w.heap.size, 2, none⟩) (show w.heap.size < _ by omega)).trans hS0.2.2.1, (hb3.cell (p := ⟨w.heap.size + 1, 0, none⟩) (show w.heap.size + 1 < _ by omega)).trans hS0.2.2.2.1, (hb3.cell (p := ⟨w.heap.size + 1, 1, none⟩) (show w.heap.size + 1 < _ by omega)).trans hS0.2.2.2.2.1, (hb3.cell (p := ⟨w.heap.size + 1, 2, none⟩) (show w.heap.size + 1 < _ by omega)).trans hS0.2.2.2.2.2.1, (hb3.cell (p := ⟨bl, k * 2, none⟩) hbl).trans hS0.2.2.2.2.2.2.1, (hb3.cell (p := ⟨bl, k * 2 + 1, none⟩) hbl).trans hS0.2.2.2.2.2.2.2⟩))
            have B1 := (Below.refl wx.heap.size wx).drew
            have HA1 := HA.out.trans (B1.mono HA.out.size)
            have B1a := ((Below.refl wx.heap.size wx).alloc (Nat.le_refl _) (.cells #[.int .i64 0, .int .i64 0] 68)).drew
            have HA1a := HA.out.trans (B1a.mono HA.out.size)
            clear xc0 xc1 xc2 xd0 xd1 xd2 f0 f1
            go_wp2
            go_region_held3 (fun w' => w'.cell? ⟨w.heap.size, 0, none⟩ = some (.int .i64 (N : Int)) ∧ w'.cell? ⟨w.heap.size, 1, none⟩ = some (.int .i64 (p : Int)) ∧ w'.cell? ⟨w.heap.size, 2, none⟩ = some (.slice aa n ac) ∧ w'.cell? ⟨w.heap.size + 1, 0, none⟩ = some (.int .i64 (N : Int)) ∧ w'.cell? ⟨w.heap.size + 1, 1, none⟩ = some (.int .i64 (q : Int)) ∧ w'.cell? ⟨w.heap.size + 1, 2, none⟩ = some (.slice ba m bc) ∧ w'.cell? ⟨bl, k * 2, none⟩ = some (.int .i64 (y1 : Int)) ∧ w'.cell? ⟨bl, k * 2 + 1, none⟩ = some (.int .i64 (y2 : Int)))
              (first | with_reducible exact hS2' | with_reducible exact hS1' | with_reducible exact hSd | with_reducible exact hS0 | (with_reducible exact HSS.out _ (B3.alloc B3.size _)) | (with_reducible exact HSS.out _ (B2.alloc B2.size _)) | (with_reducible exact HSS.out _ B1a) | (with_reducible exact HSS.out _ (B1.alloc B1.size _)) | (with_reducible exact HSS.out _ ((B3.setCell B2.size _).setCell B2.size _)) | (with_reducible exact HSS.out _ ((B3.setCell B1.size _).setCell B1.size _)) | (with_reducible exact HSS.out _ (((B3.alloc B3.size _).setCell B3.size _).setCell B3.size _)) | go_keep)
              ((first
                | (go_at_call 39; (with_reducible refine (C2.out _ HA2).mono ?_); rintro e w_3 ⟨rfl, hb⟩; have B3 := B2.trans (hb.mono B2.size); have hS2' := HSS.out _ B3; try replace z0 := (hb.cell (p := ⟨wx.heap.size, 0, none⟩) hzl).trans z0; try replace y0 := (hb.frozen (p := ⟨wx.heap.size, 0, none⟩) hzl).trans y0; try replace z1 := (hb.cell (p := ⟨wx.heap.size, 1, none⟩) hzl).trans z1; try replace y1 := (hb.frozen (p := ⟨wx.heap.size, 1, none⟩) hzl).trans y1; clear hb)
                | (go_at_call 39; (with_reducible refine (C2.out _ (HA2.alloc (Nat.le_trans HA.out.size B2.size) _)).mono ?_); rintro e w_3 ⟨rfl, hb⟩; have B3 := (B2.alloc B2.size (.cells #[.int .i64 0, .int .i64 0] 68)).trans (hb.mono (B2.alloc B2.size (.cells #[.int .i64 0, .int .i64 0] 68)).size); have hS2' := HSS.out _ B3; have z0 := (hb.cell (p := ⟨w_2.heap.size, 0, none⟩) (by simp)).trans (show (w_2.alloc (.cells #[.int .i64 0, .int .i64 0] 68)).cell? ⟨w_2.heap.size, 0, none⟩ = some (.int .i64 0) by simp [go_sem]); have y0 := (hb.frozen (p := ⟨w_2.heap.size, 0, none⟩) (by simp)).trans (show (w_2.alloc (.cells #[.int .i64 0, .int .i64 0] 68)).frozen? ⟨w_2.heap.size, 0, none⟩ = false by simp [go_sem]); have z1 := (hb.cell (p := ⟨w_2.heap.size, 1, none⟩) (by simp)).trans (show (w_2.alloc (.cells #[.int .i64 0, .int .i64 0] 68)).cell? ⟨w_2.heap.size, 1, none⟩ = some (.int .i64 0) by simp [go_sem]); have y1 := (hb.frozen (p := ⟨w_2.heap.size, 1, none⟩) (by simp)).trans (show (w_2.alloc (.cells #[.int .i64 0, .int .i64 0] 68)).frozen? ⟨w_2.heap.size, 1, none⟩ = false by simp [go_sem]); clear hb)
                | (go_at_call 39; (with_reducible refine (C1.out _ HA1).mono ?_); rintro e w_2 ⟨rfl, hb⟩; have B2 := B1.trans (hb.mono B1.size); have hS1' := HSS.out _ B2; have HA2 := HA.out.trans (B2.mono HA.out.size); clear hb)
                | (go_at_call 39; (with_reducible refine (C1.out _ HA1a).mono ?_); rintro e w_2 ⟨rfl, hb⟩; have B2 := B1a.trans (hb.mono B1a.size); have hS1' := HSS.out _ B2; have HA2 := HA.out.trans (B2.mono HA.out.size); have z0 := (hb.cell (p := ⟨wx.heap.size, 0, none⟩) (by simp)).trans (show ((wx.alloc (.cells #[.int .i64 0, .int .i64 0] 68)).drew).cell? ⟨wx.heap.size, 0, none⟩ = some (.int .i64 0) by simp [go_sem]); have y0 := (hb.frozen (p := ⟨wx.heap.size, 0, none⟩) (by simp)).trans (show ((wx.alloc (.cells #[.int .i64 0, .int .i64 0] 68)).drew).frozen? ⟨wx.heap.size, 0, none⟩ = false by simp [go_sem]); have z1 := (hb.cell (p := ⟨wx.heap.size, 1, none⟩) (by simp)).trans (show ((wx.alloc (.cells #[.int .i64 0, .int .i64 0] 68)).drew).cell? ⟨wx.heap.size, 1, none⟩ = some (.int .i64 0) by simp [go_sem]); have y1 := (hb.frozen (p := ⟨wx.heap.size, 1, none⟩) (by simp)).trans (show ((wx.alloc (.cells #[.int .i64 0, .int .i64 0] 68)).drew).frozen? ⟨wx.heap.size, 1, none⟩ = false by simp [go_sem]); have hzl : wx.heap.size < w_2.heap.size := Nat.lt_of_lt_of_le (by simp) hb.size; clear hb)
                | fail))
            all_goals first
              | (obtain ⟨w6, e6⟩ : ∃ x, x = (w_3.alloc (.cells #[.int .i64 (s : Int), .int .i64 (t : Int)] 68)) := ⟨_, rfl⟩; rw [← e6]; have g0 : w6.cell? ⟨w_3.heap.size, 0, none⟩ = some (.int .i64 (s : Int)) := (by rw [e6]; simp [go_sem]); have g1 : w6.cell? ⟨w_3.heap.size, 1, none⟩ = some (.int .i64 (t : Int)) := (by rw [e6]; simp [go_sem]); have hb9 : w_3.heap.size < w6.heap.size := (by rw [e6]; simp); have HB6 := Lib.hid (show Below wx.heap.size wx w6 from (by rw [e6]; exact B3.alloc B3.size _)); obtain ⟨b9, e9⟩ : ∃ x, x = w_3.heap.size := ⟨_, rfl⟩; have hlo9 : wx.heap.size ≤ b9 := (by rw [e9]; exact B3.size); rw [← e9] at g0 g1 hb9 ⊢; clear e6 e9)
              | (obtain ⟨w6, e6⟩ : ∃ x, x = ((w_3.setCell ⟨w_2.heap.size, 0, none⟩ (.int .i64 (s : Int))).setCell ⟨w_2.heap.size, 1, none⟩ (.int .i64 (t : Int))) := ⟨_, rfl⟩; rw [← e6]; have g0 : w6.cell? ⟨w_2.heap.size, 0, none⟩ = some (.int .i64 (s : Int)) := (by rw [e6]; exact (World.cell?_setCell_other _ _ _ _ (by simp)).trans (World.cell?_setCell_same _ _ _ z0)); have g1 : w6.cell? ⟨w_2.heap.size, 1, none⟩ = some (.int .i64 (t : Int)) := (by rw [e6]; exact World.cell?_setCell_same _ _ _ ((World.cell?_setCell_other _ _ _ _ (by simp)).trans z1)); have hb9 : w_2.heap.size < w6.heap.size := World.block_lt_of_cell? _ _ g0; have HB6 := Lib.hid (show Below wx.heap.size wx w6 from (by rw [e6]; exact (B3.setCell B2.size _).setCell B2.size _)); obtain ⟨b9, e9⟩ : ∃ x, x = w_2.heap.size := ⟨_, rfl⟩; have hlo9 : wx.heap.size ≤ b9 := (by rw [e9]; exact B2.size); rw [← e9] at g0 g1 hb9 ⊢; clear e6 e9; clear z0 z1 y0 y1; try clear hzl)
              | (obtain ⟨w6, e6⟩ : ∃ x, x = ((w_3.setCell ⟨wx.heap.size, 0, none⟩ (.int .i64 (s : Int))).setCell ⟨wx.heap.size, 1, none⟩ (.int .i64 (t : Int))) := ⟨_, rfl⟩; rw [← e6]; have g0 : w6.cell? ⟨wx.heap.size, 0, none⟩ = some (.int .i64 (s : Int)) := (by rw [e6]; exact (World.cell?_setCell_other _ _ _ _ (by simp)).trans (World.cell?_setCell_same _ _ _ z0)); have g1 : w6.cell? ⟨wx.heap.size, 1, none⟩ = some (.int .i64 (t : Int)) := (by rw [e6]; exact World.cell?_setCell_same _ _ _ ((World.cell?_setCell_other _ _ _ _ (by simp)).trans z1)); have hb9 : wx.heap.size < w6.heap.size := World.block_lt_of_cell? _ _ g0; have HB6 := Lib.hid (show Below wx.heap.size wx w6 from (by rw [e6]; exact (B3.setCell (Nat.le_refl _) _).setCell (Nat.le_refl _) _)); obtain ⟨b9, e9⟩ : ∃ x, x = wx.heap.size := ⟨_, rfl⟩; have hlo9 : wx.heap.size ≤ b9 := (by rw [e9]; exact (Nat.le_refl _)); rw [← e9] at g0 g1 hb9 ⊢; clear e6 e9; clear z0 z1 y0 y1; try clear hzl)
            all_goals clear hS0 hSd HSS B1 B1a HA1 HA1a B2 B3 HA2 hS1' hS2'
            all_goals (
              have HSx := HS
              have HS6 := Lib.hid (HS.out.below HB6.out (Nat.le_refl _))
              have hz6 := HB6.out.size
              have HBB := Lib.hid (HB.out.trans (HB6.out.mono hz))
              have HA6 := Lib.hid (HA.out.trans (HB6.out.mono HA.out.size))
              clear HS HB HA HB6 C1 C2 hbl hblo
              have hl := Hl.out
              have hz26 : w2.heap.size ≤ w6.heap.size := by omega
              have hdom : domP (s, t) := ⟨by have := Hsl.out; unfold domS; simp only; omega, by have := Htl.out; unfold domS; simp only; omega⟩
              have hlk := Lib.hid (HS6.out.pairLook (s, t) hdom)
              obtain ⟨w7, hr7, hs7, hb7, hk7⟩ := HS6.out.pairAdd hz26 hl (s, t) hdom
              have hz7 := hb7.size
              have hbm := HSx.out.mapLt
              have H79 := Lib.hid (fun (o : Nat) u (hu : w6.cell? ⟨b9, o, none⟩ = some u) => (hk7 ⟨b9, o, none⟩ hb9 (by simp only; omega)).trans hu)
              clear hk7
              obtain ⟨v', w8, hr8, hs8, hb8⟩ := hs7.swap.pushG (P := Try.prog) pcell_lay 69 69 (.agg #[.int .i64 0, .int .i64 0]) 16 Try.underlying69 infoP2 rfl (by omega) (w1 := (w7.alloc (.cells #[.int .i64 (s : Int), .int .i64 (t : Int)] 68))) ((Below.refl _ _).alloc (Nat.le_refl _) _) (s, t) (bb := w7.heap.size) 1 (fun j u hj => (World.cell?_alloc_at _ _ _ j rfl).trans (by simpa [pcell] using hj)) (by omega) (by omega)
              obtain ⟨ya, yc, rfl, _⟩ := hs8.rowAt pcell_lay
              have e5 : (ps ++ [(s, t)]).length = ps.length + 1 := by simp
              rw [e5] at hr8 hs8
              have HS8 := Lib.hid (show Sep w2.heap.size w8 [Res.pairs bm (ps ++ [(s, t)]).length (ps ++ [(s, t)]), Res.row 68 2 pcell (.slice ya (ps.length + 1) yc) (ps ++ [(s, t)])] from by rw [e5]; exact hs8.swap)
              have HB8 := Lib.hid (HBB.out.trans (hb7.trans hb8))
              have E5 := Lib.hid e5
              have Hr7 := Lib.hid hr7
              have Hr8 := Lib.hid hr8
              clear HSx e5 hs7 hs8 hb7 hb8 hr7 hr8 hdom
              by_cases hs0 : s = 0
              · subst hs0
                by_cases ht0 : t = 0
                · subst ht0
                  have Hb := Lib.hid (show badP (0, 0) = false from rfl)
                  have g0' : w6.cell? ⟨b9, 0, none⟩ = some (.int .i64 0) := g0
                  have g1' : w6.cell? ⟨b9, 1, none⟩ = some (.int .i64 0) := g1
                  clear g0 g1
                  by_cases hm : (0, 0) ∈ ps
                  · have hlk2 : (Instr.lookup 70 (.map (some bm)) (.agg #[.int .i64 0, .int .i64 0]) false).run Try.prog w6 = .ok (.bool true) w6 := by have h := hlk.out; rw [decide_eq_true hm] at h; exact h
                    have HI2 := Lib.hid (HI.out.known Hy.out (by rw [HN.out]; exact Hb.out) (by rw [HN.out]; exact Or.inr hm))
                    clear HI hm hlk HS8 HB8 Hr7 Hr8 HG
                    go_wp2
                    go_roundg (N - (x + 1))
                    case measure => omega
                    case rel => exact ⟨x + 1, ps, _, _, rfl, by go_num, by omega, hlt, HI2, HS6, HBB⟩
                  · have hlk2 : (Instr.lookup 70 (.map (some bm)) (.agg #[.int .i64 0, .int .i64 0]) false).run Try.prog w6 = .ok (.bool false) w6 := by have h := hlk.out; rw [decide_eq_false hm] at h; exact h
                    have HI2 := Lib.hid (HI.out.add Hy.out hxl (by rw [HN.out]; exact Hb.out) (by rw [HN.out]; exact hm) (by rw [HN.out]; exact ⟨Hsl.out, Htl.out⟩))
                    rw [HN.out] at HI2
                    have hr7' : (Instr.mapUpdate 70 (.map (some bm)) (.agg #[.int .i64 0, .int .i64 0]) (.bool true)).run Try.prog w6 = .ok () w7 := Hr7.out
                    have g0n : w7.cell? ⟨b9, 0, none⟩ = some (.int .i64 0) := H79.out 0 _ g0'
                    have g1n : w7.cell? ⟨b9, 1, none⟩ = some (.int .i64 0) := H79.out 1 _ g1'
                    have Hlt' := Lib.hid (show k < (ps ++ [(0, 0)]).length from by simp; omega)
                    clear HI hm hlk HS6 HBB HG
                    go_wp2_with (first
                      | (at_builtin; refine wpl_append_run rfl (.tmp 77) (.tmp 79) 69 rfl rfl rfl Hr8.out ?_)
                      | fail)
                    go_roundg (N - (x + 1))
                    case measure => omega
                    case rel => exact ⟨x + 1, ps ++ [(0, 0)], _, _, by rw [E5.out], by go_num, by omega, Hlt'.out, HI2, HS8, HB8⟩
                · have ht1 : 0 < t := by omega
                  have ht2 : (0 : Int) < (t : Int) := by omega
                  have ht3 : ((t : Int) == 0) = false := by simp; omega
                  have g0' : w6.cell? ⟨b9, 0, none⟩ = some (.int .i64 0) := g0
                  clear g0
                  have HF := Lib.hid (show T = false from by rw [HG.out]; simp only [decide_eq_false_iff_not]; exact HI.out.bad Hy.out hxl (by rw [HN.out]; simp [badP, ht0]))
                  clear HI HS6 HBB HS8 HB8 Hr7 Hr8 hlk
                  go_wp2
                  go_ret
                  exact ⟨by rw [HF.out]; rfl, HA6.out⟩
              · have hs1 : 0 < s := by omega
                have hs2 : (0 : Int) < (s : Int) := by omega
                have hs3 : ((s : Int) == 0) = false := by simp; omega
                by_cases ht0 : t = 0
                · subst ht0
                  have g1' : w6.cell? ⟨b9, 1, none⟩ = some (.int .i64 0) := g1
                  clear g1
                  have HF := Lib.hid (show T = false from by rw [HG.out]; simp only [decide_eq_false_iff_not]; exact HI.out.bad Hy.out hxl (by rw [HN.out]; simp [badP, hs0]))
                  clear HI HS6 HBB HS8 HB8 Hr7 Hr8 hlk
                  go_wp2
                  go_ret
                  exact ⟨by rw [HF.out]; rfl, HA6.out⟩
                · have ht1 : 0 < t := by omega
                  have ht2 : (0 : Int) < (t : Int) := by omega
                  have ht3 : ((t : Int) == 0) = false := by simp; omega
                  have Hb := Lib.hid (show badP (s, t) = false from by have z1 : (s == 0) = false := (by simpa using hs0); have z2 : (t == 0) = false := (by simpa using ht0); simp only [badP]; rw [z1, z2]; rfl)
                  by_cases hm : (s, t) ∈ ps
                  · have hlk2 : (Instr.lookup 70 (.map (some bm)) (.agg #[.int .i64 (s : Int), .int .i64 (t : Int)]) false).run Try.prog w6 = .ok (.bool true) w6 := by have h := hlk.out; rw [decide_eq_true hm] at h; exact h
                    have HI2 := Lib.hid (HI.out.known Hy.out (by rw [HN.out]; exact Hb.out) (by rw [HN.out]; exact Or.inr hm))
                    clear HI hm hlk HS8 HB8 Hr7 Hr8 HG
                    go_wp2
                    go_roundg (N - (x + 1))
                    case measure => omega
                    case rel => exact ⟨x + 1, ps, _, _, rfl, by go_num, by omega, hlt, HI2, HS6, HBB⟩
                  · have hlk2 : (Instr.lookup 70 (.map (some bm)) (.agg #[.int .i64 (s : Int), .int .i64 (t : Int)]) false).run Try.prog w6 = .ok (.bool false) w6 := by have h := hlk.out; rw [decide_eq_false hm] at h; exact h
                    have HI2 := Lib.hid (HI.out.add Hy.out hxl (by rw [HN.out]; exact Hb.out) (by rw [HN.out]; exact hm) (by rw [HN.out]; exact ⟨Hsl.out, Htl.out⟩))
                    rw [HN.out] at HI2
                    have hr7' : (Instr.mapUpdate 70 (.map (some bm)) (.agg #[.int .i64 (s : Int), .int .i64 (t : Int)]) (.bool true)).run Try.prog w6 = .ok () w7 := Hr7.out
                    have g0n : w7.cell? ⟨b9, 0, none⟩ = some (.int .i64 (s : Int)) := H79.out 0 _ g0
                    have g1n : w7.cell? ⟨b9, 1, none⟩ = some (.int .i64 (t : Int)) := H79.out 1 _ g1
                    have Hlt' := Lib.hid (show k < (ps ++ [(s, t)]).length from by simp; omega)
                    clear HI hm hlk HS6 HBB HG
                    go_wp2_with (first
                      | (at_builtin; refine wpl_append_run rfl (.tmp 77) (.tmp 79) 69 rfl rfl rfl Hr8.out ?_)
                      | fail)
                    go_roundg (N - (x + 1))
                    case measure => omega
                    case rel => exact ⟨x + 1, ps ++ [(s, t)], _, _, by rw [E5.out], by go_num, by omega, Hlt'.out, HI2, HS8, HB8⟩
              )
          · have HI2 := Lib.hid (show InvP xa xb N (A, B) ps (k + 1) 0 from by have h := HI.out; rw [show x = N by omega] at h; exact h.next)
            have hxi : ¬ ((x : Int) < (N : Int)) := by omega
            have hl := Hl.out
            clear HI hxl hx
            go_wp2
            go_roundg (16777217 - (k + 1))
            case measure => omega
            case rel => exact ⟨k + 1, ps, _, _, rfl, by go_num, by omega, HI2, HS, HB⟩
      · have HF := Lib.hid (show T = true from by rw [HG.out]; simp only [decide_eq_true_iff]; exact HI.out.end (by omega))
        have Hz := Lib.hid (A1.out.trans (HB.out.mono A1.out.size))
        clear HI HS HB Hl
        go_wp2
        go_ret
        exact ⟨by rw [HF.out]; rfl, Hz.out⟩
  · have HF := Lib.hid (show T = false from by rw [H0.out]; simp [hLM])
    have t0 : (L != M) = true := by simp [hLM]
    clear H0 Hfa Hfb
    go_wp2
    go_ret
    exact ⟨by rw [HF.out]; rfl, A1.out⟩
end Go.Proofs.Ytcilgihmaaobeaa
end

section
namespace Go.Proofs.Ytcilgihmaaobeaa
open Go.RowKit Go.Deep Go.Sd
set_option linter.unusedSimpArgs false
def folF (xs : List Arc3) (p : Nat) (wd : List Nat) : Bool := decide (0 < readB xs (wordT wd).data.toList (2 ^ p))
def followM (l : Lb) (p n : Int) : List ByteArray := if (isLab l && decide (0 ≤ p ∧ p < l.2.1 ∧ 0 ≤ n ∧ n ≤ 6)) = true then ((allW l.1.toNat n.toNat).filter (folF l.2.2 p.toNat)).map wordT else []
theorem pow_lt12 {p : Nat} (h : p < 12) : 2 ^ p < 4096 := by
  have h1 : 2 ^ p < 2 ^ 12 := Nat.pow_lt_pow_right (by decide) h
  omega
theorem shl_p (p : Nat) (h : p < 12) : wrap64 ((2 : Int) ^ p) = ((2 ^ p : Nat) : Int) := by
  obtain ⟨P, hP, _, _, hw⟩ := shl_one p (by omega)
  rw [hw, hP]
set_option maxHeartbeats 2000000 in
set_option maxRecDepth 100000 in
theorem folclo_c {w : World} {bL bP : Nat} {L S : Int} {p : Nat} {a : Option Addr} {n c : Nat} {xs : List Arc3} (hb : Box3 w bL (.int .i64 L) (.int .i64 S) (.slice a n c)) (hbp : bP < w.heap.size ∧ w.cell? ⟨bP, 0, none⟩ = some (.int .i64 p)) (hfr : ∀ w1, Below w.heap.size w w1 → LabR w1 (.agg #[.int .i64 L, .int .i64 S, .slice a n c]) (L, S, xs)) (ho : okArcs S xs) (hS2 : S ≤ 12) (hp : p < 12) {wd : List Nat} (hw : ∀ x, x ∈ wd → x < 3) (hl : wd.length ≤ 16) :
    Calls Try.prog 52 #[.string (wordT wd), .pointer (some ⟨bL, 0, none⟩), .pointer (some ⟨bP, 0, none⟩)] w fun e w' => e = .returned (.bool (folF xs p wd)) ∧ Below w.heap.size w w' := by
  have C2 := Lib.hid (fun w1 (h : Below w.heap.size w w1) => impl_read_c (hfr w1 h) ho hS2 (pow_lt12 hp) (s := wordT wd) (by rw [wordT_size]; unfold maxLen; omega) (fun c hc => (wordT_bytes hw c hc).1))
  have hwp := shl_p p hp
  simp only at C2
  have HF := Lib.hid (show folF xs p wd = decide (0 < readB xs (wordT wd).data.toList (2 ^ p)) from rfl)
  generalize readB xs (wordT wd).data.toList (2 ^ p) = r at C2 HF
  generalize folF xs p wd = T at HF ⊢
  obtain ⟨P, hP⟩ : ∃ P, P = 2 ^ p := ⟨_, rfl⟩
  rw [← hP] at C2 hwp
  have hwp2 : IntKind.i64.wrap ((2 : Int) ^ p) = (P : Int) := by rw [IntWalk.i64_left]; exact hwp
  clear hP
  obtain ⟨m1, hc0, hc1, hc2⟩ := hb
  obtain ⟨m2, hc3⟩ := hbp
  have hS0 : w.cell? ⟨bL, 0, none⟩ = some (.int .i64 L) ∧ w.cell? ⟨bL, 1, none⟩ = some (.int .i64 S) ∧ w.cell? ⟨bL, 2, none⟩ = some (.slice a n c) ∧ w.cell? ⟨bP, 0, none⟩ = some (.int .i64 p) := ⟨hc0, hc1, hc2, hc3⟩
  have hSd : w.drew.cell? ⟨bL, 0, none⟩ = some (.int .i64 L) ∧ w.drew.cell? ⟨bL, 1, none⟩ = some (.int .i64 S) ∧ w.drew.cell? ⟨bL, 2, none⟩ = some (.slice a n c) ∧ w.drew.cell? ⟨bP, 0, none⟩ = some (.int .i64 p) := hS0
  have HSS := Lib.hid (fun (w' : World) (hb3 : Below w.heap.size w w') => (show w'.cell? ⟨bL, 0, none⟩ = some (.int .i64 L) ∧ w'.cell? ⟨bL, 1, none⟩ = some (.int .i64 S) ∧ w'.cell? ⟨bL, 2, none⟩ = some (.slice a n c) ∧ w'.cell? ⟨bP, 0, none⟩ = some (.int .i64 p) from ⟨(hb3.cell (p := ⟨bL, 0, none⟩) m1).trans hS0.1, (hb3.cell (p := ⟨bL, 1, none⟩) m1).trans hS0.2.1, (hb3.cell (p := ⟨bL, 2, none⟩) m1).trans hS0.2.2.1, (hb3.cell (p := ⟨bP, 0, none⟩) m2).trans hS0.2.2.2⟩))
  have B1 := (Below.refl w.heap.size w).drew
  have HyT := Lib.hid (show ∀ b : Bool, b = decide (0 < r) → b = T from fun b h => by rw [h, HF.out])
  have hp64 : p < 64 := by omega
  clear hfr ho hS2 hw hl HF hc0 hc1 hc2 hc3
  go_enter Try.func52, Try.ntmps52
  go_wp2
  go_region_held3 (fun w' => w'.cell? ⟨bL, 0, none⟩ = some (.int .i64 L) ∧ w'.cell? ⟨bL, 1, none⟩ = some (.int .i64 S) ∧ w'.cell? ⟨bL, 2, none⟩ = some (.slice a n c) ∧ w'.cell? ⟨bP, 0, none⟩ = some (.int .i64 p))
    (first | with_reducible exact hS2 | with_reducible exact hSd | with_reducible exact hS0 | go_keep)
    ((first
      | (go_at_call 53; (with_reducible refine (C2.out _ B1).mono ?_); rintro e w_3 ⟨rfl, hb⟩; have B3 := B1.trans (hb.mono B1.size); have hS2 := HSS.out _ B3; clear hb)
      | fail))
  go_wp2
  go_ret
  exact ⟨by rw [← HyT.out _ rfl]; simp, B3⟩
set_option maxHeartbeats 4000000 in
set_option maxRecDepth 100000 in
theorem impl_FollowWords_c {w : World} {v : Value} {l : Lb} (h : LabR w v l) {pp nn : Int} (hI1 : I64 pp) (hI2 : I64 nn) :
    Calls Try.prog 18 #[v, .int .i64 pp, .int .i64 nn] w (Makes OStrs w (followM l pp nn)) := by
  have H1 := Lib.hid (fun w1 (hb : Below w.heap.size w w1) => impl_IsLabels_c (LabR.frame _ _ _ _ h hb))
  have Hfr := Lib.hid (fun w1 (hb : Below w.heap.size w w1) => LabR.frame _ _ _ _ h hb)
  obtain ⟨T, hT⟩ : ∃ T, T = followM l pp nn := ⟨_, rfl⟩
  rw [← hT]
  have HT := Lib.hid hT
  clear hT hI1 hI2
  have Hok := Lib.hid (fun h => isLab_ok (l := l) h)
  have HF0 := Lib.hid (fun (h : isLab l = false) => (show followM l pp nn = [] from by unfold followM; rw [h]; rfl))
  generalize hil : isLab l = il at H1
  have Hil := Lib.hid hil
  clear hil
  obtain ⟨L, S, xs⟩ := l
  obtain ⟨_, rfl, -, a, c, rfl, -, -, -, -⟩ := h
  simp only at *
  generalize hn : xs.length = n at *
  clear hn
  obtain ⟨w1, e1⟩ : ∃ x, x = (w.alloc (.cells #[.int .i64 L, .int .i64 S, .slice a n c] 26)).alloc (.cells #[.int .i64 pp] 3) := ⟨_, rfl⟩
  have A1 := Lib.hid (show Below w.heap.size w w1 from by rw [e1]; exact ((Below.refl _ _).alloc (Nat.le_refl _) _).alloc (by simp) _)
  have c0 : w1.cell? ⟨w.heap.size, 0, none⟩ = some (.int .i64 L) := by rw [e1]; simp [go_sem]
  have c1 : w1.cell? ⟨w.heap.size, 1, none⟩ = some (.int .i64 S) := by rw [e1]; simp [go_sem]
  have c2 : w1.cell? ⟨w.heap.size, 2, none⟩ = some (.slice a n c) := by rw [e1]; simp [go_sem]
  have c3 : w1.cell? ⟨w.heap.size + 1, 0, none⟩ = some (.int .i64 pp) := by rw [e1]; simp [go_sem]
  have m1 : w.heap.size + 1 < w1.heap.size := by rw [e1]; simp <;> omega
  have es := e1.symm
  clear e1
  go_enter Try.func18, Try.ntmps18
  go_wp2_with fail
  refine (H1.out _ A1.out).mono ?_
  rintro e w2 ⟨rfl, hb1⟩
  replace c0 := (hb1.cell (p := ⟨w.heap.size, 0, none⟩) (by simp; omega)).trans c0
  replace c1 := (hb1.cell (p := ⟨w.heap.size, 1, none⟩) (by simp; omega)).trans c1
  replace c2 := (hb1.cell (p := ⟨w.heap.size, 2, none⟩) (by simp; omega)).trans c2
  replace c3 := (hb1.cell (p := ⟨w.heap.size + 1, 0, none⟩) m1).trans c3
  replace m1 : w.heap.size + 1 < w2.heap.size := Nat.lt_of_lt_of_le m1 hb1.size
  replace A1 := Lib.hid (A1.out.trans (hb1.mono A1.out.size))
  clear hb1 es H1
  cases il with
  | false =>
    have HF := Lib.hid (show T = [] from by rw [HT.out]; exact HF0.out Hil.out)
    clear HT HF0 Hil Hok Hfr
    go_wp2
    go_ret
    exact ⟨_, rfl, by rw [HF.out]; exact New.nil _ _, A1.out⟩
  | true =>
  have Hil2 := Lib.hid (Hok.out Hil.out)
  clear Hok HF0
  by_cases ha : pp < 0
  · have HF := Lib.hid (show T = [] from by rw [HT.out]; unfold followM; rw [decide_eq_false (by simp only; omega)]; simp)
    clear HT Hil Hfr Hil2
    go_wp2
    go_ret
    exact ⟨_, rfl, by rw [HF.out]; exact New.nil _ _, A1.out⟩
  by_cases hb : S ≤ pp
  · have HF := Lib.hid (show T = [] from by rw [HT.out]; unfold followM; rw [decide_eq_false (by simp only; omega)]; simp)
    clear HT Hil Hfr Hil2
    go_wp2
    go_ret
    exact ⟨_, rfl, by rw [HF.out]; exact New.nil _ _, A1.out⟩
  by_cases hc' : nn < 0
  · have HF := Lib.hid (show T = [] from by rw [HT.out]; unfold followM; rw [decide_eq_false (by simp only; omega)]; simp)
    clear HT Hil Hfr Hil2
    go_wp2
    go_ret
    exact ⟨_, rfl, by rw [HF.out]; exact New.nil _ _, A1.out⟩
  by_cases hd : 6 < nn
  · have HF := Lib.hid (show T = [] from by rw [HT.out]; unfold followM; rw [decide_eq_false (by simp only; omega)]; simp)
    clear HT Hil Hfr Hil2
    go_wp2
    go_ret
    exact ⟨_, rfl, by rw [HF.out]; exact New.nil _ _, A1.out⟩
  obtain ⟨ho, hS1, hS2, hL1, hL2⟩ := Hil2.out
  obtain ⟨N, rfl⟩ := Int.eq_ofNat_of_zero_le (show 0 ≤ L by omega)
  obtain ⟨k, rfl⟩ := Int.eq_ofNat_of_zero_le (show 0 ≤ nn by omega)
  obtain ⟨q, rfl⟩ := Int.eq_ofNat_of_zero_le (show 0 ≤ pp by omega)
  have HT2 := Lib.hid (show T = ((allW N k).filter (folF xs q)).map wordT from by rw [HT.out]; unfold followM; rw [Hil.out, decide_eq_true (by simp only; omega)]; rfl)
  have hbx : Box3 w2 w.heap.size (.int .i64 (N : Int)) (.int .i64 S) (.slice a n c) := ⟨by omega, c0, c1, c2⟩
  have HR := Lib.hid (filtered_c (w := w2) (L := N) (n := k) (by omega) (by omega) (by omega) (F := 52) (caps := #[.pointer (some ⟨w.heap.size, 0, none⟩), .pointer (some ⟨w.heap.size + 1, 0, none⟩)]) (f := folF xs q) (fun _ _ => rfl) (fun w1 wd hb hl hx => folclo_c (hbx.below hb (by omega)) ⟨Nat.lt_of_lt_of_le m1 hb.size, (hb.cell (p := ⟨w.heap.size + 1, 0, none⟩) m1).trans c3⟩ (fun w3 hb3 => Hfr.out w3 (A1.out.trans ((hb.trans (hb3.mono hb.size)).mono (by omega)))) ho hS2 (by omega) (fun x h => by have := hx x h; omega) (by omega)))
  have hmf : ∀ (fn : Fn) (first cap : Array Value) (w : World), (Instr.makeFunc fn first cap).run Try.prog w = .ok (.func fn first cap) w := fun _ _ _ _ => rfl
  clear HT Hil Hil2 ho Hfr hbx hS1 hS2 hL1 hL2
  go_wp2_with fail
  refine HR.out.mono ?_
  rintro e w3 ⟨r, rfl, hn, hb⟩
  obtain ⟨ra, rn, rc, rfl⟩ := hn.slice
  have HN := Lib.hid (hn.mono (show w.heap.size ≤ w2.heap.size by omega))
  have A3 := Lib.hid (A1.out.trans (hb.mono (show w.heap.size ≤ w2.heap.size by omega)))
  clear hn hb HR c0 c1 c2 c3 hmf
  go_wp2
  go_ret
  exact ⟨_, rfl, by rw [HT2.out]; exact HN.out, A3.out⟩
end Go.Proofs.Ytcilgihmaaobeaa
end

section
namespace Go.Proofs.Ytcilgihmaaobeaa
open Go.RowKit Go.Deep Go.Sd
set_option linter.unusedSimpArgs false
set_option maxHeartbeats 4000000 in
set_option maxRecDepth 100000 in
theorem spec_FollowWords_c {w : World} {v : Value} {l : Lb} (h : LabR w v l) {pp nn : Int} (hI1 : I64 pp) (hI2 : I64 nn) :
    Calls Try.prog 19 #[v, .int .i64 pp, .int .i64 nn] w (Makes OStrs w (followM l pp nn)) := by
  have H1 := Lib.hid (fun w1 (hb : Below w.heap.size w w1) => spec_IsLabels_c (LabR.frame _ _ _ _ h hb))
  have Hfr := Lib.hid (fun w1 (hb : Below w.heap.size w w1) => LabR.frame _ _ _ _ h hb)
  obtain ⟨T, hT⟩ : ∃ T, T = followM l pp nn := ⟨_, rfl⟩
  rw [← hT]
  have HT := Lib.hid hT
  clear hT hI1 hI2
  have Hok := Lib.hid (fun h => isLab_ok (l := l) h)
  have HF0 := Lib.hid (fun (h : isLab l = false) => (show followM l pp nn = [] from by unfold followM; rw [h]; rfl))
  generalize hil : isLab l = il at H1
  have Hil := Lib.hid hil
  clear hil
  obtain ⟨L, S, xs⟩ := l
  obtain ⟨_, rfl, -, a, c, rfl, -, -, -, -⟩ := h
  simp only at *
  generalize hn : xs.length = n at *
  clear hn
  obtain ⟨w1, e1⟩ : ∃ x, x = w.alloc (.cells #[.int .i64 L, .int .i64 S, .slice a n c] 26) := ⟨_, rfl⟩
  have A1 := Lib.hid (show Below w.heap.size w w1 from by rw [e1]; exact (Below.refl _ _).alloc (Nat.le_refl _) _)
  have c0 : w1.cell? ⟨w.heap.size, 0, none⟩ = some (.int .i64 L) := by rw [e1]; simp [go_sem]
  have c1 : w1.cell? ⟨w.heap.size, 1, none⟩ = some (.int .i64 S) := by rw [e1]; simp [go_sem]
  have c2 : w1.cell? ⟨w.heap.size, 2, none⟩ = some (.slice a n c) := by rw [e1]; simp [go_sem]
  have m1 : w.heap.size < w1.heap.size := by rw [e1]; simp
  have es := e1.symm
  clear e1
  have H0 := Lib.hid ((New.empty (e := 9) (R := OValR Value.string) w1 (Nat.le_refl _)))
  obtain ⟨w1b, e1b⟩ : ∃ x, x = w1.alloc (.cells #[] 9) := ⟨_, rfl⟩
  have hb0 : Below w1.heap.size w1 w1b := by rw [e1b]; exact (Below.refl _ _).alloc (Nat.le_refl _) _
  rw [← e1b] at H0
  have esb := e1b.symm
  replace c0 := (hb0.cell (p := ⟨w.heap.size, 0, none⟩) m1).trans c0
  replace c1 := (hb0.cell (p := ⟨w.heap.size, 1, none⟩) m1).trans c1
  replace c2 := (hb0.cell (p := ⟨w.heap.size, 2, none⟩) m1).trans c2
  have m2 : w.heap.size < w1b.heap.size := Nat.lt_of_lt_of_le m1 hb0.size
  have A2 := Lib.hid (A1.out.trans (hb0.mono A1.out.size))
  have hz10 := A1.out.size
  have hz1b := hb0.size
  clear e1b hb0
  have Hin := Lib.hid (fun w1 => l1In_c pp 0 (S - 1) w1)
  have Hin2 := Lib.hid (fun w1 => l1In_c nn 0 6 w1)
  go_enter Try.func19, Try.ntmps19
  go_wp2_with fail
  refine (H1.out _ A2.out).mono ?_
  rintro e w2 ⟨rfl, hb1⟩
  replace c0 := (hb1.cell (p := ⟨w.heap.size, 0, none⟩) m2).trans c0
  replace c1 := (hb1.cell (p := ⟨w.heap.size, 1, none⟩) m2).trans c1
  replace c2 := (hb1.cell (p := ⟨w.heap.size, 2, none⟩) m2).trans c2
  replace m2 : w.heap.size < w2.heap.size := Nat.lt_of_lt_of_le m2 hb1.size
  have HN2 := Lib.hid (New.keep (OwnOf.kept OStr.kept) H0.out hb1 (Nat.le_refl _))
  have hz2 := hb1.size
  replace A2 := Lib.hid (A2.out.trans (hb1.mono A2.out.size))
  have hz3 := A2.out.size
  have Mw := Lib.hid m1
  clear hb1 es esb H1 H0 m1
  cases il with
  | false =>
    have HF := Lib.hid (show T = [] from by rw [HT.out]; exact HF0.out Hil.out)
    clear HT HF0 Hil Hok Hfr
    go_wp2
    go_ret
    exact ⟨_, rfl, by rw [HF.out]; exact HN2.out.mono hz10, A2.out⟩
  | true =>
  have Hil2 := Lib.hid (Hok.out Hil.out)
  clear Hok HF0
  obtain ⟨ho, hS1, hS2, hL1, hL2⟩ := Hil2.out
  have hwS : wrap64 (S - 1) = S - 1 := IntWalk.wrap64_in _ (by omega)
  by_cases hpp : ¬ (0 ≤ pp ∧ pp ≤ S - 1)
  · have HF := Lib.hid (show T = [] from by rw [HT.out]; unfold followM; rw [decide_eq_false (by simp only; omega)]; simp)
    have hin : (decide (0 ≤ pp) && decide (pp ≤ S - 1)) = false := by
      by_cases h0 : 0 ≤ pp
      · rw [decide_eq_true h0, decide_eq_false (by omega)]; rfl
      · rw [decide_eq_false h0]; rfl
    rw [hin] at Hin
    clear HT Hil Hil2 Hfr hin hpp ho hS1 hS2 hL1 hL2
    go_wp2_with fail
    refine (Hin.out _).mono ?_
    rintro e w' ⟨rfl, rfl⟩
    go_wp2
    go_ret
    exact ⟨_, rfl, by rw [HF.out]; exact HN2.out.mono hz10, A2.out⟩
  have hin : (decide (0 ≤ pp) && decide (pp ≤ S - 1)) = true := by rw [decide_eq_true (by omega), decide_eq_true (by omega)]; rfl
  rw [hin] at Hin
  by_cases hnn : ¬ (0 ≤ nn ∧ nn ≤ 6)
  · have HF := Lib.hid (show T = [] from by rw [HT.out]; unfold followM; rw [decide_eq_false (by simp only; omega)]; simp)
    have hin2 : (decide (0 ≤ nn) && decide (nn ≤ 6)) = false := by
      by_cases h0 : 0 ≤ nn
      · rw [decide_eq_true h0, decide_eq_false (by omega)]; rfl
      · rw [decide_eq_false h0]; rfl
    rw [hin2] at Hin2
    clear HT Hil Hil2 Hfr hin hin2 hpp hnn ho hS1 hS2 hL1 hL2
    go_wp2_with fail
    refine (Hin.out _).mono ?_
    rintro e w' ⟨rfl, rfl⟩
    go_wp2_with fail
    refine (Hin2.out _).mono ?_
    rintro e w' ⟨rfl, rfl⟩
    go_wp2
    go_ret
    exact ⟨_, rfl, by rw [HF.out]; exact HN2.out.mono hz10, A2.out⟩
  have hin2 : (decide (0 ≤ nn) && decide (nn ≤ 6)) = true := by rw [decide_eq_true (by omega), decide_eq_true (by omega)]; rfl
  rw [hin2] at Hin2
  obtain ⟨N, rfl⟩ := Int.eq_ofNat_of_zero_le (show 0 ≤ L by omega)
  obtain ⟨k, rfl⟩ := Int.eq_ofNat_of_zero_le (show 0 ≤ nn by omega)
  obtain ⟨q, rfl⟩ := Int.eq_ofNat_of_zero_le (show 0 ≤ pp by omega)
  have HT2 := Lib.hid (show T = ((allW N k).filter (folF xs q)).map wordT from by rw [HT.out]; unfold followM; rw [Hil.out, decide_eq_true (by simp only; omega)]; rfl)
  have HA := Lib.hid (fun w1 => l2All_c (w := w1) (L := N) (n := k) (by omega) (by omega) (by omega))
  have Hme := Lib.hid (fun wd (h : wd ∈ allW N k) => (show (wd.length ≤ 16 ∧ ∀ x, x ∈ wd → x < N) from by have h1 := allW_mem (show 0 < N by omega) h; exact ⟨by omega, h1.2⟩))
  have hlen : (allW N k).length ≤ 729 := by rw [allW_len (by omega)]; exact pow_le (by omega) (by omega)
  have HC := Lib.hid (fun w1 wd (hb : Below w.heap.size w w1) (h : wd ∈ allW N k) => (show Calls Try.prog 56 #[.agg #[.int .i64 (N : Int), .int .i64 S, .slice a n c], .int .i64 ((2 ^ q : Nat) : Int), .string (wordT wd)] w1 fun e w' => e = .returned (.int .i64 (readB xs (wordT wd).data.toList (2 ^ q))) ∧ Below w1.heap.size w1 w' from spec_read_c (Hfr.out w1 hb) ho hS2 (pow_lt12 (by omega)) (by rw [wordT_size]; have := (Hme.out wd h).1; unfold maxLen; omega)))
  have hwq := shl_p q (by omega)
  obtain ⟨P, hP⟩ : ∃ P, P = 2 ^ q := ⟨_, rfl⟩
  have HFo := Lib.hid (show ∀ wd, folF xs q wd = decide (0 < readB xs (wordT wd).data.toList P) from fun wd => by rw [hP]; rfl)
  rw [← hP] at HC hwq
  have hwq2 : IntKind.i64.wrap ((2 : Int) ^ q) = (P : Int) := by rw [IntWalk.i64_left]; exact hwq
  have hq64 : q < 64 := by omega
  generalize folF xs q = f at HT2 HFo
  generalize allW N k = A at HT2 HA HC hlen
  have hur : IntKind.u64.wrap (q : Int) = (q : Int) := IntWalk.u64_in _ (by omega)
  clear HT Hil Hil2 ho Hfr hS1 hS2 hL1 hL2 hin hin2 hpp hnn Hme hP
  go_wp2_with fail
  refine (Hin.out _).mono ?_
  rintro e w' ⟨rfl, rfl⟩
  go_wp2_with fail
  refine (Hin2.out _).mono ?_
  rintro e w' ⟨rfl, rfl⟩
  go_wp2_with fail
  refine (HA.out _).mono ?_
  rintro e w3 ⟨r, rfl, hn, hb⟩
  have hz13 : w1.heap.size ≤ w3.heap.size := Nat.le_trans (Nat.le_trans hz1b hz2) hb.size
  have hs3 := ((Sep.one (OwnOf.kept OStr.kept).held HN2.out).new (OwnOf.kept OStr.kept).held hb (by omega) hn).swap
  obtain ⟨ra, rc, er, _⟩ := hs3.swap.strsAt
  subst er
  rw [List.length_map] at hs3 ⊢
  have HS3 := Lib.hid hs3
  have A3 := Lib.hid (A2.out.trans (hb.mono hz3))
  have HB3 := Lib.hid (show Below w1.heap.size w2 w3 from hb.mono (by omega))
  replace c0 := (hb.cell (p := ⟨w.heap.size, 0, none⟩) m2).trans c0
  replace c1 := (hb.cell (p := ⟨w.heap.size, 1, none⟩) m2).trans c1
  replace c2 := (hb.cell (p := ⟨w.heap.size, 2, none⟩) m2).trans c2
  have K0 := Lib.hid c0
  have K1 := Lib.hid c1
  have K2 := Lib.hid c2
  have mw : w.heap.size < w1.heap.size := Mw.out
  clear hn hb hs3 HA Hin Hin2 c0 c1 c2 HN2 hwS
  go_wp2
  go_loopg [7, 9] A.length (fun g s i wr => ∃ (j : Nat) (oa : Option Addr) (oc : Nat), s = .slice oa ((A.take j).filter f).length oc ∧ i = .int .i64 j ∧ j + g = A.length ∧ Hid (Sep w1.heap.size wr [Res.strs 9 (.slice oa ((A.take j).filter f).length oc) (((A.take j).filter f).map wordT), Res.strs 9 (.slice ra A.length rc) (A.map wordT)]) ∧ Hid (Below w1.heap.size w3 wr))
  case atStart => exact ⟨0, _, _, rfl, rfl, by omega, HS3, Lib.hid (Below.refl _ _)⟩
  case round =>
    clear HS3 HB3
    obtain ⟨j, oa, oc, rfl, rfl, hj, HS, HB⟩ := hrel
    obtain ⟨wj, rfl⟩ : ∃ x, x = wr := ⟨_, rfl⟩
    have hz := HB.out.size
    have AW := Lib.hid (A3.out.trans (HB.out.mono hz10))
    by_cases hjl : j < A.length
    · obtain ⟨wd, hwd, _⟩ := at_lt hjl
      obtain ⟨_, _, hv, hq⟩ := HS.out.swap.strsAt
      obtain ⟨b, e1, hb, hc⟩ := hq (by simp; omega)
      simp at hv
      obtain ⟨rfl, rfl⟩ := hv
      subst e1
      have g0 := hc j (wordT wd) (by simp [hwd])
      have c0 := (HB.out.cell (p := ⟨w.heap.size, 0, none⟩) mw).trans K0.out
      have c1 := (HB.out.cell (p := ⟨w.heap.size, 1, none⟩) mw).trans K1.out
      have c2 := (HB.out.cell (p := ⟨w.heap.size, 2, none⟩) mw).trans K2.out
      have C1 := Lib.hid (fun w1 (h : Below w.heap.size w w1) => HC.out w1 wd h (List.mem_of_getElem? hwd))
      have HT := Lib.hid (show (A.take (j + 1)).filter f = (A.take j).filter f ++ (if f wd = true then [wd] else []) from by rw [← take_snoc' hwd, List.filter_append]; congr 1; simp [List.filter_cons])
      have hfl : ((A.take j).filter f).length ≤ 729 := Nat.le_trans (List.length_filter_le _ _) (by simp; omega)
      have HfW := Lib.hid (HFo.out wd)
      generalize hfn : (A.take j).filter f = fl at HS HT hfl ⊢
      generalize readB xs (wordT wd).data.toList P = rr at C1 HfW
      have hji : (j : Int) < (A.length : Int) := by omega
      have hS0 : wj.cell? ⟨w.heap.size, 0, none⟩ = some (.int .i64 (N : Int)) ∧ wj.cell? ⟨w.heap.size, 1, none⟩ = some (.int .i64 S) ∧ wj.cell? ⟨w.heap.size, 2, none⟩ = some (.slice a n c) ∧ wj.cell? ⟨b, j, none⟩ = some (.string (wordT wd)) := ⟨c0, c1, c2, g0⟩
      have hSd : wj.drew.cell? ⟨w.heap.size, 0, none⟩ = some (.int .i64 (N : Int)) ∧ wj.drew.cell? ⟨w.heap.size, 1, none⟩ = some (.int .i64 S) ∧ wj.drew.cell? ⟨w.heap.size, 2, none⟩ = some (.slice a n c) ∧ wj.drew.cell? ⟨b, j, none⟩ = some (.string (wordT wd)) := hS0
      have m4 : w.heap.size < wj.heap.size := by omega
      have HSS := Lib.hid (fun (w' : World) (hb3 : Below wj.heap.size wj w') => (show w'.cell? ⟨w.heap.size, 0, none⟩ = some (.int .i64 (N : Int)) ∧ w'.cell? ⟨w.heap.size, 1, none⟩ = some (.int .i64 S) ∧ w'.cell? ⟨w.heap.size, 2, none⟩ = some (.slice a n c) ∧ w'.cell? ⟨b, j, none⟩ = some (.string (wordT wd)) from ⟨(hb3.cell (p := ⟨w.heap.size, 0, none⟩) m4).trans hS0.1, (hb3.cell (p := ⟨w.heap.size, 1, none⟩) m4).trans hS0.2.1, (hb3.cell (p := ⟨w.heap.size, 2, none⟩) m4).trans hS0.2.2.1, (hb3.cell (p := ⟨b, j, none⟩) hb).trans hS0.2.2.2⟩))
      have B1 := (Below.refl wj.heap.size wj).drew
      have AW1 := AW.out.trans (B1.mono AW.out.size)
      clear hwd hq hc g0 c0 c1 c2 hfn
      go_wp2
      go_region_held3 (fun w' => w'.cell? ⟨w.heap.size, 0, none⟩ = some (.int .i64 (N : Int)) ∧ w'.cell? ⟨w.heap.size, 1, none⟩ = some (.int .i64 S) ∧ w'.cell? ⟨w.heap.size, 2, none⟩ = some (.slice a n c) ∧ w'.cell? ⟨b, j, none⟩ = some (.string (wordT wd)))
        (first | with_reducible exact hS1 | with_reducible exact hSd | with_reducible exact hS0 | go_keep)
        ((first
          | (go_at_call 56; (with_reducible refine (C1.out _ AW1).mono ?_); rintro e w4 ⟨rfl, hb⟩; have B2 := B1.trans (hb.mono B1.size); have hS1 := HSS.out _ B2; clear hb)
          | fail))
      have g4 := hS1.2.2.2
      have hz4 := B2.size
      have HB4 := Lib.hid (HB.out.trans (B2.mono (by omega)))
      have HS4 := Lib.hid (HS.out.below B2 (Nat.le_refl _))
      have hlo4 : w1.heap.size ≤ w4.heap.size := by omega
      have hb4 : b < w4.heap.size := by omega
      clear hS0 hSd HSS B1 B2 AW1 hS1 HS HB AW C1
      by_cases hr0 : 0 < rr
      · have hr1 : (0 : Int) < (rr : Int) := by omega
        have HT2' := Lib.hid (show (A.take (j + 1)).filter f = fl ++ [wd] from by rw [HT.out, HfW.out, decide_eq_true hr0]; simp)
        obtain ⟨v', w5, hr, hs5, hb5⟩ := Sep.push (P := Try.prog) OStr.kept 36 36 (.string ⟨#[]⟩) 16 Try.underlying36 infoStr rfl HS4.out hlo4 (w1 := w4.alloc (.cells #[.string (wordT wd)] 9)) ((Below.refl _ _).alloc (Nat.le_refl _) _) (q := .string (wordT wd)) (x := wordT wd) ⟨[], ⟨rfl, rfl⟩, by simp [Fresh]⟩ (bb := w4.heap.size) (c := 1) (World.cell?_alloc_at _ _ _ 0 rfl) (by simp; omega) (by simp; omega)
        obtain ⟨a', c', ev, _⟩ := hs5.strsAt
        subst ev
        have e5 : (fl.map wordT ++ [wordT wd]).length = (fl ++ [wd]).length := by simp
        have e6 : fl.map wordT ++ [wordT wd] = (fl ++ [wd]).map wordT := by simp
        have e7 : (fl ++ [wd]).length = fl.length + 1 := by simp
        rw [e5, e6, e7] at hs5
        rw [e5, e7] at hr
        have HS5 := Lib.hid hs5
        have HB5 := Lib.hid (HB4.out.trans hb5)
        have Hr := Lib.hid hr
        have E7 := Lib.hid e7
        clear HT hs5 hr hb5 e5 e6 e7 HS4 HB4 HfW
        go_wp2_with (first
          | (at_builtin; refine wpl_append_run rfl (.tmp 48) (.tmp 53) 36 rfl rfl rfl Hr.out ?_)
          | fail)
        go_roundg (A.length - (j + 1))
        case measure => omega
        case rel => exact ⟨j + 1, _, _, by rw [HT2'.out, E7.out], by go_num, by omega, by rw [HT2'.out, E7.out]; exact HS5, HB5⟩
      · have hr1 : ¬ ((0 : Int) < (rr : Int)) := by omega
        have HT2' := Lib.hid (show (A.take (j + 1)).filter f = fl from by rw [HT.out, HfW.out, decide_eq_false hr0]; simp)
        clear HT HfW
        go_wp2
        go_roundg (A.length - (j + 1))
        case measure => omega
        case rel => exact ⟨j + 1, _, _, by rw [HT2'.out], by go_num, by omega, by rw [HT2'.out]; exact HS4, HB4⟩
    · have HR := Lib.hid (show New OStrs w1.heap.size wj (.slice oa ((A.take j).filter f).length oc) T from by have h := HS.out.headNew; rw [HT2.out]; rw [List.take_of_length_le (by omega)] at h ⊢; exact h)
      have hji : ¬ ((j : Int) < (A.length : Int)) := by omega
      generalize ((A.take j).filter f).length = q at HR ⊢
      clear HB HS
      go_wp2
      go_ret
      exact ⟨_, rfl, HR.out.mono hz10, AW.out⟩
end Go.Proofs.Ytcilgihmaaobeaa
end

section
namespace Go.Proofs.Ytcilgihmaaobeaa
open Go.RowKit Go.Deep Go.Sd
set_option linter.unusedSimpArgs false
def rdwF (xs : List Arc3) (S : Int) (wd : List Nat) : Bool := decide (0 < readB xs (wordT wd).data.toList (allN S))
def rdwM (l : Lb) (n : Int) : List ByteArray := if (isLab l && decide (0 ≤ n ∧ n ≤ 6)) = true then ((allW l.1.toNat n.toNat).filter (rdwF l.2.2 l.2.1)).map wordT else []
theorem wordM_all {N : Nat} (h0 : 0 < N) (hN : N ≤ 3) {k : Nat} (hk : k ≤ 6) {wd : List Nat} (h : wd ∈ allW N k) : wordM (N : Int) (wordT wd) = true := by
  obtain ⟨h1, h2⟩ := allW_mem h0 h
  unfold wordM
  rw [decide_eq_true (by omega), decide_eq_true (by rw [wordT_size]; omega)]
  have := letB_of hN wd h2
  simpa [wordT] using this
theorem reads_all {N : Nat} {S : Int} {xs : List Arc3} (hl : isLab ((N : Int), S, xs) = true) (h0 : 0 < N) (hN : N ≤ 3) {k : Nat} (hk : k ≤ 6) {wd : List Nat} (h : wd ∈ allW N k) : readsM ((N : Int), S, xs) (wordT wd) = rdwF xs S wd := by
  unfold readsM rdwF
  rw [hl, wordM_all h0 hN hk h]
  rfl
end Go.Proofs.Ytcilgihmaaobeaa
end
