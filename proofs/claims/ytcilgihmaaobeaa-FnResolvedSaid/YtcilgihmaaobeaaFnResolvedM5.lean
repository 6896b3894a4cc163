/-
  Texts of this claim joined: laws for its walks, contracts of the functions that the law reaches.
-/
import Derived.Test.YtcilgihmaaobeaaRows
import Derived.Test.YtcilgihmaaobeaaFnResolvedM1
import Derived.Test.YtcilgihmaaobeaaFnResolvedM2
import Derived.Test.YtcilgihmaaobeaaFnResolvedM3
import Derived.Test.YtcilgihmaaobeaaFnResolvedM4
import Derived.IntWalk
import Derived.Deep.RegionHeld3
import Derived.Deep.DeepCutAuto
import Derived.OrdersHeld
import Derived.Laws.IdiomStrings
import Derived.BigQuiet
import Derived.Laws.StructEq
import Derived.Deep.DeepMust
import Derived.StillTailTactics
import Derived.WalkSpells
set_option linter.unusedVariables false
set_option linter.unusedSimpArgs false
section
namespace Go.Proofs.Ytcilgihmaaobeaa
open Go.RowKit Go.Deep Go.Sd

theorem readSame_eq (a b : Lb) : readSameM a b = if isLab a = true then (if isLab b = true then (if a.1 = b.1 then (open Classical in decide (goodP a.2.2 b.2.2 a.1.toNat (2 ^ a.2.1.toNat - 1, 2 ^ b.2.1.toNat - 1))) else false) else false) else false := by
  unfold readSameM
  cases isLab a <;> cases isLab b <;> by_cases h : a.1 = b.1 <;> simp [h]
abbrev fstL (ps : List P2) : List Int := ps.map fun p => (p.1 : Int)
abbrev sndL (ps : List P2) : List Int := ps.map fun p => (p.2 : Int)
set_option maxHeartbeats 4000000 in
set_option maxRecDepth 100000 in
theorem spec_ReadSame_c {w : World} {va vb : Value} {a b : Lb} (ha : LabR w va a) (hb : LabR w vb b) :
    Calls Try.prog 16 #[va, vb] w fun e w' => e = .returned (.bool (readSameM a b)) ∧ Below w.heap.size w w' := by
  have H1 := Lib.hid (fun w1 (hb : Below w.heap.size w w1) => spec_IsLabels_c (LabR.frame _ _ _ _ ha hb))
  have H2 := Lib.hid (fun w1 (hb' : Below w.heap.size w w1) => spec_IsLabels_c (LabR.frame _ _ _ _ hb hb'))
  have Hfa := Lib.hid (fun w1 (hb : Below w.heap.size w w1) => LabR.frame _ _ _ _ ha hb)
  have Hfb := Lib.hid (fun w1 (hb' : Below w.heap.size w w1) => LabR.frame _ _ _ _ hb hb')
  have H0 := Lib.hid (readSame_eq a b)
  generalize readSameM a b = T at H0 ⊢
  have Hoa := Lib.hid (fun h => isLab_ok (l := a) h)
  have Hob := Lib.hid (fun h => isLab_ok (l := b) h)
  generalize isLab a = ia at H0 H1 Hoa
  generalize isLab b = ib at H0 H2 Hob
  obtain ⟨L, S, xa⟩ := a
  obtain ⟨M, U, xb⟩ := b
  obtain ⟨_, rfl, -, aa, ac, rfl, -, -, -, -⟩ := ha
  obtain ⟨_, rfl, -, ba, bc, rfl, -, -, -, -⟩ := hb
  simp only at *
  generalize hn : xa.length = n at *
  generalize hm : xb.length = m at *
  clear hn hm
  obtain ⟨wA, eA, hA0, zA, hA, hB⟩ := boxB3_ex w 26 26 (.int .i64 L) (.int .i64 S) (.slice aa n ac) (.int .i64 M) (.int .i64 U) (.slice ba m bc)
  have HA := Lib.hid hA0
  have K1 : Box3 wA w.heap.size (.int .i64 L) (.int .i64 S) (.slice aa n ac) := ⟨by omega, hA⟩
  have K2 : Box3 wA (w.heap.size + 1) (.int .i64 M) (.int .i64 U) (.slice ba m bc) := ⟨by omega, hB⟩
  have eW := eA.symm
  obtain ⟨-, c0, c1, c2⟩ := K1
  obtain ⟨-, d0, d1, d2⟩ := K2
  clear hA hB hA0 eA
  go_enter Try.func16, Try.ntmps16
  go_wp2_with fail
  refine (H1.out _ HA.out).mono ?_
  rintro e w1 ⟨rfl, hb1⟩
  replace c0 := (hb1.cell (p := ⟨w.heap.size, 0, none⟩) (by simp; omega)).trans c0
  replace c1 := (hb1.cell (p := ⟨w.heap.size, 1, none⟩) (by simp; omega)).trans c1
  replace c2 := (hb1.cell (p := ⟨w.heap.size, 2, none⟩) (by simp; omega)).trans c2
  replace d0 := (hb1.cell (p := ⟨w.heap.size + 1, 0, none⟩) (by simp; omega)).trans d0
  replace d1 := (hb1.cell (p := ⟨w.heap.size + 1, 1, none⟩) (by simp; omega)).trans d1
  replace d2 := (hb1.cell (p := ⟨w.heap.size + 1, 2, none⟩) (by simp; omega)).trans d2
  have h1 : w.heap.size + 1 < w1.heap.size := Nat.lt_of_lt_of_le (by omega) hb1.size
  have A1 := Lib.hid (HA.out.trans (hb1.mono HA.out.size))
  clear hb1 eW HA H1 zA
  cases ia with
  | false =>
    have HF := Lib.hid (show T = false from by rw [H0.out]; rfl)
    clear H0 H2 Hoa Hob Hfa Hfb
    go_wp2
    go_ret
    exact ⟨by rw [HF.out]; rfl, A1.out⟩
  | true =>
  obtain ⟨hoa, hS1, hS2, hL1, hL2⟩ := Hoa.out rfl
  go_wp2_with fail
  refine (H2.out _ A1.out).mono ?_
  rintro e w2 ⟨rfl, hb1⟩
  replace c0 := (hb1.cell (p := ⟨w.heap.size, 0, none⟩) (by simp; omega)).trans c0
  replace c1 := (hb1.cell (p := ⟨w.heap.size, 1, none⟩) (by simp; omega)).trans c1
  replace c2 := (hb1.cell (p := ⟨w.heap.size, 2, none⟩) (by simp; omega)).trans c2
  replace d0 := (hb1.cell (p := ⟨w.heap.size + 1, 0, none⟩) h1).trans d0
  replace d1 := (hb1.cell (p := ⟨w.heap.size + 1, 1, none⟩) h1).trans d1
  replace d2 := (hb1.cell (p := ⟨w.heap.size + 1, 2, none⟩) h1).trans d2
  replace h1 : w.heap.size + 1 < w2.heap.size := Nat.lt_of_lt_of_le h1 hb1.size
  replace A1 := Lib.hid (A1.out.trans (hb1.mono A1.out.size))
  clear hb1 H2 Hoa
  cases ib with
  | false =>
    have HF := Lib.hid (show T = false from by rw [H0.out]; rfl)
    clear H0 Hob Hfa Hfb
    go_wp2
    go_ret
    exact ⟨by rw [HF.out]; rfl, A1.out⟩
  | true =>
  obtain ⟨hob, hU1, hU2, hM1, hM2⟩ := Hob.out rfl
  clear Hob
  by_cases hLM : L = M
  · subst hLM
    have t0 : (L != L) = false := by simp
    obtain ⟨p, rfl⟩ := Int.eq_ofNat_of_zero_le (show 0 ≤ S by omega)
    obtain ⟨q, rfl⟩ := Int.eq_ofNat_of_zero_le (show 0 ≤ U by omega)
    obtain ⟨P, hP, hP1, hP2, hwp⟩ := shl_one p (by omega)
    obtain ⟨Q, hQ, hQ1, hQ2, hwq⟩ := shl_one q (by omega)
    have HG := Lib.hid (show T = (open Classical in decide (goodP xa xb L.toNat (P - 1, Q - 1))) from by rw [H0.out, ← hP, ← hQ]; simp)
    have Hoa2 := Lib.hid hoa
    have Hob2 := Lib.hid hob
    have HS2 := Lib.hid hS2
    have HU2 := Lib.hid hU2
    have hp1 : p < 64 := by omega
    have hq1 : q < 64 := by omega
    clear H0 hP hQ hoa hob hS1 hS2 hU1 hU2 hM1 hM2
    obtain ⟨A, rfl⟩ : ∃ x, P = x + 1 := ⟨P - 1, by omega⟩
    obtain ⟨B, rfl⟩ : ∃ x, Q = x + 1 := ⟨Q - 1, by omega⟩
    replace hwp : wrap64 (2 ^ p) = (A : Int) + 1 := by rw [hwp]; omega
    replace hwq : wrap64 (2 ^ q) = (B : Int) + 1 := by rw [hwq]; omega
    obtain ⟨N, rfl⟩ := Int.eq_ofNat_of_zero_le (show 0 ≤ L by omega)
    rw [show (A + 1 - 1, B + 1 - 1) = (A, B) from rfl, show (N : Int).toNat = N from rfl] at HG
    have HI := Lib.hid (InvP.start (A := xa) (B := xb) (L := N) (p0 := (A, B)) ⟨show A < 4096 by omega, show B < 4096 by omega⟩)
    have HStA := Lib.hid (fun w' (hb : Below w.heap.size w w') q (hq : q < 4096) x => spec_step_c (Hfa.out w' hb) Hoa2.out HS2.out hq x)
    have HStB := Lib.hid (fun w' (hb : Below w.heap.size w w') q (hq : q < 4096) x => spec_step_c (Hfb.out w' hb) Hob2.out HU2.out hq x)
    have HltA := Lib.hid (fun q x => stepN_lt Hoa2.out HS2.out q x)
    have HltB := Lib.hid (fun q x => stepN_lt Hob2.out HU2.out q x)
    simp only at HStA HStB HltA HltB
    have hwA : wrap64 (A : Int) = (A : Int) := IntWalk.wrap64_in _ (by omega)
    have hwB : wrap64 (B : Int) = (B : Int) := IntWalk.wrap64_in _ (by omega)
    clear hP1 hP2 hQ1 hQ2 Hfa Hfb Hoa2 Hob2 HS2 HU2
    go_wp2
    clear hwp hwq hp1 hq1 hwA hwB
    obtain ⟨w3, e3⟩ : ∃ x, x = (w2.alloc (.cells #[.int .i64 (A : Int)] 3)).alloc (.cells #[.int .i64 (B : Int)] 3) := ⟨_, rfl⟩
    rw [← e3]
    have HS0 := Lib.hid (show Sep w2.heap.size w3 [Res.ints 3 (.slice (some ⟨w2.heap.size, 0, none⟩) 1 1) (fstL [(A, B)]), Res.ints 3 (.slice (some ⟨w2.heap.size + 1, 0, none⟩) 1 1) (sndL [(A, B)])] from by
      have h1 := (Sep.nil w2.heap.size w2).new (OInts.kept 3).held ((Below.refl _ _).alloc (Nat.le_refl _) _) (Nat.le_refl _) (New.oneInt (e := 3) w2 (A : Int))
      have h2 := h1.new (OInts.kept 3).held ((Below.refl _ _).alloc (Nat.le_refl _) _) (by simp) (New.oneInt (e := 3) (w2.alloc (.cells #[.int .i64 (A : Int)] 3)) (B : Int))
      have hz : (w2.alloc (.cells #[.int .i64 (A : Int)] 3)).heap.size = w2.heap.size + 1 := by simp
      rw [hz, ← e3] at h2
      exact h2.swap)
    have HB0 := Lib.hid (show Below w2.heap.size w2 w3 from by rw [e3]; exact ((Below.refl _ _).alloc (Nat.le_refl _) _).alloc (by simp) _)
    clear e3
    have Kc0 := Lib.hid c0
    have Kc1 := Lib.hid c1
    have Kc2 := Lib.hid c2
    have Kd0 := Lib.hid d0
    have Kd1 := Lib.hid d1
    have Kd2 := Lib.hid d2
    clear c0 c1 c2 d0 d1 d2
    go_loopg [5, 6, 7] 16777217 (fun g vl vr i wr => ∃ (k : Nat) (ps : List P2) (la ra : Option Addr) (lc rc : Nat), vl = .slice la ps.length lc ∧ vr = .slice ra ps.length rc ∧ i = .int .i64 k ∧ k + g = 16777217 ∧ Hid (InvP xa xb N (A, B) ps k 0) ∧ Hid (Sep w2.heap.size wr [Res.ints 3 vl (fstL ps), Res.ints 3 vr (sndL ps)]) ∧ Hid (Below w2.heap.size w2 wr))
    case atStart => exact ⟨0, [(A, B)], _, _, _, _, rfl, rfl, rfl, by omega, HI, HS0, HB0⟩
    case round =>
      clear HI HS0 HB0
      obtain ⟨k, ps, la, ra, lc, rc, rfl, rfl, rfl, hk, HI, HS, HB⟩ := hrel
      have Hl := Lib.hid HI.out.len
      by_cases hlt : k < ps.length
      · have hz := HB.out.size
        have hki : (k : Int) < (ps.length : Int) := by omega
        obtain ⟨n0, hn0⟩ : ∃ x, x = ps.length := ⟨_, rfl⟩
        rw [← hn0] at hki hlt ⊢
        have Hn0 := Lib.hid hn0
        clear hn0
        go_wp2
        go_loopg [5, 6, 8] N (fun g2 vl vr i wx => ∃ (x : Nat) (ps : List P2) (la ra : Option Addr) (lc rc : Nat), vl = .slice la ps.length lc ∧ vr = .slice ra ps.length rc ∧ i = .int .i64 x ∧ x + g2 = N ∧ k < ps.length ∧ Hid (InvP xa xb N (A, B) ps k x) ∧ Hid (Sep w2.heap.size wx [Res.ints 3 vl (fstL ps), Res.ints 3 vr (sndL ps)]) ∧ Hid (Below w2.heap.size w2 wx))
        case atStart => exact ⟨0, ps, _, _, _, _, by rw [Hn0.out], by rw [Hn0.out], rfl, by omega, by rw [← Hn0.out]; exact hlt, HI, by rw [Hn0.out]; exact HS, HB⟩
        case round =>
          clear HI HS HB Hn0 Hl hlt hki
          obtain ⟨x, ps, la, ra, lc, rc, rfl, rfl, rfl, hx, hlt, HI, HS, HB⟩ := hrel
          obtain ⟨wx, rfl⟩ : ∃ x, x = wr := ⟨_, rfl⟩
          have Hl := Lib.hid HI.out.len
          by_cases hxl : x < N
          · obtain ⟨y, hy, _⟩ := at_lt hlt
            obtain ⟨_, _, hv, _, hq⟩ := HS.out.intsAt
            obtain ⟨bl, e1, hbl, hcl⟩ := hq (by simp; omega)
            obtain ⟨_, _, hv2, _, hq2⟩ := HS.out.swap.intsAt
            obtain ⟨br, e2, hbr, hcr⟩ := hq2 (by simp; omega)
            simp at hv hv2
            obtain ⟨rfl, rfl⟩ := hv
            obtain ⟨rfl, rfl⟩ := hv2
            subst e1
            subst e2
            have f0 := hcl k (y.1 : Int) (by simp [hy])
            have f1 := hcr k (y.2 : Int) (by simp [hy])
            have Hcl := Lib.hid hcl
            have Hcr := Lib.hid hcr
            have Hy := Lib.hid hy
            have hsm := HI.out.small y (List.mem_of_getElem? hy)
            have hz := HB.out.size
            have xc0 := (HB.out.cell (p := ⟨w.heap.size, 0, none⟩) (show w.heap.size < _ by omega)).trans (Kc0.out)
            have xc1 := (HB.out.cell (p := ⟨w.heap.size, 1, none⟩) (show w.heap.size < _ by omega)).trans (Kc1.out)
            have xc2 := (HB.out.cell (p := ⟨w.heap.size, 2, none⟩) (show w.heap.size < _ by omega)).trans (Kc2.out)
            have xd0 := (HB.out.cell (p := ⟨w.heap.size + 1, 0, none⟩) (show w.heap.size + 1 < _ by omega)).trans (Kd0.out)
            have xd1 := (HB.out.cell (p := ⟨w.heap.size + 1, 1, none⟩) (show w.heap.size + 1 < _ by omega)).trans (Kd1.out)
            have xd2 := (HB.out.cell (p := ⟨w.heap.size + 1, 2, none⟩) (show w.heap.size + 1 < _ by omega)).trans (Kd2.out)
            obtain ⟨s, hs⟩ : ∃ s, s = stepN xa y.1 (x : Int) := ⟨_, rfl⟩
            obtain ⟨t, ht⟩ : ∃ t, t = stepN xb y.2 (x : Int) := ⟨_, rfl⟩
            have HN := Lib.hid (show nextP xa xb y x = (s, t) from by rw [hs, ht]; rfl)
            have Hsl := Lib.hid (show s < 4096 from by rw [hs]; exact HltA.out _ _)
            have Htl := Lib.hid (show t < 4096 from by rw [ht]; exact HltB.out _ _)
            have HA := Lib.hid (A1.out.trans (HB.out.mono A1.out.size))
            have C1 := Lib.hid (fun w' (hb : Below w.heap.size w w') => HStA.out w' hb y.1 hsm.1 (x : Int))
            have C2 := Lib.hid (fun w' (hb : Below w.heap.size w w') => HStB.out w' hb y.2 hsm.2 (x : Int))
            rw [← hs] at C1
            rw [← ht] at C2
            obtain ⟨y1, y2⟩ := y
            have hkl : (k : Int) < (ps.length : Int) := by omega
            have hxN : (x : Int) < (N : Int) := by omega
            clear hy hcl hcr hq hq2 hs ht hsm
            simp only at f0 f1 C1 C2 HN Hy
            have hz0 : w.heap.size + 1 < wx.heap.size := by omega
            have hS0 : wx.cell? ⟨w.heap.size, 0, none⟩ = some (.int .i64 (N : Int)) ∧ wx.cell? ⟨w.heap.size, 1, none⟩ = some (.int .i64 (p : Int)) ∧ wx.cell? ⟨w.heap.size, 2, none⟩ = some (.slice aa n ac) ∧ wx.cell? ⟨bl, k, none⟩ = some (.int .i64 (y1 : Int)) := ⟨xc0, xc1, xc2, f0⟩
            have hSd : wx.drew.cell? ⟨w.heap.size, 0, none⟩ = some (.int .i64 (N : Int)) ∧ wx.drew.cell? ⟨w.heap.size, 1, none⟩ = some (.int .i64 (p : Int)) ∧ wx.drew.cell? ⟨w.heap.size, 2, none⟩ = some (.slice aa n ac) ∧ wx.drew.cell? ⟨bl, k, none⟩ = some (.int .i64 (y1 : Int)) := hS0
            have HSS := Lib.hid (fun (w' : World) (hb3 : Below wx.heap.size wx w') => (show w'.cell? ⟨w.heap.size, 0, none⟩ = some (.int .i64 (N : Int)) ∧ w'.cell? ⟨w.heap.size, 1, none⟩ = some (.int .i64 (p : Int)) ∧ w'.cell? ⟨w.heap.size, 2, none⟩ = some (.slice aa n ac) ∧ w'.cell? ⟨bl, k, none⟩ = some (.int .i64 (y1 : Int)) from ⟨(hb3.cell (p := ⟨w.heap.size, 0, none⟩) (show w.heap.size < _ by omega)).trans hS0.1, (hb3.cell (p := ⟨w.heap.size, 1, none⟩) (show w.heap.size < _ by omega)).trans hS0.2.1, (hb3.cell (p := ⟨w.heap.size, 2, none⟩) (show w.heap.size < _ by omega)).trans hS0.2.2.1, (hb3.cell (p := ⟨bl, k, none⟩) (show bl < _ by omega)).trans hS0.2.2.2⟩))
            have B1 := (Below.refl wx.heap.size wx).drew
            have HA1 := HA.out.trans (B1.mono HA.out.size)
            go_wp2
            go_region_held3 (fun w' => w'.cell? ⟨w.heap.size, 0, none⟩ = some (.int .i64 (N : Int)) ∧ w'.cell? ⟨w.heap.size, 1, none⟩ = some (.int .i64 (p : Int)) ∧ w'.cell? ⟨w.heap.size, 2, none⟩ = some (.slice aa n ac) ∧ w'.cell? ⟨bl, k, none⟩ = some (.int .i64 (y1 : Int)))
              (first | with_reducible exact hS1 | with_reducible exact hSd | with_reducible exact hS0 | go_keep)
              ((first
                | (go_at_call 50; (with_reducible refine (C1.out _ HA1).mono ?_); rintro e w4 ⟨rfl, hb2⟩; have hb3 := B1.trans hb2; have hS1 := HSS.out w4 hb3; clear hb2)
                | fail))
            clear hS0 hSd HSS B1 HA1 hS1
            have hz4 := hb3.size
            replace xd0 := (hb3.cell (p := ⟨w.heap.size + 1, 0, none⟩) (show w.heap.size + 1 < _ by omega)).trans xd0
            replace xd1 := (hb3.cell (p := ⟨w.heap.size + 1, 1, none⟩) (show w.heap.size + 1 < _ by omega)).trans xd1
            replace xd2 := (hb3.cell (p := ⟨w.heap.size + 1, 2, none⟩) (show w.heap.size + 1 < _ by omega)).trans xd2
            replace f1 := (hb3.cell (p := ⟨br, k, none⟩) hbr).trans f1
            have hbr4 : br < w4.heap.size := by omega
            have HA4 := Lib.hid (HA.out.trans (hb3.mono HA.out.size))
            have H34 := Lib.hid hb3
            clear hb3 xc0 xc1 xc2 f0
            have hS0 : w4.cell? ⟨w.heap.size + 1, 0, none⟩ = some (.int .i64 (N : Int)) ∧ w4.cell? ⟨w.heap.size + 1, 1, none⟩ = some (.int .i64 (q : Int)) ∧ w4.cell? ⟨w.heap.size + 1, 2, none⟩ = some (.slice ba m bc) ∧ w4.cell? ⟨br, k, none⟩ = some (.int .i64 (y2 : Int)) := ⟨xd0, xd1, xd2, f1⟩
            have hSd : w4.drew.cell? ⟨w.heap.size + 1, 0, none⟩ = some (.int .i64 (N : Int)) ∧ w4.drew.cell? ⟨w.heap.size + 1, 1, none⟩ = some (.int .i64 (q : Int)) ∧ w4.drew.cell? ⟨w.heap.size + 1, 2, none⟩ = some (.slice ba m bc) ∧ w4.drew.cell? ⟨br, k, none⟩ = some (.int .i64 (y2 : Int)) := hS0
            have HSS := Lib.hid (fun (w' : World) (hb3 : Below w4.heap.size w4 w') => (show w'.cell? ⟨w.heap.size + 1, 0, none⟩ = some (.int .i64 (N : Int)) ∧ w'.cell? ⟨w.heap.size + 1, 1, none⟩ = some (.int .i64 (q : Int)) ∧ w'.cell? ⟨w.heap.size + 1, 2, none⟩ = some (.slice ba m bc) ∧ w'.cell? ⟨br, k, none⟩ = some (.int .i64 (y2 : Int)) from ⟨(hb3.cell (p := ⟨w.heap.size + 1, 0, none⟩) (show w.heap.size + 1 < _ by omega)).trans hS0.1, (hb3.cell (p := ⟨w.heap.size + 1, 1, none⟩) (show w.heap.size + 1 < _ by omega)).trans hS0.2.1, (hb3.cell (p := ⟨w.heap.size + 1, 2, none⟩) (show w.heap.size + 1 < _ by omega)).trans hS0.2.2.1, (hb3.cell (p := ⟨br, k, none⟩) (show br < _ by omega)).trans hS0.2.2.2⟩))
            have B1 := (Below.refl w4.heap.size w4).drew
            have HA1 := HA4.out.trans (B1.mono HA4.out.size)
            go_wp2
            go_region_held3 (fun w' => w'.cell? ⟨w.heap.size + 1, 0, none⟩ = some (.int .i64 (N : Int)) ∧ w'.cell? ⟨w.heap.size + 1, 1, none⟩ = some (.int .i64 (q : Int)) ∧ w'.cell? ⟨w.heap.size + 1, 2, none⟩ = some (.slice ba m bc) ∧ w'.cell? ⟨br, k, none⟩ = some (.int .i64 (y2 : Int)))
              (first | with_reducible exact hS1 | with_reducible exact hSd | with_reducible exact hS0 | go_keep)
              ((first
                | (go_at_call 50; (with_reducible refine (C2.out _ HA1).mono ?_); rintro e w5 ⟨rfl, hb2⟩; have hb3 := B1.trans hb2; have hS1 := HSS.out w5 hb3; clear hb2)
                | fail))
            clear hS0 hSd HSS B1 HA1 hS1
            have hz5 := hb3.size
            have H35 := Lib.hid (H34.out.trans (hb3.mono hz4))
            clear hb3 xd0 xd1 xd2 f1 H34 HA4 C1 C2
            have HS5 := Lib.hid (HS.out.below H35.out (Nat.le_refl _))
            have HB5 := Lib.hid (HB.out.trans (H35.out.mono hz))
            have HA5 := Lib.hid (HA.out.trans (H35.out.mono HA.out.size))
            have Hkl := Lib.hid (fun i z (hi : ps[i]? = some z) => (show w5.cell? ⟨bl, i, none⟩ = some (.int .i64 (z.1 : Int)) from (H35.out.cell (p := ⟨bl, i, none⟩) hbl).trans (Hcl.out i (z.1 : Int) (by simp [hi]))))
            have Hkr := Lib.hid (fun i z (hi : ps[i]? = some z) => (show w5.cell? ⟨br, i, none⟩ = some (.int .i64 (z.2 : Int)) from (H35.out.cell (p := ⟨br, i, none⟩) hbr).trans (Hcr.out i (z.2 : Int) (by simp [hi]))))
            have hz25 : w2.heap.size ≤ w5.heap.size := by omega
            have hbl5 : bl < w5.heap.size := by omega
            have hbr5 : br < w5.heap.size := by omega
            have hz05 : w.heap.size + 1 < w5.heap.size := by omega
            clear HS HB H35 HA Hcl Hcr hbl hbr hz4 hz5 hbr4 hz hz0
            by_cases hs0 : s = 0
            · subst hs0
              by_cases ht0 : t = 0
              · subst ht0
                have Hb := Lib.hid (show badP (0, 0) = false from rfl)
                have hl := Hl.out
                clear HG
                go_wp2
                go_loopg [11, 12] ps.length (fun g3 kn i wy => ∃ (j : Nat) (kb : Bool), kn = .bool kb ∧ i = .int .i64 j ∧ j + g3 = ps.length ∧ Hid (kb = true ↔ ((0, 0) = ((0, 0) : P2) ∨ ((0, 0) : P2) ∈ ps.take j)) ∧ w5 = wy)
                case atStart => exact ⟨0, true, rfl, rfl, by omega, Lib.hid (by simp), rfl⟩
                case round =>
                  obtain ⟨j, kb, rfl, rfl, hj, HK, rfl⟩ := hrel
                  by_cases hjl : j < ps.length
                  · obtain ⟨z, hzz, _⟩ := at_lt hjl
                    have g0 := Hkl.out j z hzz
                    have g1 := Hkr.out j z hzz
                    have HT := Lib.hid (show ps.take (j + 1) = ps.take j ++ [z] from (take_snoc' hzz).symm)
                    have hji : (j : Int) < (ps.length : Int) := by omega
                    obtain ⟨z1, z2⟩ := z
                    simp only at g0 g1
                    clear hzz
                    cases kb with
                    | true =>
                      go_wp2
                      go_roundg (ps.length - (j + 1))
                      case measure => omega
                      case rel => exact ⟨j + 1, true, rfl, by go_num, by omega, Lib.hid (by rw [HT.out]; have h := HK.out; simp only [true_iff] at h ⊢; exact h.imp id fun h => List.mem_append_left _ h), rfl⟩
                    | false =>
                      by_cases q1 : (z1 : Int) = (0 : Int)
                      · have t1 : ((z1 : Int) == (0 : Int)) = true := by simp [q1]
                        by_cases q2 : (z2 : Int) = (0 : Int)
                        · have t2 : ((z2 : Int) == (0 : Int)) = true := by simp [q2]
                          go_wp2
                          go_roundg (ps.length - (j + 1))
                          case measure => omega
                          case rel => exact ⟨j + 1, true, rfl, by go_num, by omega, Lib.hid (by rw [HT.out]; have e : ((0, 0) : P2) = (z1, z2) := Prod.ext (show 0 = z1 by omega) (show 0 = z2 by omega); simp [← e]), rfl⟩
                        · have t2 : ((z2 : Int) == (0 : Int)) = false := by simp; omega
                          go_wp2
                          go_roundg (ps.length - (j + 1))
                          case measure => omega
                          case rel => exact ⟨j + 1, false, rfl, by go_num, by omega, Lib.hid (by rw [HT.out]; have h := HK.out; simp only [Bool.false_eq_true, false_iff, not_or] at h ⊢; refine ⟨h.1, fun hm => ?_⟩; rcases List.mem_append.1 hm with hm | hm; exact h.2 hm; simp at hm; omega), rfl⟩
                      · have t1 : ((z1 : Int) == (0 : Int)) = false := by simp; omega
                        go_wp2
                        go_roundg (ps.length - (j + 1))
                        case measure => omega
                        case rel => exact ⟨j + 1, false, rfl, by go_num, by omega, Lib.hid (by rw [HT.out]; have h := HK.out; simp only [Bool.false_eq_true, false_iff, not_or] at h ⊢; refine ⟨h.1, fun hm => ?_⟩; rcases List.mem_append.1 hm with hm | hm; exact h.2 hm; simp at hm; omega), rfl⟩
                  · have e : j = ps.length := by omega
                    subst e
                    have HK2 := Lib.hid (show kb = true ↔ ((0, 0) = ((0, 0) : P2) ∨ ((0, 0) : P2) ∈ ps) from by have h := HK.out; rwa [List.take_of_length_le (Nat.le_refl _)] at h)
                    clear HK Hkl Hkr
                    cases kb with
                    | true =>
                      have HI2 := Lib.hid (HI.out.known Hy.out (by rw [HN.out]; exact Hb.out) (by rw [HN.out]; exact HK2.out.1 rfl))
                      clear HI
                      go_wp2
                      go_roundg (N - (x + 1))
                      case measure => omega
                      case rel => exact ⟨x + 1, ps, _, _, _, _, rfl, rfl, by go_num, by omega, hlt, HI2, HS5, HB5⟩
                    | false =>
                      have HI2 := Lib.hid (HI.out.add Hy.out hxl (by rw [HN.out]; exact Hb.out) (by rw [HN.out]; exact fun hm => by have := HK2.out.2 (Or.inr hm); cases this) (by rw [HN.out]; exact ⟨Hsl.out, Htl.out⟩))
                      rw [HN.out] at HI2
                      obtain ⟨la', lc', w6, hr6, hS6, hb6⟩ := Sep.pushInt (P := Try.prog) 54 54 Try.underlying54 infoI HS5.out hz25 (0 : Int) (by simp; exact Hl.out) 3
                      have hz6 := hb6.size
                      obtain ⟨ra', rc', w7, hr7, hS7, hb7⟩ := Sep.pushInt (P := Try.prog) 54 54 Try.underlying54 infoI hS6.swap (by omega) (0 : Int) (by simp; exact Hl.out) 3
                      have e1 : fstL ps ++ [(0 : Int)] = fstL (ps ++ [(0, 0)]) := by simp
                      have e2 : sndL ps ++ [(0 : Int)] = sndL (ps ++ [(0, 0)]) := by simp
                      have e3 : (fstL (ps ++ [(0, 0)])).length = (ps ++ [(0, 0)]).length := by simp
                      have e4 : (sndL (ps ++ [(0, 0)])).length = (ps ++ [(0, 0)]).length := by simp
                      have e5 : (ps ++ [(0, 0)]).length = ps.length + 1 := by simp
                      rw [e1, e3, e5] at hr6 hS7
                      rw [e2, e4, e5] at hr7 hS7
                      have HS7 := Lib.hid hS7.swap
                      have HB7 := Lib.hid (HB5.out.trans ((hb6.mono (Nat.le_refl _)).trans hb7))
                      have Hr6 := Lib.hid hr6
                      have Hr7 := Lib.hid hr7
                      have Hlt' := Lib.hid (show k < (ps ++ [(0, 0)]).length from by simp; omega)
                      clear hS6 hS7 hb6 hb7 hr6 hr7 HI HS5 HB5 e1 e2 e3 e4
                      have E5 := Lib.hid e5
                      clear e5
                      go_wp2_with (first
                        | (at_builtin; refine wpl_append_run rfl (.tmp 98) (.tmp 100) 54 rfl rfl rfl Hr6.out ?_)
                        | (at_builtin; refine wpl_append_run rfl (.tmp 102) (.tmp 104) 54 rfl rfl rfl Hr7.out ?_)
                        | fail)
                      go_roundg (N - (x + 1))
                      case measure => omega
                      case rel => exact ⟨x + 1, ps ++ [(0, 0)], _, _, _, _, by rw [E5.out], by rw [E5.out], by go_num, by omega, Hlt'.out, HI2, HS7, HB7⟩
              · have ht1 : 0 < t := by omega
                have ht2 : (0 : Int) < (t : Int) := by omega
                have HF := Lib.hid (show T = false from by rw [HG.out]; simp only [decide_eq_false_iff_not]; exact HI.out.bad Hy.out hxl (by rw [HN.out]; simp [badP, ht0]))
                clear HI HS5 HB5
                go_wp2
                go_ret
                exact ⟨by rw [HF.out]; rfl, HA5.out⟩
            · have hs1 : 0 < s := by omega
              have hs2 : (0 : Int) < (s : Int) := by omega
              have hs3 : ((s : Int) == 0) = false := by simp; omega
              by_cases ht0 : t = 0
              · subst ht0
                have HF := Lib.hid (show T = false from by rw [HG.out]; simp only [decide_eq_false_iff_not]; exact HI.out.bad Hy.out hxl (by rw [HN.out]; simp [badP, hs0]))
                clear HI HS5 HB5
                go_wp2
                go_ret
                exact ⟨by rw [HF.out]; rfl, HA5.out⟩
              · have ht1 : 0 < t := by omega
                have ht2 : (0 : Int) < (t : Int) := by omega
                have Hb := Lib.hid (show badP (s, t) = false from by have z1 : (s == 0) = false := (by simpa using hs0); have z2 : (t == 0) = false := (by simpa using ht0); simp only [badP]; rw [z1, z2]; rfl)
                have hl := Hl.out
                clear HG
                go_wp2
                go_loopg [11, 12] ps.length (fun g3 kn i wy => ∃ (j : Nat) (kb : Bool), kn = .bool kb ∧ i = .int .i64 j ∧ j + g3 = ps.length ∧ Hid (kb = true ↔ ((s, t) = ((0, 0) : P2) ∨ ((s, t) : P2) ∈ ps.take j)) ∧ w5 = wy)
                case atStart => exact ⟨0, false, rfl, rfl, by omega, Lib.hid (by simp; omega), rfl⟩
                case round =>
                  obtain ⟨j, kb, rfl, rfl, hj, HK, rfl⟩ := hrel
                  by_cases hjl : j < ps.length
                  · obtain ⟨z, hzz, _⟩ := at_lt hjl
                    have g0 := Hkl.out j z hzz
                    have g1 := Hkr.out j z hzz
                    have HT := Lib.hid (show ps.take (j + 1) = ps.take j ++ [z] from (take_snoc' hzz).symm)
                    have hji : (j : Int) < (ps.length : Int) := by omega
                    obtain ⟨z1, z2⟩ := z
                    simp only at g0 g1
                    clear hzz
                    cases kb with
                    | true =>
                      go_wp2
                      go_roundg (ps.length - (j + 1))
                      case measure => omega
                      case rel => exact ⟨j + 1, true, rfl, by go_num, by omega, Lib.hid (by rw [HT.out]; have h := HK.out; simp only [true_iff] at h ⊢; exact h.imp id fun h => List.mem_append_left _ h), rfl⟩
                    | false =>
                      by_cases q1 : (z1 : Int) = (s : Int)
                      · have t1 : ((z1 : Int) == (s : Int)) = true := by simp [q1]
                        by_cases q2 : (z2 : Int) = (t : Int)
                        · have t2 : ((z2 : Int) == (t : Int)) = true := by simp [q2]
                          go_wp2
                          go_roundg (ps.length - (j + 1))
                          case measure => omega
                          case rel => exact ⟨j + 1, true, rfl, by go_num, by omega, Lib.hid (by rw [HT.out]; have e : ((s, t) : P2) = (z1, z2) := Prod.ext (show s = z1 by omega) (show t = z2 by omega); simp [← e]), rfl⟩
                        · have t2 : ((z2 : Int) == (t : Int)) = false := by simp; omega
                          go_wp2
                          go_roundg (ps.length - (j + 1))
                          case measure => omega
                          case rel => exact ⟨j + 1, false, rfl, by go_num, by omega, Lib.hid (by rw [HT.out]; have h := HK.out; simp only [Bool.false_eq_true, false_iff, not_or] at h ⊢; refine ⟨h.1, fun hm => ?_⟩; rcases List.mem_append.1 hm with hm | hm; exact h.2 hm; simp at hm; omega), rfl⟩
                      · have t1 : ((z1 : Int) == (s : Int)) = false := by simp; omega
                        go_wp2
                        go_roundg (ps.length - (j + 1))
                        case measure => omega
                        case rel => exact ⟨j + 1, false, rfl, by go_num, by omega, Lib.hid (by rw [HT.out]; have h := HK.out; simp only [Bool.false_eq_true, false_iff, not_or] at h ⊢; refine ⟨h.1, fun hm => ?_⟩; rcases List.mem_append.1 hm with hm | hm; exact h.2 hm; simp at hm; omega), rfl⟩
                  · have e : j = ps.length := by omega
                    subst e
                    have HK2 := Lib.hid (show kb = true ↔ ((s, t) = ((0, 0) : P2) ∨ ((s, t) : P2) ∈ ps) from by have h := HK.out; rwa [List.take_of_length_le (Nat.le_refl _)] at h)
                    clear HK Hkl Hkr
                    cases kb with
                    | true =>
                      have HI2 := Lib.hid (HI.out.known Hy.out (by rw [HN.out]; exact Hb.out) (by rw [HN.out]; exact HK2.out.1 rfl))
                      clear HI
                      go_wp2
                      go_roundg (N - (x + 1))
                      case measure => omega
                      case rel => exact ⟨x + 1, ps, _, _, _, _, rfl, rfl, by go_num, by omega, hlt, HI2, HS5, HB5⟩
                    | false =>
                      have HI2 := Lib.hid (HI.out.add Hy.out hxl (by rw [HN.out]; exact Hb.out) (by rw [HN.out]; exact fun hm => by have := HK2.out.2 (Or.inr hm); cases this) (by rw [HN.out]; exact ⟨Hsl.out, Htl.out⟩))
                      rw [HN.out] at HI2
                      obtain ⟨la', lc', w6, hr6, hS6, hb6⟩ := Sep.pushInt (P := Try.prog) 54 54 Try.underlying54 infoI HS5.out hz25 (s : Int) (by simp; exact Hl.out) 3
                      have hz6 := hb6.size
                      obtain ⟨ra', rc', w7, hr7, hS7, hb7⟩ := Sep.pushInt (P := Try.prog) 54 54 Try.underlying54 infoI hS6.swap (by omega) (t : Int) (by simp; exact Hl.out) 3
                      have e1 : fstL ps ++ [(s : Int)] = fstL (ps ++ [(s, t)]) := by simp
                      have e2 : sndL ps ++ [(t : Int)] = sndL (ps ++ [(s, t)]) := by simp
                      have e3 : (fstL (ps ++ [(s, t)])).length = (ps ++ [(s, t)]).length := by simp
                      have e4 : (sndL (ps ++ [(s, t)])).length = (ps ++ [(s, t)]).length := by simp
                      have e5 : (ps ++ [(s, t)]).length = ps.length + 1 := by simp
                      rw [e1, e3, e5] at hr6 hS7
                      rw [e2, e4, e5] at hr7 hS7
                      have HS7 := Lib.hid hS7.swap
                      have HB7 := Lib.hid (HB5.out.trans ((hb6.mono (Nat.le_refl _)).trans hb7))
                      have Hr6 := Lib.hid hr6
                      have Hr7 := Lib.hid hr7
                      have Hlt' := Lib.hid (show k < (ps ++ [(s, t)]).length from by simp; omega)
                      clear hS6 hS7 hb6 hb7 hr6 hr7 HI HS5 HB5 e1 e2 e3 e4
                      have E5 := Lib.hid e5
                      clear e5
                      go_wp2_with (first
                        | (at_builtin; refine wpl_append_run rfl (.tmp 98) (.tmp 100) 54 rfl rfl rfl Hr6.out ?_)
                        | (at_builtin; refine wpl_append_run rfl (.tmp 102) (.tmp 104) 54 rfl rfl rfl Hr7.out ?_)
                        | fail)
                      go_roundg (N - (x + 1))
                      case measure => omega
                      case rel => exact ⟨x + 1, ps ++ [(s, t)], _, _, _, _, by rw [E5.out], by rw [E5.out], by go_num, by omega, Hlt'.out, HI2, HS7, HB7⟩
          · have HI2 := Lib.hid (show InvP xa xb N (A, B) ps (k + 1) 0 from by have h := HI.out; rw [show x = N by omega] at h; exact h.next)
            have xc0 := (HB.out.cell (p := ⟨w.heap.size, 0, none⟩) (show w.heap.size < _ by omega)).trans Kc0.out
            have xd0 := (HB.out.cell (p := ⟨w.heap.size + 1, 0, none⟩) (show w.heap.size + 1 < _ by omega)).trans Kd0.out
            have hxe : x = N := by omega
            have hxi : ¬ ((x : Int) < (N : Int)) := by omega
            have hl := Hl.out
            clear HI hxl hx hxe
            go_wp2
            go_roundg (16777217 - (k + 1))
            case measure => omega
            case rel => exact ⟨k + 1, ps, _, _, _, _, rfl, rfl, by go_num, by omega, HI2, HS, HB⟩
      · have HF := Lib.hid (show T = true from by rw [HG.out]; simp only [decide_eq_true_iff]; exact HI.out.end (by omega))
        have Hz := Lib.hid (A1.out.trans (HB.out.mono A1.out.size))
        clear HI HS HB Hl
        go_wp2
        go_ret
        exact ⟨by rw [HF.out]; rfl, Hz.out⟩
  · have HF := Lib.hid (show T = false from by rw [H0.out]; simp [hLM])
    have t0 : (L != M) = true := by simp [hLM]
    clear H0 Hfa Hfb
    go_wp2
    go_ret
    exact ⟨by rw [HF.out]; rfl, A1.out⟩
end Go.Proofs.Ytcilgihmaaobeaa
end

section
namespace Go.Sd
open Go.RowKit Go.Deep

section
variable {P : Program} {w : World} {ops : Array Oper} {o : Oper} {a : Act} {Q : Exit → Act → World → Prop} {K : Act → World → Prop} {E : Prop}

theorem step_append_run (hw : Region.wanted o (yielded ops a.tmps) = true) (s x : Operand) (t : TypeId)
    (ho : o.op = .call { callee := .builtin .append, args := #[s, x], argTypes := #[t, t] }) {v v2 v' : Value} {w' : World} (hs : a.eval s = v) (hx : a.eval x = v2)
    (hr : (Builtin.append_ #[t, t] o.type #[v, v2]).run P w = .ok v' w') (h : K (a.put o.dst v') w') : if Region.wanted o (yielded ops a.tmps) = true then Oper.wp P o a w K Q else E := by
  rw [if_pos hw]
  unfold Oper.wp execOp
  simp only [ho, resolve, invoke, builtin, Sem.run_bind, Sem.run_pure, Result.andThen_ok, List.map_toArray, List.map_cons, List.map_nil, hs, hx, hr]
  exact h

end
end Go.Sd
end

section
namespace Go.Sd
open Go.RowKit Go.Deep
section
variable {lim : Nat} {P : Program} {ops : Array Oper} {Q : Exit → Act → World → Prop} {md : Region.Mode} {S : World → Prop}
/-- Some operation is left. -/
def RemM (lim : Nat) (listed : Array Bool) : Prop := ∃ k : Nat, k < lim ∧ listed[k]? = some false
/-- Some operation that is left waits for number i. -/
def waitedM (lim : Nat) (md : Region.Mode) (ops : Array Oper) (listed : Array Bool) (i : Nat) : Bool := (List.range ops.size).any fun m => ((listed[m]? == some false) && decide (m < lim)) && (decide (m ≠ i) && (match ops[m]? with | some om => om.after.any (fun e => Region.binds md e && decide (e.on = i)) | none => false))
def wpAnyM (lim : Nat) (P : Program) (md : Region.Mode) (ops : Array Oper) (Q : Exit → Act → World → Prop) (S : World → Prop) : Nat → Array Bool → Act → World → Prop
  | 0, listed, a, w => Region.ready md ops listed = [] ∧ Q .normal a w
  | fuel + 1, listed, a, w =>
    (Region.ready md ops listed = [] → Q .normal a w) ∧
    ∀ i ∈ Region.ready md ops listed, wpOp P ops Q i (fun a' w' => (RemM lim (listed.setIfInBounds i true) → S w') ∧ wpAnyM lim P md ops Q S fuel (listed.setIfInBounds i true) a' w') a w
theorem wpAny_of_M : ∀ (fuel : Nat) (listed : Array Bool) (a : Act) (w : World), wpAnyM lim P md ops Q S fuel listed a w → wpAny P md ops Q fuel listed a w
  | 0, _, _, _, h => h
  | fuel + 1, _, _, _, h => ⟨h.1, fun i hi => wpOp_mono (fun _ _ h' => wpAny_of_M fuel _ _ _ h'.2) (h.2 i hi)⟩
theorem wpAnyM_first {i : Nat} {oi : Oper} {v : Value} (hi : ops[i]? = some oi) (hsel : ∀ (j : Nat) (o : Oper) cs b, ops[j]? = some o → o.op ≠ .select cs b)
    (hQ : ∀ c a w, Q (.panic c) (a.put oi.dst v) w → Q (.panic c) a w) :
    ∀ (fuel : Nat) (listed : Array Bool) (a : Act) (w : World),
      (∀ j oj, ops[j]? = some oj → j ≠ i → listed.getD j true = false → (∀ e ∈ oj.after, Region.binds md e = true → e.on ≠ i) → oi.apart ops oj = true) →
      i ∈ Region.ready md ops listed → (∃ m om, ops[m]? = some om ∧ (m < lim ∧ listed[m]? = some false) ∧ m ≠ i ∧ ∃ e ∈ om.after, Region.binds md e = true ∧ e.on = i) → YieldsIf P ops S oi v a → S w →
      wpAnyM lim P md ops Q S fuel (listed.setIfInBounds i true) (a.put oi.dst v) w → wpAnyM lim P md ops Q S (fuel + 1) listed a w := by
  intro fuel
  induction fuel with
  | zero =>
    intro listed a w _ hr _ hy hS H
    refine ⟨fun h => (by rw [h] at hr; cases hr), fun j hj => ?_⟩
    by_cases e : j = i
    · subst e; exact hy.wpOp hi hS ⟨fun _ => hS, H⟩
    · have h1 := ready_mono hj e
      rw [H.1] at h1
      cases h1
  | succ fuel ih =>
    intro listed a w hfree hr hm hy hS H
    refine ⟨fun h => (by rw [h] at hr; cases hr), fun j hj => ?_⟩
    by_cases e : j = i
    · subst e; exact hy.wpOp hi hS ⟨fun _ => hS, H⟩
    · have hn := H.2 j (ready_mono hj e)
      obtain ⟨hju, oj, hoj, hall⟩ := mem_ready.1 hj
      have hnot : ∀ f ∈ oj.after, Region.binds md f = true → f.on ≠ i := fun f hf hb he => by
        have g1 := hall f hf hb
        have g0 := (mem_ready.1 hr).1
        rw [he] at g1
        by_cases hl : i < listed.size
        · simp [hl] at g0 g1; rw [g0] at g1; cases g1
        · simp [Array.getElem?_eq_none (Nat.le_of_not_lt hl)] at g1
      have hp := wpOp_putIf hoj (hfree j oj hoj e hju hnot) (fun cs b => hsel i oi cs b hi) (fun cs b => hsel j oj cs b hoj) hQ hy hn
      have hir : i ∈ Region.ready md ops (listed.setIfInBounds j true) := ready_mono hr (fun h => e h.symm)
      have hfr : ∀ k ok, ops[k]? = some ok → k ≠ i → (listed.setIfInBounds j true).getD k true = false → (∀ f ∈ ok.after, Region.binds md f = true → f.on ≠ i) → oi.apart ops ok = true := fun k ok hk hki hun hno => by
        refine hfree k ok hk hki ?_ hno
        by_cases hjk : j = k
        · subst hjk; exact hju
        · rw [getD_set_ne true hjk] at hun; exact hun
      refine wpOp_mono (fun a' w' h => ?_) hp
      obtain ⟨m, om, h1, h2, h3, f, hf, hb, he⟩ := hm
      have hjm : j ≠ m := fun h0 => by
        subst h0
        rw [hoj] at h1
        obtain rfl := Option.some.inj h1
        exact hnot f hf hb he
      have hSw : S w' := h.2.1 ⟨m, h2.1, by rw [Array.getElem?_setIfInBounds_ne hjm, Array.getElem?_setIfInBounds_ne (Ne.symm h3)]; exact h2.2⟩
      refine ⟨fun _ => hSw, ih _ a' w' hfr hir ⟨m, om, h1, ⟨h2.1, by rw [Array.getElem?_setIfInBounds_ne hjm]; exact h2.2⟩, h3, f, hf, hb, he⟩ h.1 hSw ?_⟩
      rw [Array.setIfInBounds_comm _ _ e]
      exact h.2.2
theorem waitedM_spec {listed : Array Bool} {i : Nat} (h : waitedM lim md ops listed i = true) : ∃ m om, ops[m]? = some om ∧ (m < lim ∧ listed[m]? = some false) ∧ m ≠ i ∧ ∃ e ∈ om.after, Region.binds md e = true ∧ e.on = i := by
  unfold waitedM at h
  obtain ⟨m, _, h⟩ := List.any_eq_true.1 h
  simp only [Bool.and_eq_true, beq_iff_eq, decide_eq_true_eq] at h
  obtain ⟨h1, h2, h3⟩ := h
  cases hm : ops[m]? with
  | none => rw [hm] at h3; cases h3
  | some om =>
    rw [hm] at h3
    obtain ⟨k, hk, he⟩ := Array.any_eq_true.1 h3
    simp only [Bool.and_eq_true, decide_eq_true_eq] at he
    exact ⟨m, om, hm, ⟨h1.2, h1.1⟩, h2, _, Array.getElem_mem hk, he⟩
theorem wpAnyM_take (i : Nat) {oi : Oper} {v : Value} {fuel : Nat} {listed : Array Bool} {a : Act} {w : World} (hi : ops[i]? = some oi)
    (hs : Region.noSelect ops = true) (hf : Region.free md ops listed i = true) (hr : (Region.ready md ops listed).contains i = true) (hw : waitedM lim md ops listed i = true)
    (hQ : ∀ c a w, Q (.panic c) (a.put oi.dst v) w → Q (.panic c) a w) (hy : YieldsIf P ops S oi v a) (hS : S w)
    (h : wpAnyM lim P md ops Q S fuel (listed.setIfInBounds i true) (a.put oi.dst v) w) : wpAnyM lim P md ops Q S (fuel + 1) listed a w :=
  wpAnyM_first hi (Region.noSelect_spec hs) hQ fuel listed a w (Region.free_spec hi hf) (by simpa using hr) (waitedM_spec hw) hy hS h
/-- One alone may come up. -/
theorem wpAnyM_one (i : Nat) {o : Oper} {fuel : Nat} {listed : Array Bool} {a : Act} {w : World} (hr : Region.ready md ops listed = [i]) (ho : ops[i]? = some o)
    (h : ∀ K' : Act → World → Prop, Shut (∀ a w, (RemM lim (listed.setIfInBounds i true) → S w) → wpAnyM lim P md ops Q S fuel (listed.setIfInBounds i true) a w → K' a w) → if Region.wanted o (yielded ops a.tmps) = true then Oper.wp P o a w K' Q else K' (a.put o.dst undef) w) : wpAnyM lim P md ops Q S (fuel + 1) listed a w :=
  ⟨fun h0 => (by rw [hr] at h0; cases h0), fun j hj => by
    rw [hr] at hj
    obtain rfl := List.mem_singleton.1 hj
    exact wpOp_step ho fun K' hK => h K' fun a w hS hW => hK a w ⟨hS, hW⟩⟩
theorem wpAnyM_done {listed : Array Bool} {a : Act} {w : World} (hr : Region.ready md ops listed = []) (h : Q .normal a w) : ∀ fuel, wpAnyM lim P md ops Q S fuel listed a w
  | 0 => ⟨hr, h⟩
  | _ + 1 => ⟨fun _ => h, by rw [hr]; simp⟩
theorem wp_region_M (lim : Nat) (S : World → Prop) {id : Nat} {a : Act} {w : World} (hm : P.follows .mixedOrders = true) (h : wpAnyM lim P .any ops Q S ops.size (Array.replicate ops.size false) a w.drew) : (Code.region id ops true).wp P Q a w :=
  wp_region_any hm (wpAny_of_M _ _ _ _ h)
/-- All ahead of the place have come up. -/
def allUpM (lim : Nat) (listed : Array Bool) : Bool := (List.range lim).all fun k => listed.getD k true
theorem not_remM {listed : Array Bool} (h : allUpM lim listed = true) : ¬ RemM lim listed := by
  rintro ⟨k, hk, hf⟩
  unfold allUpM at h
  have h1 := List.all_eq_true.1 h k (List.mem_range.2 hk)
  rw [Array.getD_eq_getD_getElem?, hf] at h1
  cases h1
end
end Go.Sd
end

section
namespace Go.Proofs.Ytcilgihmaaobeaa
open Go.RowKit Go.Deep Go.Sd
set_option linter.unusedSimpArgs false
abbrev Res.strs (e : TypeId) (v : Value) (xs : List ByteArray) : Res := Res.of (OwnOf e (OValR Value.string)) (OwnOf.kept (⟨fun _ _ _ _ _ h _ => h, fun _ _ _ _ h b hb => by rw [h.2] at hb; simp at hb, fun _ _ _ _ h => by rw [h.1]; rfl⟩ : Kept (OValR Value.string))).held v xs
theorem OStr.kept : Kept (OValR Value.string) := ⟨fun _ _ _ _ _ h _ => h, fun _ _ _ _ h b hb => by rw [h.2] at hb; simp at hb, fun _ _ _ _ h => by rw [h.1]; rfl⟩
theorem _root_.Go.Sd.Sep.strsAt {lo : Nat} {w : World} {e : TypeId} {v : Value} {xs : List ByteArray} {rs : List Res} (h : Sep lo w (Res.strs e v xs :: rs)) : ∃ a c, v = .slice a xs.length c ∧ (0 < xs.length → ∃ b, a = some ⟨b, 0, none⟩ ∧ b < w.heap.size ∧ ∀ i x, xs[i]? = some x → w.cell? ⟨b, i, none⟩ = some (.string x)) := by
  obtain ⟨G, hG, hf, _⟩ := h.head
  have hG' : OwnOf e (OValR Value.string) w v xs G := hG
  have hrd : SlOf (ValR Value.string) w v xs := OwnOf.reads (fun _ _ _ _ h => h.1) hG'
  obtain ⟨a, c, rfl, _, _, h1⟩ := hrd.shape
  refine ⟨a, c, rfl, fun h0 => ?_⟩
  obtain ⟨b, o, rfl, hb, hx⟩ := h1 h0
  obtain ⟨x0, hx0, _⟩ := at_lt h0
  obtain ⟨b', c', u, G2, hv, _⟩ := hG'.focus OStr.kept hf.1 hx0
  have e1 : b = b' ∧ o = 0 := by simp at hv; exact ⟨hv.1.1, hv.1.2⟩
  obtain ⟨rfl, rfl⟩ := e1
  refine ⟨b, rfl, hb, fun i x hi => ?_⟩
  obtain ⟨u, hu, rfl⟩ := hx i x hi
  simpa using hu
theorem infoStr : (Try.prog.info? 9).map (fun i => (i.zero, i.size, i.bytes)) = some (some (.string ⟨#[]⟩), 1, 16) := by kernel_rfl
theorem wordT_snoc (wd : List Nat) (x : Nat) : wordT wd ++ wordT [x] = wordT (wd ++ [x]) := by
  apply ByteArray.ext
  simp [wordT, ByteArray.data_append]
theorem abc_slice {x : Nat} (h : x < 3) (w : World) : (Instr.slice 9 (.string ⟨#[97, 98, 99]⟩) (some (.int .i64 (x : Int))) (some (.int .i64 ((x : Int) + 1))) none).run Try.prog w = .ok (.string (wordT [x])) w := by
  obtain rfl | rfl | rfl : x = 0 ∨ x = 1 ∨ x = 2 := by omega
  · exact show (Instr.slice 9 (.string ⟨#[97, 98, 99]⟩) (some (.int .i64 0)) (some (.int .i64 1)) none).run Try.prog w = .ok (.string ⟨#[97]⟩) w by kernel_rfl
  · exact show (Instr.slice 9 (.string ⟨#[97, 98, 99]⟩) (some (.int .i64 1)) (some (.int .i64 2)) none).run Try.prog w = .ok (.string ⟨#[98]⟩) w by kernel_rfl
  · exact show (Instr.slice 9 (.string ⟨#[97, 98, 99]⟩) (some (.int .i64 2)) (some (.int .i64 3)) none).run Try.prog w = .ok (.string ⟨#[99]⟩) w by kernel_rfl
end Go.Proofs.Ytcilgihmaaobeaa
end

section
namespace Go.Proofs.Ytcilgihmaaobeaa
open Go.RowKit Go.Deep Go.Sd
set_option linter.unusedSimpArgs false
abbrev OStrs : OwnRel (List ByteArray) := OwnOf 9 (OValR Value.string)
theorem OStrs.kept : Kept OStrs := OwnOf.kept OStr.kept
theorem OStrs.held : Held OStrs := OStrs.kept.held
abbrev StrsR : World → Value → List ByteArray → Prop := SlOf (ValR Value.string)
theorem StrsR.frame : Framed StrsR := SlOf.frame (fun _ _ _ _ h _ => h)
theorem New.strs {lo : Nat} {w : World} {v : Value} {xs : List ByteArray} (h : New OStrs lo w v xs) : StrsR w v xs := by obtain ⟨F, hF, _⟩ := h; exact OwnOf.reads (fun _ _ _ _ h => h.1) hF
end Go.Proofs.Ytcilgihmaaobeaa
end

section
namespace Go.Proofs.Ytcilgihmaaobeaa
open Go.RowKit Go.Deep Go.Sd
set_option linter.unusedSimpArgs false
set_option maxHeartbeats 1000000 in
theorem sameTexts_same {w : World} {v1 v2 : Value} {xs : List ByteArray} (h1 : StrsR w v1 xs) (h2 : StrsR w v2 xs) :
    Calls Try.prog 17 #[v1, v2] w (Reads w (.bool true)) := by
  have hlen1 := h1.len
  obtain ⟨a1, c1, rfl, _, _, hc1⟩ := h1.shape
  obtain ⟨a2, c2, rfl, _, _, hc2⟩ := h2.shape
  clear h1 h2
  have hl1 : ((xs.length : Int) != xs.length) = false := by simp
  have Hc1 := Lib.hid hc1
  have Hc2 := Lib.hid hc2
  clear hc1 hc2
  go_enter Try.func17, Try.ntmps17
  go_wp2
  go_loopg [5] xs.length (fun g i wr => ∃ (k : Nat), i = .int .i64 k ∧ k + g = xs.length ∧ Drawn w wr)
  case atStart => exact ⟨0, rfl, by omega, Drawn.refl _⟩
  case round =>
    obtain ⟨k, rfl, hk, hdr⟩ := hrel
    by_cases hlt : k < xs.length
    · obtain ⟨b1, o1, rfl, _, hx1⟩ := Hc1.out (by omega)
      obtain ⟨b2, o2, rfl, _, hx2⟩ := Hc2.out (by omega)
      obtain ⟨x, hx, _⟩ := at_lt hlt
      obtain ⟨u1, hu1, rfl⟩ := hx1 k x hx
      obtain ⟨u2, hu2, rfl⟩ := hx2 k x hx
      rw [← hdr.cell] at hu1 hu2
      have hi1 : (k : Int) < (xs.length : Int) := by omega
      have hne : (x.toList != x.toList) = false := by simp
      clear hx1 hx2 hx
      go_wp2
      go_quiet (fail)
      go_wp2
      go_roundg (xs.length - (k + 1))
      case measure => omega
      case rel => exact ⟨k + 1, by go_num, by omega, hdr.drewN _⟩
    · go_wp2
      go_ret
      exact ⟨rfl, hdr⟩
set_option maxHeartbeats 2000000 in
set_option maxRecDepth 100000 in
theorem sameLabels_same {w : World} {v1 v2 : Value} {z : Lb} (h1 : LabR w v1 z) (h2 : LabR w v2 z) :
    Calls Try.prog 14 #[v1, v2] w fun e w' => e = .returned (.bool true) ∧ Below w.heap.size w w' := by
  obtain ⟨L, S, xs⟩ := z
  obtain ⟨va, rfl, ha⟩ := h1
  obtain ⟨vb, rfl, hb⟩ := h2
  obtain ⟨hlen, a1, c1, rfl, _, _, _, hc1⟩ := ha
  obtain ⟨_, a2, c2, rfl, _, _, _, hc2⟩ := hb
  simp only at hc1 hc2 hlen ⊢
  obtain ⟨n, hn⟩ : ∃ n, n = xs.length := ⟨_, rfl⟩
  rw [← hn] at hc1 hc2 hlen ⊢
  have Hn := Lib.hid hn
  have Hc1 := Lib.hid hc1
  have Hc2 := Lib.hid hc2
  have t1 : (L != L) = false := by simp
  have t2 : (S != S) = false := by simp
  have t3 : ((n : Int) != (n : Int)) = false := by simp
  obtain ⟨wA, eA, hA, l0, l1, l2, r0, r1, r2, zA⟩ : ∃ wA, wA = (w.alloc (.cells #[.int .i64 L, .int .i64 S, .slice a1 n c1] 26)).alloc (.cells #[.int .i64 L, .int .i64 S, .slice a2 n c2] 26) ∧ Below w.heap.size w wA ∧ wA.cell? ⟨w.heap.size, 0, none⟩ = some (.int .i64 L) ∧ wA.cell? ⟨w.heap.size, 1, none⟩ = some (.int .i64 S) ∧ wA.cell? ⟨w.heap.size, 2, none⟩ = some (.slice a1 n c1) ∧ wA.cell? ⟨w.heap.size + 1, 0, none⟩ = some (.int .i64 L) ∧ wA.cell? ⟨w.heap.size + 1, 1, none⟩ = some (.int .i64 S) ∧ wA.cell? ⟨w.heap.size + 1, 2, none⟩ = some (.slice a2 n c2) ∧ w.heap.size + 1 < wA.heap.size :=
    ⟨_, rfl, ((Below.refl _ _).alloc (Nat.le_refl _) _).alloc (by simp) _, by simp [go_sem], by simp [go_sem], by simp [go_sem], by simp [go_sem], by simp [go_sem], by simp [go_sem], by simp⟩
  have eAs := eA.symm
  have HA := Lib.hid hA
  clear hn hc1 hc2 eA hA
  go_enter Try.func14, Try.ntmps14
  go_wp2
  go_loopg [5] n (fun g i wr => ∃ (k : Nat), i = .int .i64 k ∧ k + g = n ∧ Drawn wA wr)
  case atStart => exact ⟨0, rfl, by omega, Drawn.refl _⟩
  case round =>
    obtain ⟨k, rfl, hk, hdr⟩ := hrel
    rw [← hdr.cell] at l2 r2
    by_cases hlt : k < n
    · obtain ⟨b1, o1, rfl, hb1, hx1⟩ := Hc1.out (by omega)
      obtain ⟨b2, o2, rfl, hb2, hx2⟩ := Hc2.out (by omega)
      obtain ⟨x, hx, _⟩ := at_lt (xs := xs) (k := k) (by have := Hn.out; omega)
      obtain ⟨f0, f1, f2⟩ := hx1 k x hx
      obtain ⟨g0, g1, g2⟩ := hx2 k x hx
      replace f0 := (HA.out.cell (p := ⟨b1, o1 + k * 3, none⟩) hb1).trans f0
      replace f1 := (HA.out.cell (p := ⟨b1, o1 + k * 3 + 1, none⟩) hb1).trans f1
      replace f2 := (HA.out.cell (p := ⟨b1, o1 + k * 3 + 2, none⟩) hb1).trans f2
      replace g0 := (HA.out.cell (p := ⟨b2, o2 + k * 3, none⟩) hb2).trans g0
      replace g1 := (HA.out.cell (p := ⟨b2, o2 + k * 3 + 1, none⟩) hb2).trans g1
      replace g2 := (HA.out.cell (p := ⟨b2, o2 + k * 3 + 2, none⟩) hb2).trans g2
      rw [← hdr.cell] at f0 f1 f2 g0 g1 g2
      obtain ⟨x0, x1, x2⟩ := x
      simp only at f0 f1 f2 g0 g1 g2
      have hi1 : (k : Int) < (n : Int) := by omega
      have s0 : (x0 == x0) = true := by simp
      have s1 : (x1 == x1) = true := by simp
      have s2 : (x2 == x2) = true := by simp
      clear hx1 hx2 hx
      go_wp2
      go_quiet (fail)
      go_wp2
      go_roundg (n - (k + 1))
      case measure => omega
      case rel => exact ⟨k + 1, by go_num, by omega, hdr.drewN _⟩
    · go_wp2
      go_ret
      exact ⟨rfl, HA.out.trans (hdr.below _)⟩
end Go.Proofs.Ytcilgihmaaobeaa
end

section
namespace Go.Proofs.Ytcilgihmaaobeaa
open Go.RowKit Go.Deep Go.Sd

theorem replicate_snoc {α : Type} (k : Nat) (x : α) : List.replicate k x ++ [x] = List.replicate (k + 1) x := by
  rw [List.replicate_succ']

set_option maxHeartbeats 400000 in
theorem l4Zero_c {w : World} {p r : Nat} (hp : p ≤ 1048576) (hr : r ≤ 1048576) :
    Calls Try.prog 85 #[.int .i64 p, .int .i64 r] w (Makes (OTab 3 54) w (List.replicate p (List.replicate r 0))) := by
  have hmk := run_make_row' (P := Try.prog) 54 3 (.int .i64 0) 8 Try.underlying54 infoI rfl .i64 .i64 r (by omega) (by omega)
  go_enter Try.func85, Try.ntmps85
  go_wp2
  go_loopg [5, 6] p (fun g v i wr => ∃ (k : Nat), i = .int .i64 k ∧ k + g = p ∧ New (OTab 3 54) w.heap.size wr v (List.replicate k (List.replicate r 0)) ∧ Below w.heap.size w wr)
  case atStart => exact ⟨0, rfl, by omega, New.empty w (Nat.le_refl _), (Below.refl _ _).alloc (Nat.le_refl _) _⟩
  case round =>
    obtain ⟨k, rfl, hk, hnew, hbel⟩ := hrel
    by_cases hlt : k < p
    · have hle := hbel.size
      have Hn := Lib.hid hnew
      have Hb := Lib.hid hbel
      have Hr := Lib.hid (show New (OInts 3) wr.heap.size ((wr.alloc (.cells (madeCells #[.int .i64 0] r) 3)).alloc (.cells #[.slice (some ⟨wr.heap.size, 0, none⟩) r r] 54)) (.slice (some ⟨wr.heap.size, 0, none⟩) r r) (List.replicate r 0) from
        New.keep (OInts.kept _) (New.made 3 wr (.int .i64 0) 0 r (Nat.le_refl _) (by omega) OIntR.zero) ((Below.refl _ _).alloc (Nat.le_refl _) _) (Nat.le_refl _))
      clear hnew hbel
      go_wp2_with (at_builtin; refine wpl_push (w0 := wr) (lo := w.heap.size) (OInts.kept _) rfl (.tmp 13) (.tmp 16) 60 rfl 54 (.slice none 0 0) 24 Try.underlying60 infoR rfl Hn.out hle (((Below.refl _ _).alloc (Nat.le_refl _) _).alloc (by simp) _) Hr.out (bb := wr.heap.size + 1) (c := 1) (by simp) rfl rfl (by simp; omega) (by simp; omega) ?_; intro v1 w1 hn1 _ _ hb1)
      go_roundg (p - (k + 1))
      case measure => omega
      case rel => exact ⟨k + 1, by go_num, by omega, by rw [← replicate_snoc]; exact hn1, Hb.out.trans hb1⟩
    · have e : k = p := by omega
      subst e
      clear hmk
      go_wp2
      go_ret
      exact ⟨_, rfl, hnew, hbel⟩
end Go.Proofs.Ytcilgihmaaobeaa
end

section
namespace Go.Sd
open Go.RowKit Go.Deep
section
variable {P : Program} {ops : Array Oper} {Q : Exit → Act → World → Prop} {md : Region.Mode} {S : World → Prop}
/-- Some operation is left. -/
def Rem (listed : Array Bool) : Prop := ∃ k : Nat, listed[k]? = some false
/-- Some operation that is left waits for number i. -/
def waited (md : Region.Mode) (ops : Array Oper) (listed : Array Bool) (i : Nat) : Bool := (List.range ops.size).any fun m => (listed[m]? == some false) && (decide (m ≠ i) && (match ops[m]? with | some om => om.after.any (fun e => Region.binds md e && decide (e.on = i)) | none => false))
def wpAnyL (P : Program) (md : Region.Mode) (ops : Array Oper) (Q : Exit → Act → World → Prop) (S : World → Prop) : Nat → Array Bool → Act → World → Prop
  | 0, listed, a, w => Region.ready md ops listed = [] ∧ Q .normal a w
  | fuel + 1, listed, a, w =>
    (Region.ready md ops listed = [] → Q .normal a w) ∧
    ∀ i ∈ Region.ready md ops listed, wpOp P ops Q i (fun a' w' => (Rem (listed.setIfInBounds i true) → S w') ∧ wpAnyL P md ops Q S fuel (listed.setIfInBounds i true) a' w') a w
theorem wpAny_of_L : ∀ (fuel : Nat) (listed : Array Bool) (a : Act) (w : World), wpAnyL P md ops Q S fuel listed a w → wpAny P md ops Q fuel listed a w
  | 0, _, _, _, h => h
  | fuel + 1, _, _, _, h => ⟨h.1, fun i hi => wpOp_mono (fun _ _ h' => wpAny_of_L fuel _ _ _ h'.2) (h.2 i hi)⟩
theorem wpAnyL_first {i : Nat} {oi : Oper} {v : Value} (hi : ops[i]? = some oi) (hsel : ∀ (j : Nat) (o : Oper) cs b, ops[j]? = some o → o.op ≠ .select cs b)
    (hQ : ∀ c a w, Q (.panic c) (a.put oi.dst v) w → Q (.panic c) a w) :
    ∀ (fuel : Nat) (listed : Array Bool) (a : Act) (w : World),
      (∀ j oj, ops[j]? = some oj → j ≠ i → listed.getD j true = false → (∀ e ∈ oj.after, Region.binds md e = true → e.on ≠ i) → oi.apart ops oj = true) →
      i ∈ Region.ready md ops listed → (∃ m om, ops[m]? = some om ∧ listed[m]? = some false ∧ m ≠ i ∧ ∃ e ∈ om.after, Region.binds md e = true ∧ e.on = i) → YieldsIf P ops S oi v a → S w →
      wpAnyL P md ops Q S fuel (listed.setIfInBounds i true) (a.put oi.dst v) w → wpAnyL P md ops Q S (fuel + 1) listed a w := by
  intro fuel
  induction fuel with
  | zero =>
    intro listed a w _ hr _ hy hS H
    refine ⟨fun h => (by rw [h] at hr; cases hr), fun j hj => ?_⟩
    by_cases e : j = i
    · subst e; exact hy.wpOp hi hS ⟨fun _ => hS, H⟩
    · have h1 := ready_mono hj e
      rw [H.1] at h1
      cases h1
  | succ fuel ih =>
    intro listed a w hfree hr hm hy hS H
    refine ⟨fun h => (by rw [h] at hr; cases hr), fun j hj => ?_⟩
    by_cases e : j = i
    · subst e; exact hy.wpOp hi hS ⟨fun _ => hS, H⟩
    · have hn := H.2 j (ready_mono hj e)
      obtain ⟨hju, oj, hoj, hall⟩ := mem_ready.1 hj
      have hnot : ∀ f ∈ oj.after, Region.binds md f = true → f.on ≠ i := fun f hf hb he => by
        have g1 := hall f hf hb
        have g0 := (mem_ready.1 hr).1
        rw [he] at g1
        by_cases hl : i < listed.size
        · simp [hl] at g0 g1; rw [g0] at g1; cases g1
        · simp [Array.getElem?_eq_none (Nat.le_of_not_lt hl)] at g1
      have hp := wpOp_putIf hoj (hfree j oj hoj e hju hnot) (fun cs b => hsel i oi cs b hi) (fun cs b => hsel j oj cs b hoj) hQ hy hn
      have hir : i ∈ Region.ready md ops (listed.setIfInBounds j true) := ready_mono hr (fun h => e h.symm)
      have hfr : ∀ k ok, ops[k]? = some ok → k ≠ i → (listed.setIfInBounds j true).getD k true = false → (∀ f ∈ ok.after, Region.binds md f = true → f.on ≠ i) → oi.apart ops ok = true := fun k ok hk hki hun hno => by
        refine hfree k ok hk hki ?_ hno
        by_cases hjk : j = k
        · subst hjk; exact hju
        · rw [getD_set_ne true hjk] at hun; exact hun
      refine wpOp_mono (fun a' w' h => ?_) hp
      obtain ⟨m, om, h1, h2, h3, f, hf, hb, he⟩ := hm
      have hjm : j ≠ m := fun h0 => by
        subst h0
        rw [hoj] at h1
        obtain rfl := Option.some.inj h1
        exact hnot f hf hb he
      have hSw : S w' := h.2.1 ⟨m, by rw [Array.getElem?_setIfInBounds_ne hjm, Array.getElem?_setIfInBounds_ne (Ne.symm h3)]; exact h2⟩
      refine ⟨fun _ => hSw, ih _ a' w' hfr hir ⟨m, om, h1, by rw [Array.getElem?_setIfInBounds_ne hjm]; exact h2, h3, f, hf, hb, he⟩ h.1 hSw ?_⟩
      rw [Array.setIfInBounds_comm _ _ e]
      exact h.2.2
theorem waited_spec {listed : Array Bool} {i : Nat} (h : waited md ops listed i = true) : ∃ m om, ops[m]? = some om ∧ listed[m]? = some false ∧ m ≠ i ∧ ∃ e ∈ om.after, Region.binds md e = true ∧ e.on = i := by
  unfold waited at h
  obtain ⟨m, _, h⟩ := List.any_eq_true.1 h
  simp only [Bool.and_eq_true, beq_iff_eq, decide_eq_true_eq] at h
  obtain ⟨h1, h2, h3⟩ := h
  cases hm : ops[m]? with
  | none => rw [hm] at h3; cases h3
  | some om =>
    rw [hm] at h3
    obtain ⟨k, hk, he⟩ := Array.any_eq_true.1 h3
    simp only [Bool.and_eq_true, decide_eq_true_eq] at he
    exact ⟨m, om, hm, h1, h2, _, Array.getElem_mem hk, he⟩
theorem wpAnyL_take (i : Nat) {oi : Oper} {v : Value} {fuel : Nat} {listed : Array Bool} {a : Act} {w : World} (hi : ops[i]? = some oi)
    (hs : Region.noSelect ops = true) (hf : Region.free md ops listed i = true) (hr : (Region.ready md ops listed).contains i = true) (hw : waited md ops listed i = true)
    (hQ : ∀ c a w, Q (.panic c) (a.put oi.dst v) w → Q (.panic c) a w) (hy : YieldsIf P ops S oi v a) (hS : S w)
    (h : wpAnyL P md ops Q S fuel (listed.setIfInBounds i true) (a.put oi.dst v) w) : wpAnyL P md ops Q S (fuel + 1) listed a w :=
  wpAnyL_first hi (Region.noSelect_spec hs) hQ fuel listed a w (Region.free_spec hi hf) (by simpa using hr) (waited_spec hw) hy hS h
/-- One alone may come up. -/
theorem wpAnyL_one (i : Nat) {o : Oper} {fuel : Nat} {listed : Array Bool} {a : Act} {w : World} (hr : Region.ready md ops listed = [i]) (ho : ops[i]? = some o)
    (h : ∀ K' : Act → World → Prop, Shut (∀ a w, (Rem (listed.setIfInBounds i true) → S w) → wpAnyL P md ops Q S fuel (listed.setIfInBounds i true) a w → K' a w) → if Region.wanted o (yielded ops a.tmps) = true then Oper.wp P o a w K' Q else K' (a.put o.dst undef) w) : wpAnyL P md ops Q S (fuel + 1) listed a w :=
  ⟨fun h0 => (by rw [hr] at h0; cases h0), fun j hj => by
    rw [hr] at hj
    obtain rfl := List.mem_singleton.1 hj
    exact wpOp_step ho fun K' hK => h K' fun a w hS hW => hK a w ⟨hS, hW⟩⟩
theorem wpAnyL_done {listed : Array Bool} {a : Act} {w : World} (hr : Region.ready md ops listed = []) (h : Q .normal a w) : ∀ fuel, wpAnyL P md ops Q S fuel listed a w
  | 0 => ⟨hr, h⟩
  | _ + 1 => ⟨fun _ => h, by rw [hr]; simp⟩
theorem wp_region_L (S : World → Prop) {id : Nat} {a : Act} {w : World} (hm : P.follows .mixedOrders = true) (h : wpAnyL P .any ops Q S ops.size (Array.replicate ops.size false) a w.drew) : (Code.region id ops true).wp P Q a w :=
  wp_region_any hm (wpAny_of_L _ _ _ _ h)
/-- All of the listed have come up. -/
def allUp (listed : Array Bool) : Bool := listed.all id
theorem not_rem {listed : Array Bool} (h : allUp listed = true) : ¬ Rem listed := by
  rintro ⟨k, hk⟩
  unfold allUp at h
  have hl := (Array.getElem?_eq_some_iff.1 hk)
  have := Array.all_eq_true.1 h k hl.1
  rw [hl.2] at this
  cases this
end
end Go.Sd
end

section
namespace Go.Sd
open Go.RowKit Go.Deep
section
variable {P : Program} {w : World} {ops : Array Oper} {rest : List Oper} {o : Oper} {a : Act} {Q : Exit → Act → World → Prop}
end
theorem Off.of_below {F : List Nat} {w w1 : World} (h : Below w.heap.size w w1) : Off F w w1 := ⟨h.os, h.tape, h.output, h.size, fun b hb _ => h.block b hb⟩
end Go.Sd
end
