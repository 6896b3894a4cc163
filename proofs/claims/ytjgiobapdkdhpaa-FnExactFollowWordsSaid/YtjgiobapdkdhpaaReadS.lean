/-
  ReadSame, the reference's.
-/
import Derived.Test.YtjgiobapdkdhpaaRows
import Derived.Test.YtjgiobapdkdhpaaBase
import Derived.Test.YtjgiobapdkdhpaaHarn
import Derived.Test.YtjgiobapdkdhpaaLab
import Derived.Test.YtjgiobapdkdhpaaLabC
import Derived.Test.YtjgiobapdkdhpaaLabM
import Derived.Test.YtjgiobapdkdhpaaLabVS
import Derived.Test.YtjgiobapdkdhpaaLabStep
import Derived.Test.YtjgiobapdkdhpaaReadFrom
import Derived.Test.YtjgiobapdkdhpaaReadP
import Derived.Test.YtjgiobapdkdhpaaSep
import Derived.Test.YtjgiobapdkdhpaaWalkH
import Derived.IntWalk
import Derived.Deep.RegionHeld3
import Derived.Deep.DeepCutAuto
namespace Go.Proofs.Ytjgiobapdkdhpaa
open Go.RowKit Go.Deep Go.Sd

theorem readSame_eq (a b : Lb) : readSameM a b = if isLab a = true then (if isLab b = true then (if a.1 = b.1 then (open Classical in decide (goodP a.2.2 b.2.2 a.1.toNat (2 ^ a.2.1.toNat - 1, 2 ^ b.2.1.toNat - 1))) else false) else false) else false := by
  unfold readSameM
  cases isLab a <;> cases isLab b <;> by_cases h : a.1 = b.1 <;> simp [h]
abbrev fstL (ps : List P2) : List Int := ps.map fun p => (p.1 : Int)
abbrev sndL (ps : List P2) : List Int := ps.map fun p => (p.2 : Int)
set_option maxHeartbeats 4000000 in
set_option maxRecDepth 100000 in
theorem spec_ReadSame_c {w : World} {va vb : Value} {a b : Lb} (ha : LabR w va a) (hb : LabR w vb b) :
    Calls Try.prog 48 #[va, vb] w fun e w' => e = .returned (.bool (readSameM a b)) ∧ Below w.heap.size w w' := by
  have H1 := Lib.hid (fun w1 (hb : Below w.heap.size w w1) => spec_IsLabels_c (LabR.frame _ _ _ _ ha hb))
  have H2 := Lib.hid (fun w1 (hb' : Below w.heap.size w w1) => spec_IsLabels_c (LabR.frame _ _ _ _ hb hb'))
  have Hfa := Lib.hid (fun w1 (hb : Below w.heap.size w w1) => LabR.frame _ _ _ _ ha hb)
  have Hfb := Lib.hid (fun w1 (hb' : Below w.heap.size w w1) => LabR.frame _ _ _ _ hb hb')
  have H0 := Lib.hid (readSame_eq a b)
  generalize readSameM a b = T at H0 ⊢
  have Hoa := Lib.hid (fun h => isLab_ok (l := a) h)
  have Hob := Lib.hid (fun h => isLab_ok (l := b) h)
  generalize isLab a = ia at H0 H1 Hoa
  generalize isLab b = ib at H0 H2 Hob
  obtain ⟨L, S, xa⟩ := a
  obtain ⟨M, U, xb⟩ := b
  obtain ⟨_, rfl, -, aa, ac, rfl, -, -, -, -⟩ := ha
  obtain ⟨_, rfl, -, ba, bc, rfl, -, -, -, -⟩ := hb
  simp only at *
  generalize hn : xa.length = n at *
  generalize hm : xb.length = m at *
  clear hn hm
  obtain ⟨wA, eA, hA0, zA, hA, hB⟩ := boxB3_ex w 28 28 (.int .i64 L) (.int .i64 S) (.slice aa n ac) (.int .i64 M) (.int .i64 U) (.slice ba m bc)
  have HA := Lib.hid hA0
  have K1 : Box3 wA w.heap.size (.int .i64 L) (.int .i64 S) (.slice aa n ac) := ⟨by omega, hA⟩
  have K2 : Box3 wA (w.heap.size + 1) (.int .i64 M) (.int .i64 U) (.slice ba m bc) := ⟨by omega, hB⟩
  have eW := eA.symm
  obtain ⟨-, c0, c1, c2⟩ := K1
  obtain ⟨-, d0, d1, d2⟩ := K2
  clear hA hB hA0 eA
  go_enter Try.func48, Try.ntmps48
  go_wp2_with fail
  refine (H1.out _ HA.out).mono ?_
  rintro e w1 ⟨rfl, hb1⟩
  replace c0 := (hb1.cell (p := ⟨w.heap.size, 0, none⟩) (by simp; omega)).trans c0
  replace c1 := (hb1.cell (p := ⟨w.heap.size, 1, none⟩) (by simp; omega)).trans c1
  replace c2 := (hb1.cell (p := ⟨w.heap.size, 2, none⟩) (by simp; omega)).trans c2
  replace d0 := (hb1.cell (p := ⟨w.heap.size + 1, 0, none⟩) (by simp; omega)).trans d0
  replace d1 := (hb1.cell (p := ⟨w.heap.size + 1, 1, none⟩) (by simp; omega)).trans d1
  replace d2 := (hb1.cell (p := ⟨w.heap.size + 1, 2, none⟩) (by simp; omega)).trans d2
  have h1 : w.heap.size + 1 < w1.heap.size := Nat.lt_of_lt_of_le (by omega) hb1.size
  have A1 := Lib.hid (HA.out.trans (hb1.mono HA.out.size))
  clear hb1 eW HA H1 zA
  cases ia with
  | false =>
    have HF := Lib.hid (show T = false from by rw [H0.out]; rfl)
    clear H0 H2 Hoa Hob Hfa Hfb
    go_wp2
    go_ret
    exact ⟨by rw [HF.out]; rfl, A1.out⟩
  | true =>
  obtain ⟨hoa, hS1, hS2, hL1, hL2⟩ := Hoa.out rfl
  go_wp2_with fail
  refine (H2.out _ A1.out).mono ?_
  rintro e w2 ⟨rfl, hb1⟩
  replace c0 := (hb1.cell (p := ⟨w.heap.size, 0, none⟩) (by simp; omega)).trans c0
  replace c1 := (hb1.cell (p := ⟨w.heap.size, 1, none⟩) (by simp; omega)).trans c1
  replace c2 := (hb1.cell (p := ⟨w.heap.size, 2, none⟩) (by simp; omega)).trans c2
  replace d0 := (hb1.cell (p := ⟨w.heap.size + 1, 0, none⟩) h1).trans d0
  replace d1 := (hb1.cell (p := ⟨w.heap.size + 1, 1, none⟩) h1).trans d1
  replace d2 := (hb1.cell (p := ⟨w.heap.size + 1, 2, none⟩) h1).trans d2
  replace h1 : w.heap.size + 1 < w2.heap.size := Nat.lt_of_lt_of_le h1 hb1.size
  replace A1 := Lib.hid (A1.out.trans (hb1.mono A1.out.size))
  clear hb1 H2 Hoa
  cases ib with
  | false =>
    have HF := Lib.hid (show T = false from by rw [H0.out]; rfl)
    clear H0 Hob Hfa Hfb
    go_wp2
    go_ret
    exact ⟨by rw [HF.out]; rfl, A1.out⟩
  | true =>
  obtain ⟨hob, hU1, hU2, hM1, hM2⟩ := Hob.out rfl
  clear Hob
  by_cases hLM : L = M
  · subst hLM
    have t0 : (L != L) = false := by simp
    obtain ⟨p, rfl⟩ := Int.eq_ofNat_of_zero_le (show 0 ≤ S by omega)
    obtain ⟨q, rfl⟩ := Int.eq_ofNat_of_zero_le (show 0 ≤ U by omega)
    obtain ⟨P, hP, hP1, hP2, hwp⟩ := shl_one p (by omega)
    obtain ⟨Q, hQ, hQ1, hQ2, hwq⟩ := shl_one q (by omega)
    have HG := Lib.hid (show T = (open Classical in decide (goodP xa xb L.toNat (P - 1, Q - 1))) from by rw [H0.out, ← hP, ← hQ]; simp)
    have Hoa2 := Lib.hid hoa
    have Hob2 := Lib.hid hob
    have HS2 := Lib.hid hS2
    have HU2 := Lib.hid hU2
    have hp1 : p < 64 := by omega
    have hq1 : q < 64 := by omega
    clear H0 hP hQ hoa hob hS1 hS2 hU1 hU2 hM1 hM2
    obtain ⟨A, rfl⟩ : ∃ x, P = x + 1 := ⟨P - 1, by omega⟩
    obtain ⟨B, rfl⟩ : ∃ x, Q = x + 1 := ⟨Q - 1, by omega⟩
    replace hwp : wrap64 (2 ^ p) = (A : Int) + 1 := by rw [hwp]; omega
    replace hwq : wrap64 (2 ^ q) = (B : Int) + 1 := by rw [hwq]; omega
    obtain ⟨N, rfl⟩ := Int.eq_ofNat_of_zero_le (show 0 ≤ L by omega)
    rw [show (A + 1 - 1, B + 1 - 1) = (A, B) from rfl, show (N : Int).toNat = N from rfl] at HG
    have HI := Lib.hid (InvP.start (A := xa) (B := xb) (L := N) (p0 := (A, B)) ⟨show A < 4096 by omega, show B < 4096 by omega⟩)
    have HStA := Lib.hid (fun w' (hb : Below w.heap.size w w') q (hq : q < 4096) x => spec_step_c (Hfa.out w' hb) Hoa2.out HS2.out hq x)
    have HStB := Lib.hid (fun w' (hb : Below w.heap.size w w') q (hq : q < 4096) x => spec_step_c (Hfb.out w' hb) Hob2.out HU2.out hq x)
    have HltA := Lib.hid (fun q x => stepN_lt Hoa2.out HS2.out q x)
    have HltB := Lib.hid (fun q x => stepN_lt Hob2.out HU2.out q x)
    simp only at HStA HStB HltA HltB
    have hwA : wrap64 (A : Int) = (A : Int) := IntWalk.wrap64_in _ (by omega)
    have hwB : wrap64 (B : Int) = (B : Int) := IntWalk.wrap64_in _ (by omega)
    clear hP1 hP2 hQ1 hQ2 Hfa Hfb Hoa2 Hob2 HS2 HU2
    go_wp2
    clear hwp hwq hp1 hq1 hwA hwB
    obtain ⟨w3, e3⟩ : ∃ x, x = (w2.alloc (.cells #[.int .i64 (A : Int)] 3)).alloc (.cells #[.int .i64 (B : Int)] 3) := ⟨_, rfl⟩
    rw [← e3]
    have HS0 := Lib.hid (show Sep w2.heap.size w3 [Res.ints 3 (.slice (some ⟨w2.heap.size, 0, none⟩) 1 1) (fstL [(A, B)]), Res.ints 3 (.slice (some ⟨w2.heap.size + 1, 0, none⟩) 1 1) (sndL [(A, B)])] from by
      have h1 := (Sep.nil w2.heap.size w2).new (OInts.kept 3).held ((Below.refl _ _).alloc (Nat.le_refl _) _) (Nat.le_refl _) (New.oneInt (e := 3) w2 (A : Int))
      have h2 := h1.new (OInts.kept 3).held ((Below.refl _ _).alloc (Nat.le_refl _) _) (by simp) (New.oneInt (e := 3) (w2.alloc (.cells #[.int .i64 (A : Int)] 3)) (B : Int))
      have hz : (w2.alloc (.cells #[.int .i64 (A : Int)] 3)).heap.size = w2.heap.size + 1 := by simp
      rw [hz, ← e3] at h2
      exact h2.swap)
    have HB0 := Lib.hid (show Below w2.heap.size w2 w3 from by rw [e3]; exact ((Below.refl _ _).alloc (Nat.le_refl _) _).alloc (by simp) _)
    clear e3
    have Kc0 := Lib.hid c0
    have Kc1 := Lib.hid c1
    have Kc2 := Lib.hid c2
    have Kd0 := Lib.hid d0
    have Kd1 := Lib.hid d1
    have Kd2 := Lib.hid d2
    clear c0 c1 c2 d0 d1 d2
    go_loopg [5, 6, 7] 16777217 (fun g vl vr i wr => ∃ (k : Nat) (ps : List P2) (la ra : Option Addr) (lc rc : Nat), vl = .slice la ps.length lc ∧ vr = .slice ra ps.length rc ∧ i = .int .i64 k ∧ k + g = 16777217 ∧ Hid (InvP xa xb N (A, B) ps k 0) ∧ Hid (Sep w2.heap.size wr [Res.ints 3 vl (fstL ps), Res.ints 3 vr (sndL ps)]) ∧ Hid (Below w2.heap.size w2 wr))
    case atStart => exact ⟨0, [(A, B)], _, _, _, _, rfl, rfl, rfl, by omega, HI, HS0, HB0⟩
    case round =>
      clear HI HS0 HB0
      obtain ⟨k, ps, la, ra, lc, rc, rfl, rfl, rfl, hk, HI, HS, HB⟩ := hrel
      have Hl := Lib.hid HI.out.len
      by_cases hlt : k < ps.length
      · have hz := HB.out.size
        have hki : (k : Int) < (ps.length : Int) := by omega
        obtain ⟨n0, hn0⟩ : ∃ x, x = ps.length := ⟨_, rfl⟩
        rw [← hn0] at hki hlt ⊢
        have Hn0 := Lib.hid hn0
        clear hn0
        go_wp2
        go_loopg [5, 6, 8] N (fun g2 vl vr i wx => ∃ (x : Nat) (ps : List P2) (la ra : Option Addr) (lc rc : Nat), vl = .slice la ps.length lc ∧ vr = .slice ra ps.length rc ∧ i = .int .i64 x ∧ x + g2 = N ∧ k < ps.length ∧ Hid (InvP xa xb N (A, B) ps k x) ∧ Hid (Sep w2.heap.size wx [Res.ints 3 vl (fstL ps), Res.ints 3 vr (sndL ps)]) ∧ Hid (Below w2.heap.size w2 wx))
        case atStart => exact ⟨0, ps, _, _, _, _, by rw [Hn0.out], by rw [Hn0.out], rfl, by omega, by rw [← Hn0.out]; exact hlt, HI, by rw [Hn0.out]; exact HS, HB⟩
        case round =>
          clear HI HS HB Hn0 Hl hlt hki
          obtain ⟨x, ps, la, ra, lc, rc, rfl, rfl, rfl, hx, hlt, HI, HS, HB⟩ := hrel
          obtain ⟨wx, rfl⟩ : ∃ x, x = wr := ⟨_, rfl⟩
          have Hl := Lib.hid HI.out.len
          by_cases hxl : x < N
          · obtain ⟨y, hy, _⟩ := at_lt hlt
            obtain ⟨_, _, hv, _, hq⟩ := HS.out.intsAt
            obtain ⟨bl, e1, hbl, hcl⟩ := hq (by simp; omega)
            obtain ⟨_, _, hv2, _, hq2⟩ := HS.out.swap.intsAt
            obtain ⟨br, e2, hbr, hcr⟩ := hq2 (by simp; omega)
            simp at hv hv2
            obtain ⟨rfl, rfl⟩ := hv
            obtain ⟨rfl, rfl⟩ := hv2
            subst e1
            subst e2
            have f0 := hcl k (y.1 : Int) (by simp [hy])
            have f1 := hcr k (y.2 : Int) (by simp [hy])
            have Hcl := Lib.hid hcl
            have Hcr := Lib.hid hcr
            have Hy := Lib.hid hy
            have hsm := HI.out.small y (List.mem_of_getElem? hy)
            have hz := HB.out.size
            have xc0 := (HB.out.cell (p := ⟨w.heap.size, 0, none⟩) (show w.heap.size < _ by omega)).trans (Kc0.out)
            have xc1 := (HB.out.cell (p := ⟨w.heap.size, 1, none⟩) (show w.heap.size < _ by omega)).trans (Kc1.out)
            have xc2 := (HB.out.cell (p := ⟨w.heap.size, 2, none⟩) (show w.heap.size < _ by omega)).trans (Kc2.out)
            have xd0 := (HB.out.cell (p := ⟨w.heap.size + 1, 0, none⟩) (show w.heap.size + 1 < _ by omega)).trans (Kd0.out)
            have xd1 := (HB.out.cell (p := ⟨w.heap.size + 1, 1, none⟩) (show w.heap.size + 1 < _ by omega)).trans (Kd1.out)
            have xd2 := (HB.out.cell (p := ⟨w.heap.size + 1, 2, none⟩) (show w.heap.size + 1 < _ by omega)).trans (Kd2.out)
            obtain ⟨s, hs⟩ : ∃ s, s = stepN xa y.1 (x : Int) := ⟨_, rfl⟩
            obtain ⟨t, ht⟩ : ∃ t, t = stepN xb y.2 (x : Int) := ⟨_, rfl⟩
            have HN := Lib.hid (show nextP xa xb y x = (s, t) from by rw [hs, ht]; rfl)
            have Hsl := Lib.hid (show s < 4096 from by rw [hs]; exact HltA.out _ _)
            have Htl := Lib.hid (show t < 4096 from by rw [ht]; exact HltB.out _ _)
            have HA := Lib.hid (A1.out.trans (HB.out.mono A1.out.size))
            have C1 := Lib.hid (fun w' (hb : Below w.heap.size w w') => HStA.out w' hb y.1 hsm.1 (x : Int))
            have C2 := Lib.hid (fun w' (hb : Below w.heap.size w w') => HStB.out w' hb y.2 hsm.2 (x : Int))
            rw [← hs] at C1
            rw [← ht] at C2
            obtain ⟨y1, y2⟩ := y
            have hkl : (k : Int) < (ps.length : Int) := by omega
            have hxN : (x : Int) < (N : Int) := by omega
            clear hy hcl hcr hq hq2 hs ht hsm
            simp only at f0 f1 C1 C2 HN Hy
            have hz0 : w.heap.size + 1 < wx.heap.size := by omega
            have hS0 : wx.cell? ⟨w.heap.size, 0, none⟩ = some (.int .i64 (N : Int)) ∧ wx.cell? ⟨w.heap.size, 1, none⟩ = some (.int .i64 (p : Int)) ∧ wx.cell? ⟨w.heap.size, 2, none⟩ = some (.slice aa n ac) ∧ wx.cell? ⟨bl, k, none⟩ = some (.int .i64 (y1 : Int)) := ⟨xc0, xc1, xc2, f0⟩
            have hSd : wx.drew.cell? ⟨w.heap.size, 0, none⟩ = some (.int .i64 (N : Int)) ∧ wx.drew.cell? ⟨w.heap.size, 1, none⟩ = some (.int .i64 (p : Int)) ∧ wx.drew.cell? ⟨w.heap.size, 2, none⟩ = some (.slice aa n ac) ∧ wx.drew.cell? ⟨bl, k, none⟩ = some (.int .i64 (y1 : Int)) := hS0
            have HSS := Lib.hid (fun (w' : World) (hb3 : Below wx.heap.size wx w') => (show w'.cell? ⟨w.heap.size, 0, none⟩ = some (.int .i64 (N : Int)) ∧ w'.cell? ⟨w.heap.size, 1, none⟩ = some (.int .i64 (p : Int)) ∧ w'.cell? ⟨w.heap.size, 2, none⟩ = some (.slice aa n ac) ∧ w'.cell? ⟨bl, k, none⟩ = some (.int .i64 (y1 : Int)) from ⟨(hb3.cell (p := ⟨w.heap.size, 0, none⟩) (show w.heap.size < _ by omega)).trans hS0.1, (hb3.cell (p := ⟨w.heap.size, 1, none⟩) (show w.heap.size < _ by omega)).trans hS0.2.1, (hb3.cell (p := ⟨w.heap.size, 2, none⟩) (show w.heap.size < _ by omega)).trans hS0.2.2.1, (hb3.cell (p := ⟨bl, k, none⟩) (show bl < _ by omega)).trans hS0.2.2.2⟩))
            have B1 := (Below.refl wx.heap.size wx).drew
            have HA1 := HA.out.trans (B1.mono HA.out.size)
            go_wp2
            go_region_held3 (fun w' => w'.cell? ⟨w.heap.size, 0, none⟩ = some (.int .i64 (N : Int)) ∧ w'.cell? ⟨w.heap.size, 1, none⟩ = some (.int .i64 (p : Int)) ∧ w'.cell? ⟨w.heap.size, 2, none⟩ = some (.slice aa n ac) ∧ w'.cell? ⟨bl, k, none⟩ = some (.int .i64 (y1 : Int)))
              (first | with_reducible exact hS1 | with_reducible exact hSd | with_reducible exact hS0 | go_keep)
              ((first
                | (go_at_call 107; (with_reducible refine (C1.out _ HA1).mono ?_); rintro e w4 ⟨rfl, hb2⟩; have hb3 := B1.trans hb2; have hS1 := HSS.out w4 hb3; clear hb2)
                | fail))
            clear hS0 hSd HSS B1 HA1 hS1
            have hz4 := hb3.size
            replace xd0 := (hb3.cell (p := ⟨w.heap.size + 1, 0, none⟩) (show w.heap.size + 1 < _ by omega)).trans xd0
            replace xd1 := (hb3.cell (p := ⟨w.heap.size + 1, 1, none⟩) (show w.heap.size + 1 < _ by omega)).trans xd1
            replace xd2 := (hb3.cell (p := ⟨w.heap.size + 1, 2, none⟩) (show w.heap.size + 1 < _ by omega)).trans xd2
            replace f1 := (hb3.cell (p := ⟨br, k, none⟩) hbr).trans f1
            have hbr4 : br < w4.heap.size := by omega
            have HA4 := Lib.hid (HA.out.trans (hb3.mono HA.out.size))
            have H34 := Lib.hid hb3
            clear hb3 xc0 xc1 xc2 f0
            have hS0 : w4.cell? ⟨w.heap.size + 1, 0, none⟩ = some (.int .i64 (N : Int)) ∧ w4.cell? ⟨w.heap.size + 1, 1, none⟩ = some (.int .i64 (q : Int)) ∧ w4.cell? ⟨w.heap.size + 1, 2, none⟩ = some (.slice ba m bc) ∧ w4.cell? ⟨br, k, none⟩ = some (.int .i64 (y2 : Int)) := ⟨xd0, xd1, xd2, f1⟩
            have hSd : w4.drew.cell? ⟨w.heap.size + 1, 0, none⟩ = some (.int .i64 (N : Int)) ∧ w4.drew.cell? ⟨w.heap.size + 1, 1, none⟩ = some (.int .i64 (q : Int)) ∧ w4.drew.cell? ⟨w.heap.size + 1, 2, none⟩ = some (.slice ba m bc) ∧ w4.drew.cell? ⟨br, k, none⟩ = some (.int .i64 (y2 : Int)) := hS0
            have HSS := Lib.hid (fun (w' : World) (hb3 : Below w4.heap.size w4 w') => (show w'.cell? ⟨w.heap.size + 1, 0, none⟩ = some (.int .i64 (N : Int)) ∧ w'.cell? ⟨w.heap.size + 1, 1, none⟩ = some (.int .i64 (q : Int)) ∧ w'.cell? ⟨w.heap.size + 1, 2, none⟩ = some (.slice ba m bc) ∧ w'.cell? ⟨br, k, none⟩ = some (.int .i64 (y2 : Int)) from ⟨(hb3.cell (p := ⟨w.heap.size + 1, 0, none⟩) (show w.heap.size + 1 < _ by omega)).trans hS0.1, (hb3.cell (p := ⟨w.heap.size + 1, 1, none⟩) (show w.heap.size + 1 < _ by omega)).trans hS0.2.1, (hb3.cell (p := ⟨w.heap.size + 1, 2, none⟩) (show w.heap.size + 1 < _ by omega)).trans hS0.2.2.1, (hb3.cell (p := ⟨br, k, none⟩) (show br < _ by omega)).trans hS0.2.2.2⟩))
            have B1 := (Below.refl w4.heap.size w4).drew
            have HA1 := HA4.out.trans (B1.mono HA4.out.size)
            go_wp2
            go_region_held3 (fun w' => w'.cell? ⟨w.heap.size + 1, 0, none⟩ = some (.int .i64 (N : Int)) ∧ w'.cell? ⟨w.heap.size + 1, 1, none⟩ = some (.int .i64 (q : Int)) ∧ w'.cell? ⟨w.heap.size + 1, 2, none⟩ = some (.slice ba m bc) ∧ w'.cell? ⟨br, k, none⟩ = some (.int .i64 (y2 : Int)))
              (first | with_reducible exact hS1 | with_reducible exact hSd | with_reducible exact hS0 | go_keep)
              ((first
                | (go_at_call 107; (with_reducible refine (C2.out _ HA1).mono ?_); rintro e w5 ⟨rfl, hb2⟩; have hb3 := B1.trans hb2; have hS1 := HSS.out w5 hb3; clear hb2)
                | fail))
            clear hS0 hSd HSS B1 HA1 hS1
            have hz5 := hb3.size
            have H35 := Lib.hid (H34.out.trans (hb3.mono hz4))
            clear hb3 xd0 xd1 xd2 f1 H34 HA4 C1 C2
            have HS5 := Lib.hid (HS.out.below H35.out (Nat.le_refl _))
            have HB5 := Lib.hid (HB.out.trans (H35.out.mono hz))
            have HA5 := Lib.hid (HA.out.trans (H35.out.mono HA.out.size))
            have Hkl := Lib.hid (fun i z (hi : ps[i]? = some z) => (show w5.cell? ⟨bl, i, none⟩ = some (.int .i64 (z.1 : Int)) from (H35.out.cell (p := ⟨bl, i, none⟩) hbl).trans (Hcl.out i (z.1 : Int) (by simp [hi]))))
            have Hkr := Lib.hid (fun i z (hi : ps[i]? = some z) => (show w5.cell? ⟨br, i, none⟩ = some (.int .i64 (z.2 : Int)) from (H35.out.cell (p := ⟨br, i, none⟩) hbr).trans (Hcr.out i (z.2 : Int) (by simp [hi]))))
            have hz25 : w2.heap.size ≤ w5.heap.size := by omega
            have hbl5 : bl < w5.heap.size := by omega
            have hbr5 : br < w5.heap.size := by omega
            have hz05 : w.heap.size + 1 < w5.heap.size := by omega
            clear HS HB H35 HA Hcl Hcr hbl hbr hz4 hz5 hbr4 hz hz0
            by_cases hs0 : s = 0
            · subst hs0
              by_cases ht0 : t = 0
              · subst ht0
                have Hb := Lib.hid (show badP (0, 0) = false from rfl)
                have hl := Hl.out
                clear HG
                go_wp2
                go_loopg [11, 12] ps.length (fun g3 kn i wy => ∃ (j : Nat) (kb : Bool), kn = .bool kb ∧ i = .int .i64 j ∧ j + g3 = ps.length ∧ Hid (kb = true ↔ ((0, 0) = ((0, 0) : P2) ∨ ((0, 0) : P2) ∈ ps.take j)) ∧ w5 = wy)
                case atStart => exact ⟨0, true, rfl, rfl, by omega, Lib.hid (by simp), rfl⟩
                case round =>
                  obtain ⟨j, kb, rfl, rfl, hj, HK, rfl⟩ := hrel
                  by_cases hjl : j < ps.length
                  · obtain ⟨z, hzz, _⟩ := at_lt hjl
                    have g0 := Hkl.out j z hzz
                    have g1 := Hkr.out j z hzz
                    have HT := Lib.hid (show ps.take (j + 1) = ps.take j ++ [z] from (take_snoc' hzz).symm)
                    have hji : (j : Int) < (ps.length : Int) := by omega
                    obtain ⟨z1, z2⟩ := z
                    simp only at g0 g1
                    clear hzz
                    cases kb with
                    | true =>
                      go_wp2
                      go_roundg (ps.length - (j + 1))
                      case measure => omega
                      case rel => exact ⟨j + 1, true, rfl, by go_num, by omega, Lib.hid (by rw [HT.out]; have h := HK.out; simp only [true_iff] at h ⊢; exact h.imp id fun h => List.mem_append_left _ h), rfl⟩
                    | false =>
                      by_cases q1 : (z1 : Int) = (0 : Int)
                      · have t1 : ((z1 : Int) == (0 : Int)) = true := by simp [q1]
                        by_cases q2 : (z2 : Int) = (0 : Int)
                        · have t2 : ((z2 : Int) == (0 : Int)) = true := by simp [q2]
                          go_wp2
                          go_roundg (ps.length - (j + 1))
                          case measure => omega
                          case rel => exact ⟨j + 1, true, rfl, by go_num, by omega, Lib.hid (by rw [HT.out]; have e : ((0, 0) : P2) = (z1, z2) := Prod.ext (show 0 = z1 by omega) (show 0 = z2 by omega); simp [← e]), rfl⟩
                        · have t2 : ((z2 : Int) == (0 : Int)) = false := by simp; omega
                          go_wp2
                          go_roundg (ps.length - (j + 1))
                          case measure => omega
                          case rel => exact ⟨j + 1, false, rfl, by go_num, by omega, Lib.hid (by rw [HT.out]; have h := HK.out; simp only [Bool.false_eq_true, false_iff, not_or] at h ⊢; refine ⟨h.1, fun hm => ?_⟩; rcases List.mem_append.1 hm with hm | hm; exact h.2 hm; simp at hm; omega), rfl⟩
                      · have t1 : ((z1 : Int) == (0 : Int)) = false := by simp; omega
                        go_wp2
                        go_roundg (ps.length - (j + 1))
                        case measure => omega
                        case rel => exact ⟨j + 1, false, rfl, by go_num, by omega, Lib.hid (by rw [HT.out]; have h := HK.out; simp only [Bool.false_eq_true, false_iff, not_or] at h ⊢; refine ⟨h.1, fun hm => ?_⟩; rcases List.mem_append.1 hm with hm | hm; exact h.2 hm; simp at hm; omega), rfl⟩
                  · have e : j = ps.length := by omega
                    subst e
                    have HK2 := Lib.hid (show kb = true ↔ ((0, 0) = ((0, 0) : P2) ∨ ((0, 0) : P2) ∈ ps) from by have h := HK.out; rwa [List.take_of_length_le (Nat.le_refl _)] at h)
                    clear HK Hkl Hkr
                    cases kb with
                    | true =>
                      have HI2 := Lib.hid (HI.out.known Hy.out (by rw [HN.out]; exact Hb.out) (by rw [HN.out]; exact HK2.out.1 rfl))
                      clear HI
                      go_wp2
                      go_roundg (N - (x + 1))
                      case measure => omega
                      case rel => exact ⟨x + 1, ps, _, _, _, _, rfl, rfl, by go_num, by omega, hlt, HI2, HS5, HB5⟩
                    | false =>
                      have HI2 := Lib.hid (HI.out.add Hy.out hxl (by rw [HN.out]; exact Hb.out) (by rw [HN.out]; exact fun hm => by have := HK2.out.2 (Or.inr hm); cases this) (by rw [HN.out]; exact ⟨Hsl.out, Htl.out⟩))
                      rw [HN.out] at HI2
                      obtain ⟨la', lc', w6, hr6, hS6, hb6⟩ := Sep.pushInt (P := Try.prog) 78 78 Try.underlying78 infoI HS5.out hz25 (0 : Int) (by simp; exact Hl.out) 3
                      have hz6 := hb6.size
                      obtain ⟨ra', rc', w7, hr7, hS7, hb7⟩ := Sep.pushInt (P := Try.prog) 78 78 Try.underlying78 infoI hS6.swap (by omega) (0 : Int) (by simp; exact Hl.out) 3
                      have e1 : fstL ps ++ [(0 : Int)] = fstL (ps ++ [(0, 0)]) := by simp
                      have e2 : sndL ps ++ [(0 : Int)] = sndL (ps ++ [(0, 0)]) := by simp
                      have e3 : (fstL (ps ++ [(0, 0)])).length = (ps ++ [(0, 0)]).length := by simp
                      have e4 : (sndL (ps ++ [(0, 0)])).length = (ps ++ [(0, 0)]).length := by simp
                      have e5 : (ps ++ [(0, 0)]).length = ps.length + 1 := by simp
                      rw [e1, e3, e5] at hr6 hS7
                      rw [e2, e4, e5] at hr7 hS7
                      have HS7 := Lib.hid hS7.swap
                      have HB7 := Lib.hid (HB5.out.trans ((hb6.mono (Nat.le_refl _)).trans hb7))
                      have Hr6 := Lib.hid hr6
                      have Hr7 := Lib.hid hr7
                      have Hlt' := Lib.hid (show k < (ps ++ [(0, 0)]).length from by simp; omega)
                      clear hS6 hS7 hb6 hb7 hr6 hr7 HI HS5 HB5 e1 e2 e3 e4
                      have E5 := Lib.hid e5
                      clear e5
                      go_wp2_with (first
                        | (at_builtin; refine wpl_append_run rfl (.tmp 98) (.tmp 100) 78 rfl rfl rfl Hr6.out ?_)
                        | (at_builtin; refine wpl_append_run rfl (.tmp 102) (.tmp 104) 78 rfl rfl rfl Hr7.out ?_)
                        | fail)
                      go_roundg (N - (x + 1))
                      case measure => omega
                      case rel => exact ⟨x + 1, ps ++ [(0, 0)], _, _, _, _, by rw [E5.out], by rw [E5.out], by go_num, by omega, Hlt'.out, HI2, HS7, HB7⟩
              · have ht1 : 0 < t := by omega
                have ht2 : (0 : Int) < (t : Int) := by omega
                have HF := Lib.hid (show T = false from by rw [HG.out]; simp only [decide_eq_false_iff_not]; exact HI.out.bad Hy.out hxl (by rw [HN.out]; simp [badP, ht0]))
                clear HI HS5 HB5
                go_wp2
                go_ret
                exact ⟨by rw [HF.out]; rfl, HA5.out⟩
            · have hs1 : 0 < s := by omega
              have hs2 : (0 : Int) < (s : Int) := by omega
              have hs3 : ((s : Int) == 0) = false := by simp; omega
              by_cases ht0 : t = 0
              · subst ht0
                have HF := Lib.hid (show T = false from by rw [HG.out]; simp only [decide_eq_false_iff_not]; exact HI.out.bad Hy.out hxl (by rw [HN.out]; simp [badP, hs0]))
                clear HI HS5 HB5
                go_wp2
                go_ret
                exact ⟨by rw [HF.out]; rfl, HA5.out⟩
              · have ht1 : 0 < t := by omega
                have ht2 : (0 : Int) < (t : Int) := by omega
                have Hb := Lib.hid (show badP (s, t) = false from by have z1 : (s == 0) = false := (by simpa using hs0); have z2 : (t == 0) = false := (by simpa using ht0); simp only [badP]; rw [z1, z2]; rfl)
                have hl := Hl.out
                clear HG
                go_wp2
                go_loopg [11, 12] ps.length (fun g3 kn i wy => ∃ (j : Nat) (kb : Bool), kn = .bool kb ∧ i = .int .i64 j ∧ j + g3 = ps.length ∧ Hid (kb = true ↔ ((s, t) = ((0, 0) : P2) ∨ ((s, t) : P2) ∈ ps.take j)) ∧ w5 = wy)
                case atStart => exact ⟨0, false, rfl, rfl, by omega, Lib.hid (by simp; omega), rfl⟩
                case round =>
                  obtain ⟨j, kb, rfl, rfl, hj, HK, rfl⟩ := hrel
                  by_cases hjl : j < ps.length
                  · obtain ⟨z, hzz, _⟩ := at_lt hjl
                    have g0 := Hkl.out j z hzz
                    have g1 := Hkr.out j z hzz
                    have HT := Lib.hid (show ps.take (j + 1) = ps.take j ++ [z] from (take_snoc' hzz).symm)
                    have hji : (j : Int) < (ps.length : Int) := by omega
                    obtain ⟨z1, z2⟩ := z
                    simp only at g0 g1
                    clear hzz
                    cases kb with
                    | true =>
                      go_wp2
                      go_roundg (ps.length - (j + 1))
                      case measure => omega
                      case rel => exact ⟨j + 1, true, rfl, by go_num, by omega, Lib.hid (by rw [HT.out]; have h := HK.out; simp only [true_iff] at h ⊢; exact h.imp id fun h => List.mem_append_left _ h), rfl⟩
                    | false =>
                      by_cases q1 : (z1 : Int) = (s : Int)
                      · have t1 : ((z1 : Int) == (s : Int)) = true := by simp [q1]
                        by_cases q2 : (z2 : Int) = (t : Int)
                        · have t2 : ((z2 : Int) == (t : Int)) = true := by simp [q2]
                          go_wp2
                          go_roundg (ps.length - (j + 1))
                          case measure => omega
                          case rel => exact ⟨j + 1, true, rfl, by go_num, by omega, Lib.hid (by rw [HT.out]; have e : ((s, t) : P2) = (z1, z2) := Prod.ext (show s = z1 by omega) (show t = z2 by omega); simp [← e]), rfl⟩
                        · have t2 : ((z2 : Int) == (t : Int)) = false := by simp; omega
                          go_wp2
                          go_roundg (ps.length - (j + 1))
                          case measure => omega
                          case rel => exact ⟨j + 1, false, rfl, by go_num, by omega, Lib.hid (by rw [HT.out]; have h := HK.out; simp only [Bool.false_eq_true, false_iff, not_or] at h ⊢; refine ⟨h.1, fun hm => ?_⟩; rcases List.mem_append.1 hm with hm | hm; exact h.2 hm; simp at hm; omega), rfl⟩
                      · have t1 : ((z1 : Int) == (s : Int)) = false := by simp; omega
                        go_wp2
                        go_roundg (ps.length - (j + 1))
                        case measure => omega
                        case rel => exact ⟨j + 1, false, rfl, by go_num, by omega, Lib.hid (by rw [HT.out]; have h := HK.out; simp only [Bool.false_eq_true, false_iff, not_or] at h ⊢; refine ⟨h.1, fun hm => ?_⟩; rcases List.mem_append.1 hm with hm | hm; exact h.2 hm; simp at hm; omega), rfl⟩
                  · have e : j = ps.length := by omega
                    subst e
                    have HK2 := Lib.hid (show kb = true ↔ ((s, t) = ((0, 0) : P2) ∨ ((s, t) : P2) ∈ ps) from by have h := HK.out; rwa [List.take_of_length_le (Nat.le_refl _)] at h)
                    clear HK Hkl Hkr
                    cases kb with
                    | true =>
                      have HI2 := Lib.hid (HI.out.known Hy.out (by rw [HN.out]; exact Hb.out) (by rw [HN.out]; exact HK2.out.1 rfl))
                      clear HI
                      go_wp2
                      go_roundg (N - (x + 1))
                      case measure => omega
                      case rel => exact ⟨x + 1, ps, _, _, _, _, rfl, rfl, by go_num, by omega, hlt, HI2, HS5, HB5⟩
                    | false =>
                      have HI2 := Lib.hid (HI.out.add Hy.out hxl (by rw [HN.out]; exact Hb.out) (by rw [HN.out]; exact fun hm => by have := HK2.out.2 (Or.inr hm); cases this) (by rw [HN.out]; exact ⟨Hsl.out, Htl.out⟩))
                      rw [HN.out] at HI2
                      obtain ⟨la', lc', w6, hr6, hS6, hb6⟩ := Sep.pushInt (P := Try.prog) 78 78 Try.underlying78 infoI HS5.out hz25 (s : Int) (by simp; exact Hl.out) 3
                      have hz6 := hb6.size
                      obtain ⟨ra', rc', w7, hr7, hS7, hb7⟩ := Sep.pushInt (P := Try.prog) 78 78 Try.underlying78 infoI hS6.swap (by omega) (t : Int) (by simp; exact Hl.out) 3
                      have e1 : fstL ps ++ [(s : Int)] = fstL (ps ++ [(s, t)]) := by simp
                      have e2 : sndL ps ++ [(t : Int)] = sndL (ps ++ [(s, t)]) := by simp
                      have e3 : (fstL (ps ++ [(s, t)])).length = (ps ++ [(s, t)]).length := by simp
                      have e4 : (sndL (ps ++ [(s, t)])).length = (ps ++ [(s, t)]).length := by simp
                      have e5 : (ps ++ [(s, t)]).length = ps.length + 1 := by simp
                      rw [e1, e3, e5] at hr6 hS7
                      rw [e2, e4, e5] at hr7 hS7
                      have HS7 := Lib.hid hS7.swap
                      have HB7 := Lib.hid (HB5.out.trans ((hb6.mono (Nat.le_refl _)).trans hb7))
                      have Hr6 := Lib.hid hr6
                      have Hr7 := Lib.hid hr7
                      have Hlt' := Lib.hid (show k < (ps ++ [(s, t)]).length from by simp; omega)
                      clear hS6 hS7 hb6 hb7 hr6 hr7 HI HS5 HB5 e1 e2 e3 e4
                      have E5 := Lib.hid e5
                      clear e5
                      go_wp2_with (first
                        | (at_builtin; refine wpl_append_run rfl (.tmp 98) (.tmp 100) 78 rfl rfl rfl Hr6.out ?_)
                        | (at_builtin; refine wpl_append_run rfl (.tmp 102) (.tmp 104) 78 rfl rfl rfl Hr7.out ?_)
                        | fail)
                      go_roundg (N - (x + 1))
                      case measure => omega
                      case rel => exact ⟨x + 1, ps ++ [(s, t)], _, _, _, _, by rw [E5.out], by rw [E5.out], by go_num, by omega, Hlt'.out, HI2, HS7, HB7⟩
          · have HI2 := Lib.hid (show InvP xa xb N (A, B) ps (k + 1) 0 from by have h := HI.out; rw [show x = N by omega] at h; exact h.next)
            have xc0 := (HB.out.cell (p := ⟨w.heap.size, 0, none⟩) (show w.heap.size < _ by omega)).trans Kc0.out
            have xd0 := (HB.out.cell (p := ⟨w.heap.size + 1, 0, none⟩) (show w.heap.size + 1 < _ by omega)).trans Kd0.out
            have hxe : x = N := by omega
            have hxi : ¬ ((x : Int) < (N : Int)) := by omega
            have hl := Hl.out
            clear HI hxl hx hxe
            go_wp2
            go_roundg (16777217 - (k + 1))
            case measure => omega
            case rel => exact ⟨k + 1, ps, _, _, _, _, rfl, rfl, by go_num, by omega, HI2, HS, HB⟩
      · have HF := Lib.hid (show T = true from by rw [HG.out]; simp only [decide_eq_true_iff]; exact HI.out.end (by omega))
        have Hz := Lib.hid (A1.out.trans (HB.out.mono A1.out.size))
        clear HI HS HB Hl
        go_wp2
        go_ret
        exact ⟨by rw [HF.out]; rfl, Hz.out⟩
  · have HF := Lib.hid (show T = false from by rw [H0.out]; simp [hLM])
    have t0 : (L != M) = true := by simp [hLM]
    clear H0 Hfa Hfb
    go_wp2
    go_ret
    exact ⟨by rw [HF.out]; rfl, A1.out⟩
end Go.Proofs.Ytjgiobapdkdhpaa
