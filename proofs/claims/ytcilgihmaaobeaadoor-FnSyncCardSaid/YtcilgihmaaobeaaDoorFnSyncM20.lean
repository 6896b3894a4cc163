/-
  Texts of this claim joined: laws for its walks, contracts of the functions that the law reaches.
-/
import Derived.Test.YtcilgihmaaobeaaDoorFnSyncM18
import Derived.Test.YtcilgihmaaobeaaDoorRows
import Derived.Test.YtcilgihmaaobeaaDoorFnSyncM1
import Derived.Test.YtcilgihmaaobeaaDoorFnSyncM3
import Derived.Test.YtcilgihmaaobeaaDoorFnSyncM5
import Derived.Test.YtcilgihmaaobeaaDoorFnSyncM6
import Derived.IntWalk
import Derived.Lib.LaidTab
import Derived.Deep.RegionHeld3
import Derived.Deep.DeepCutAuto
set_option linter.unusedVariables false
set_option linter.unusedSimpArgs false
section
namespace Go.Proofs.YtcilgihmaaobeaaDoor
open Go.RowKit Go.Deep Go.Sd
def debTab : List Int := [0, 1, 56, 2, 57, 49, 28, 3, 61, 58, 42, 50, 38, 29, 17, 4, 62, 47, 59, 36, 45, 43, 51, 22, 53, 39, 33, 30, 24, 18, 12, 5, 63, 55, 48, 27, 60, 41, 37, 16, 46, 35, 44, 21, 52, 32, 23, 11, 54, 26, 40, 15, 34, 20, 31, 10, 25, 14, 19, 9, 13, 8, 7, 6]
/-- The table of math/bits lies as its initialiser laid it. -/
def Deb (w : World) : Prop := ∀ i, i < 64 → w.cell? ⟨1, i, none⟩ = some (.int .u8 (debTab.getD i 0))
theorem Deb.lt {w : World} (h : Deb w) : 1 < w.heap.size := by
  rcases Nat.lt_or_ge 1 w.heap.size with hl | hl
  · exact hl
  · have h0 := h 0 (by decide)
    simp [World.cell?, Array.getElem?_eq_none hl] at h0
theorem Deb.frame {w w' : World} (h : Deb w) (hb : Below w.heap.size w w') : Deb w' := fun i hi => (hb.cell (p := ⟨1, i, none⟩) h.lt).trans (h i hi)
set_option maxHeartbeats 1000000 in
theorem TrailingZeros64_c {w : World} (hD : Deb w) (q : Nat) (hq : q < 12) : Calls Tryd.prog 65 #[.int .u64 ((2 ^ q : Nat) : Int)] w fun e w' => e = .returned (.int .i64 q) ∧ w = w' := by
  match q, hq with
  | 0, _ =>
    have c : w.cell? ⟨1, (IntKind.u64.wrap (bits BinOp.and IntKind.u64 1 (IntKind.u64.wrap (-1)) * 285870213051353865) / 288230376151711744).toNat, none⟩ = some (.int .u8 0) := by
      rw [show (IntKind.u64.wrap (bits BinOp.and IntKind.u64 1 (IntKind.u64.wrap (-1)) * 285870213051353865) / 288230376151711744).toNat = 0 by decide +kernel]
      exact hD 0 (by decide)
    have hlt := hD.lt
    clear hD
    go_enter Tryd.func65, Tryd.ntmps65
    go_wp2
    go_ret
    exact ⟨rfl, rfl⟩
  | 1, _ =>
    have c : w.cell? ⟨1, (IntKind.u64.wrap (bits BinOp.and IntKind.u64 2 (IntKind.u64.wrap (-2)) * 285870213051353865) / 288230376151711744).toNat, none⟩ = some (.int .u8 1) := by
      rw [show (IntKind.u64.wrap (bits BinOp.and IntKind.u64 2 (IntKind.u64.wrap (-2)) * 285870213051353865) / 288230376151711744).toNat = 1 by decide +kernel]
      exact hD 1 (by decide)
    have hlt := hD.lt
    clear hD
    go_enter Tryd.func65, Tryd.ntmps65
    go_wp2
    go_ret
    exact ⟨rfl, rfl⟩
  | 2, _ =>
    have c : w.cell? ⟨1, (IntKind.u64.wrap (bits BinOp.and IntKind.u64 4 (IntKind.u64.wrap (-4)) * 285870213051353865) / 288230376151711744).toNat, none⟩ = some (.int .u8 2) := by
      rw [show (IntKind.u64.wrap (bits BinOp.and IntKind.u64 4 (IntKind.u64.wrap (-4)) * 285870213051353865) / 288230376151711744).toNat = 3 by decide +kernel]
      exact hD 3 (by decide)
    have hlt := hD.lt
    clear hD
    go_enter Tryd.func65, Tryd.ntmps65
    go_wp2
    go_ret
    exact ⟨rfl, rfl⟩
  | 3, _ =>
    have c : w.cell? ⟨1, (IntKind.u64.wrap (bits BinOp.and IntKind.u64 8 (IntKind.u64.wrap (-8)) * 285870213051353865) / 288230376151711744).toNat, none⟩ = some (.int .u8 3) := by
      rw [show (IntKind.u64.wrap (bits BinOp.and IntKind.u64 8 (IntKind.u64.wrap (-8)) * 285870213051353865) / 288230376151711744).toNat = 7 by decide +kernel]
      exact hD 7 (by decide)
    have hlt := hD.lt
    clear hD
    go_enter Tryd.func65, Tryd.ntmps65
    go_wp2
    go_ret
    exact ⟨rfl, rfl⟩
  | 4, _ =>
    have c : w.cell? ⟨1, (IntKind.u64.wrap (bits BinOp.and IntKind.u64 16 (IntKind.u64.wrap (-16)) * 285870213051353865) / 288230376151711744).toNat, none⟩ = some (.int .u8 4) := by
      rw [show (IntKind.u64.wrap (bits BinOp.and IntKind.u64 16 (IntKind.u64.wrap (-16)) * 285870213051353865) / 288230376151711744).toNat = 15 by decide +kernel]
      exact hD 15 (by decide)
    have hlt := hD.lt
    clear hD
    go_enter Tryd.func65, Tryd.ntmps65
    go_wp2
    go_ret
    exact ⟨rfl, rfl⟩
  | 5, _ =>
    have c : w.cell? ⟨1, (IntKind.u64.wrap (bits BinOp.and IntKind.u64 32 (IntKind.u64.wrap (-32)) * 285870213051353865) / 288230376151711744).toNat, none⟩ = some (.int .u8 5) := by
      rw [show (IntKind.u64.wrap (bits BinOp.and IntKind.u64 32 (IntKind.u64.wrap (-32)) * 285870213051353865) / 288230376151711744).toNat = 31 by decide +kernel]
      exact hD 31 (by decide)
    have hlt := hD.lt
    clear hD
    go_enter Tryd.func65, Tryd.ntmps65
    go_wp2
    go_ret
    exact ⟨rfl, rfl⟩
  | 6, _ =>
    have c : w.cell? ⟨1, (IntKind.u64.wrap (bits BinOp.and IntKind.u64 64 (IntKind.u64.wrap (-64)) * 285870213051353865) / 288230376151711744).toNat, none⟩ = some (.int .u8 6) := by
      rw [show (IntKind.u64.wrap (bits BinOp.and IntKind.u64 64 (IntKind.u64.wrap (-64)) * 285870213051353865) / 288230376151711744).toNat = 63 by decide +kernel]
      exact hD 63 (by decide)
    have hlt := hD.lt
    clear hD
    go_enter Tryd.func65, Tryd.ntmps65
    go_wp2
    go_ret
    exact ⟨rfl, rfl⟩
  | 7, _ =>
    have c : w.cell? ⟨1, (IntKind.u64.wrap (bits BinOp.and IntKind.u64 128 (IntKind.u64.wrap (-128)) * 285870213051353865) / 288230376151711744).toNat, none⟩ = some (.int .u8 7) := by
      rw [show (IntKind.u64.wrap (bits BinOp.and IntKind.u64 128 (IntKind.u64.wrap (-128)) * 285870213051353865) / 288230376151711744).toNat = 62 by decide +kernel]
      exact hD 62 (by decide)
    have hlt := hD.lt
    clear hD
    go_enter Tryd.func65, Tryd.ntmps65
    go_wp2
    go_ret
    exact ⟨rfl, rfl⟩
  | 8, _ =>
    have c : w.cell? ⟨1, (IntKind.u64.wrap (bits BinOp.and IntKind.u64 256 (IntKind.u64.wrap (-256)) * 285870213051353865) / 288230376151711744).toNat, none⟩ = some (.int .u8 8) := by
      rw [show (IntKind.u64.wrap (bits BinOp.and IntKind.u64 256 (IntKind.u64.wrap (-256)) * 285870213051353865) / 288230376151711744).toNat = 61 by decide +kernel]
      exact hD 61 (by decide)
    have hlt := hD.lt
    clear hD
    go_enter Tryd.func65, Tryd.ntmps65
    go_wp2
    go_ret
    exact ⟨rfl, rfl⟩
  | 9, _ =>
    have c : w.cell? ⟨1, (IntKind.u64.wrap (bits BinOp.and IntKind.u64 512 (IntKind.u64.wrap (-512)) * 285870213051353865) / 288230376151711744).toNat, none⟩ = some (.int .u8 9) := by
      rw [show (IntKind.u64.wrap (bits BinOp.and IntKind.u64 512 (IntKind.u64.wrap (-512)) * 285870213051353865) / 288230376151711744).toNat = 59 by decide +kernel]
      exact hD 59 (by decide)
    have hlt := hD.lt
    clear hD
    go_enter Tryd.func65, Tryd.ntmps65
    go_wp2
    go_ret
    exact ⟨rfl, rfl⟩
  | 10, _ =>
    have c : w.cell? ⟨1, (IntKind.u64.wrap (bits BinOp.and IntKind.u64 1024 (IntKind.u64.wrap (-1024)) * 285870213051353865) / 288230376151711744).toNat, none⟩ = some (.int .u8 10) := by
      rw [show (IntKind.u64.wrap (bits BinOp.and IntKind.u64 1024 (IntKind.u64.wrap (-1024)) * 285870213051353865) / 288230376151711744).toNat = 55 by decide +kernel]
      exact hD 55 (by decide)
    have hlt := hD.lt
    clear hD
    go_enter Tryd.func65, Tryd.ntmps65
    go_wp2
    go_ret
    exact ⟨rfl, rfl⟩
  | 11, _ =>
    have c : w.cell? ⟨1, (IntKind.u64.wrap (bits BinOp.and IntKind.u64 2048 (IntKind.u64.wrap (-2048)) * 285870213051353865) / 288230376151711744).toNat, none⟩ = some (.int .u8 11) := by
      rw [show (IntKind.u64.wrap (bits BinOp.and IntKind.u64 2048 (IntKind.u64.wrap (-2048)) * 285870213051353865) / 288230376151711744).toNat = 47 by decide +kernel]
      exact hD 47 (by decide)
    have hlt := hD.lt
    clear hD
    go_enter Tryd.func65, Tryd.ntmps65
    go_wp2
    go_ret
    exact ⟨rfl, rfl⟩
  | q + 12, h => exact absurd h (by omega)
set_option maxHeartbeats 1000000 in
theorem TrailingZeros_c {w : World} (hD : Deb w) {q : Nat} (hq : q < 12) : Calls Tryd.prog 49 #[.int .u64 ((2 ^ q : Nat) : Int)] w fun e w' => e = .returned (.int .i64 q) ∧ w = w' := by
  have H := Lib.hid (TrailingZeros64_c hD q hq)
  clear hD
  generalize ((2 ^ q : Nat) : Int) = x at H ⊢
  go_enter Tryd.func49, Tryd.ntmps49
  go_wp2_with fail
  (with_reducible refine H.out.mono ?_)
  rintro e w' ⟨rfl, rfl⟩
  go_wp2
  go_ret
  exact ⟨rfl, rfl⟩
set_option maxHeartbeats 4000000 in
set_option maxRecDepth 10000 in
theorem impl_SyncState_c {w : World} {v : Value} {l : Lb} (h : LabR w v l) {s : ByteArray} (hs : s.size ≤ maxLen) (hD : Deb w) :
    Calls Tryd.prog 20 #[v, .string s] w fun e w' => e = .returned (.int .i64 (syncM l s)) ∧ Below w.heap.size w w' := by
  have H1 := Lib.hid (fun w1 (hb : Below w.heap.size w w1) => impl_IsSynchronizing_c (LabR.frame _ _ _ _ h hb) hs)
  have Hfr := Lib.hid (fun w1 (hb : Below w.heap.size w w1) => LabR.frame _ _ _ _ h hb)
  have hbd := syncM_bd l s
  have h0 := rank_sync l s
  rw [h0] at H1
  by_cases hp : 0 ≤ syncM l s
  · rw [decide_eq_true hp] at H1
    have hb : (resolvM l && wordM l.1 s) = true := by
      by_cases hh : (resolvM l && wordM l.1 s) = true
      · exact hh
      · unfold syncM at hp; rw [if_neg hh] at hp; omega
    have H0 : syncM l s = onlyN (readB l.2.2 s.data.toList (allN l.2.1)) := by unfold syncM; rw [if_pos hb]
    rw [H0] at hp ⊢
    rw [Bool.and_eq_true] at hb
    obtain ⟨ho, hS1, hS2, hL1, hL2⟩ := isLab_ok (resolvM_lab hb.1)
    have Hrd := Lib.hid (fun w1 (hb' : Below w.heap.size w w1) => impl_read_c (Hfr.out w1 hb') ho hS2 (allN_lt hS2) hs (wordM_ge hb.2))
    have Hal := Lib.hid (fun w1 (hb' : Below w.heap.size w w1) => impl_all_c (Hfr.out w1 hb') hS1 hS2)
    obtain ⟨q, hq1, hq2, hq3⟩ := onlyN_pow hp
    have Htz := Lib.hid (fun (w1 : World) (hb' : Below w.heap.size w w1) => TrailingZeros_c (q := q) (hD.frame hb') hq2)
    rw [hq1]
    rw [hq3] at Hrd
    clear hq1 hq3 hp H0 h0 hb hbd ho hL1 hL2
    have Hs := Lib.hid hs
    clear hs Hfr hD
    have hq0 : 0 < 2 ^ q := Nat.pow_pos (by decide)
    have hq4 : 2 ^ q < 4096 := Nat.lt_of_lt_of_le (Nat.pow_lt_pow_right (by decide) hq2) (by decide)
    generalize 2 ^ q = X at Hrd Htz hq0 hq4
    generalize allN l.2.1 = A at Hrd Hal
    obtain ⟨L, S, xs⟩ := l
    obtain ⟨va, rfl, _, a, c, rfl, _, _, _, _⟩ := h
    simp only at *
    generalize hn : xs.length = n at *
    clear hn
    have hur : IntKind.u64.wrap (X : Int) = (X : Int) := IntWalk.u64_in _ (by omega)
    go_enter Tryd.func20, Tryd.ntmps20
    go_wp2_with fail
    obtain ⟨w1, ex, A0, c0, c1, c2, m1⟩ := boxA3_ex w 26 (.int .i64 L) (.int .i64 S) (.slice a n c)
    change Calls Tryd.prog _ _ (w.alloc (.cells #[.int .i64 L, .int .i64 S, .slice a n c] 26)) _
    rw [ex]
    clear ex
    refine (H1.out _ A0).mono ?_
    rintro e w2 ⟨rfl, hb⟩
    replace c0 := (hb.cell (p := ⟨w.heap.size, 0, none⟩) m1).trans c0
    replace c1 := (hb.cell (p := ⟨w.heap.size, 1, none⟩) m1).trans c1
    replace c2 := (hb.cell (p := ⟨w.heap.size, 2, none⟩) m1).trans c2
    replace m1 := Nat.lt_of_lt_of_le m1 hb.size
    replace A0 := A0.trans (hb.mono A0.size)
    clear hb
    go_wp2
    have hS0 : w2.cell? ⟨w.heap.size, 0, none⟩ = some (.int .i64 L) ∧ w2.cell? ⟨w.heap.size, 1, none⟩ = some (.int .i64 S) ∧ w2.cell? ⟨w.heap.size, 2, none⟩ = some (.slice a n c) := ⟨c0, c1, c2⟩
    have hSd : w2.drew.cell? ⟨w.heap.size, 0, none⟩ = some (.int .i64 L) ∧ w2.drew.cell? ⟨w.heap.size, 1, none⟩ = some (.int .i64 S) ∧ w2.drew.cell? ⟨w.heap.size, 2, none⟩ = some (.slice a n c) := hS0
    have HS := Lib.hid (fun (wz : World) (hb3 : Below w2.heap.size w2 wz) => (show wz.cell? ⟨w.heap.size, 0, none⟩ = some (.int .i64 L) ∧ wz.cell? ⟨w.heap.size, 1, none⟩ = some (.int .i64 S) ∧ wz.cell? ⟨w.heap.size, 2, none⟩ = some (.slice a n c) from ⟨(hb3.cell (p := ⟨w.heap.size, 0, none⟩) m1).trans c0, (hb3.cell (p := ⟨w.heap.size, 1, none⟩) m1).trans c1, (hb3.cell (p := ⟨w.heap.size, 2, none⟩) m1).trans c2⟩))
    have HA := Lib.hid (fun (wz : World) (hb3 : Below w2.heap.size w2 wz) => A0.trans (hb3.mono A0.size))
    have B1 := (Below.refl w2.heap.size w2).drew
    have HA1 := HA.out _ B1
    clear c0 c1 c2
    go_region_held3 (fun w' => w'.cell? ⟨w.heap.size, 0, none⟩ = some (.int .i64 L) ∧ w'.cell? ⟨w.heap.size, 1, none⟩ = some (.int .i64 S) ∧ w'.cell? ⟨w.heap.size, 2, none⟩ = some (.slice a n c))
      (first | with_reducible exact hS2 | with_reducible exact hS1 | with_reducible exact hSd | with_reducible exact hS0 | go_keep)
      ((first
        | (go_at_call 49; (with_reducible refine (Htz.out _ HA3).mono ?_); rintro e w' ⟨rfl, rfl⟩)
        | (go_at_call 39; (with_reducible refine (Hrd.out _ HA2).mono ?_); rintro e wq3 ⟨rfl, hb⟩; have B3 := B2.trans (hb.mono B2.size); have hS2 := HS.out _ B3; have HA3 := HA.out _ B3; clear hb)
        | (go_at_call 40; (with_reducible refine (Hal.out _ HA1).mono ?_); rintro e wq2 ⟨rfl, hb⟩; have B2 := B1.trans (hb.mono B1.size); have hS1 := HS.out _ B2; have HA2 := HA.out _ B2; clear hb)
        | fail))
    go_wp2
    go_ret
    exact ⟨rfl, HA3⟩
  · rw [decide_eq_false hp] at H1
    obtain ⟨z, hz⟩ : ∃ z, z = syncM l s := ⟨_, rfl⟩
    rw [← hz] at hp hbd ⊢
    have hz1 : z = -1 := by omega
    clear hz hp hbd h0 Hfr hD
    subst hz1
    have Hs := Lib.hid hs
    clear hs
    obtain ⟨L, S, xs⟩ := l
    obtain ⟨va, rfl, _, a, c, rfl, _, _, _, _⟩ := h
    simp only at *
    generalize hn : xs.length = n at *
    clear hn
    go_enter Tryd.func20, Tryd.ntmps20
    go_wp2_with fail
    obtain ⟨w1, ex, A0, c0, c1, c2, m1⟩ := boxA3_ex w 26 (.int .i64 L) (.int .i64 S) (.slice a n c)
    change Calls Tryd.prog _ _ (w.alloc (.cells #[.int .i64 L, .int .i64 S, .slice a n c] 26)) _
    rw [ex]
    clear ex
    refine (H1.out _ A0).mono ?_
    rintro e w2 ⟨rfl, hb⟩
    replace A0 := A0.trans (hb.mono A0.size)
    clear hb
    go_wp2
    go_ret
    exact ⟨rfl, A0⟩
end Go.Proofs.YtcilgihmaaobeaaDoor
end

section
namespace Go.Sd
open Go.ChangeShapes Go.WideShapes Go.ChangeAt Go.RowKit Go.Deep
section
variable {H : Type} {enc : TypeId × Value → H} {P : Program} {W : World} {base : Nat}
theorem open_Bytes {t q : TypeId} (ht : P.underlying t = some (.slice q)) (hq : P.underlying q = some (.int .u8)) (cq : P.cellsOf q = 1) {v : Value} {d : DataW H} {p : List MemPlace}
    (hv : Value.okWide P W .any base t v) (h : DataW.Trod enc P W 0 (fun _ => true) true t v d p) : ∃ xs, BytR W v xs ∧ True := by
  obtain ⟨a, len, cap, rfl⟩ := okWide_slice ht hv
  obtain ⟨fuel, hf⟩ := h
  have h := hf
  simp only [Value.cells] at h
  rcases open_ints ht hq cq h with ⟨hcs, _⟩ | ⟨a', l, c, zs, hcs, _, hl, hm, hz, _, hcell, hwz⟩
  · simp at hcs
    obtain ⟨rfl, rfl, rfl⟩ := hcs
    exact ⟨[], ⟨[], Sl.mk' rfl (by simp) (by simp) (by simp) (by simp), rfl, by simp⟩, trivial⟩
  · simp at hcs
    obtain ⟨rfl, rfl, rfl⟩ := hcs
    simp only [if_true] at hz
    have hm' : cap ≤ 9223372036854775807 := hm
    refine ⟨zs.take len, ⟨(zs.take len).map (Value.int .u8), Sl.mk' (by simp; omega) hl hm' ?_ (by simp), by simp, ?_⟩, trivial⟩
    · intro a'' ha i u hu
      cases ha
      rw [List.getElem?_map, Option.map_eq_some_iff] at hu
      obtain ⟨z, hz1, rfl⟩ := hu
      have hi : i < (zs.take len).length := (List.getElem?_eq_some_iff.1 hz1).1
      rw [List.length_take] at hi
      rw [List.getElem?_take, if_pos (by omega)] at hz1
      have := hcell i (by omega)
      rw [List.getD, hz1] at this
      simpa using this
    · intro i u z hu hz1
      rw [List.getElem?_map, hz1] at hu
      simp at hu
      exact hu.symm
end
end Go.Sd
end

section
namespace Go.Proofs.YtcilgihmaaobeaaDoor
open Go.RowKit Go.Deep Go.Sd
set_option linter.unusedSimpArgs false
set_option maxHeartbeats 1000000 in
theorem big_c {w : World} {a : Option Addr} {n c : Nat} (hn : n ≤ 9223372036854775807) :
    Calls Tryd.prog 4 #[.slice a n c] w fun e w' => e = .returned (.bool (decide (1048576 < n))) ∧ w = w' := by
  have hd : decide ((1048576 : Int) < (n : Int)) = decide (1048576 < n) := decide_eq_decide.2 (by omega)
  generalize decide (1048576 < n) = D at hd ⊢
  go_enter Tryd.func4, Tryd.ntmps4
  go_wp2
  go_ret
  exact ⟨by rw [← hd]; rfl, rfl⟩
end Go.Proofs.YtcilgihmaaobeaaDoor
end
