/-
  ReadWords, the program's.
-/
import Derived.Test.YtdohepngandajaaRows
import Derived.Test.YtdohepngandajaaBase
import Derived.Test.YtdohepngandajaaHarn
import Derived.Test.YtdohepngandajaaLab
import Derived.Test.YtdohepngandajaaLabC
import Derived.Test.YtdohepngandajaaLabM
import Derived.Test.YtdohepngandajaaLabV
import Derived.Test.YtdohepngandajaaLabVS
import Derived.Test.YtdohepngandajaaMoeb
import Derived.Test.YtdohepngandajaaRead
import Derived.Test.YtdohepngandajaaReadFrom
import Derived.Test.YtdohepngandajaaWordM
import Derived.Test.YtdohepngandajaaWordI
import Derived.Test.YtdohepngandajaaL2All
import Derived.Test.YtdohepngandajaaStrs
import Derived.Test.YtdohepngandajaaWalkH
import Derived.Test.YtdohepngandajaaCountSI
import Derived.IntWalk
import Derived.Deep.RegionHeld3
import Derived.Deep.DeepCutAuto
import Derived.Test.YtdohepngandajaaCountSS
namespace Go.Proofs.Ytdohepngandajaa
open Go.RowKit Go.Deep Go.Sd
set_option linter.unusedSimpArgs false
def rdwF (xs : List Arc3) (S : Int) (wd : List Nat) : Bool := decide (0 < readB xs (wordT wd).data.toList (allN S))
def rdwM (l : Lb) (n : Int) : List ByteArray := if (isLab l && decide (0 ≤ n ∧ n ≤ 6)) = true then ((allW l.1.toNat n.toNat).filter (rdwF l.2.2 l.2.1)).map wordT else []
theorem wordM_all {N : Nat} (h0 : 0 < N) (hN : N ≤ 3) {k : Nat} (hk : k ≤ 6) {wd : List Nat} (h : wd ∈ allW N k) : wordM (N : Int) (wordT wd) = true := by
  obtain ⟨h1, h2⟩ := allW_mem h0 h
  unfold wordM
  rw [decide_eq_true (by omega), decide_eq_true (by rw [wordT_size]; omega)]
  have := letB_of hN wd h2
  simpa [wordT] using this
theorem reads_all {N : Nat} {S : Int} {xs : List Arc3} (hl : isLab ((N : Int), S, xs) = true) (h0 : 0 < N) (hN : N ≤ 3) {k : Nat} (hk : k ≤ 6) {wd : List Nat} (h : wd ∈ allW N k) : readsM ((N : Int), S, xs) (wordT wd) = rdwF xs S wd := by
  unfold readsM rdwF
  rw [hl, wordM_all h0 hN hk h]
  rfl
set_option maxHeartbeats 2000000 in
set_option maxRecDepth 100000 in
theorem rdwclo_c {w : World} {bL : Nat} {L S : Int} {a : Option Addr} {n c : Nat} {xs : List Arc3} (hb : Box3 w bL (.int .i64 L) (.int .i64 S) (.slice a n c)) (hfr : ∀ w1, Below w.heap.size w w1 → LabR w1 (.agg #[.int .i64 L, .int .i64 S, .slice a n c]) (L, S, xs)) (ho : okArcs S xs) (hS1 : 1 ≤ S) (hS2 : S ≤ 12) {wd : List Nat} (hw : ∀ x, x ∈ wd → x < 3) (hl : wd.length ≤ 16) :
    Calls Try.prog 80 #[.string (wordT wd), .pointer (some ⟨bL, 0, none⟩)] w fun e w' => e = .returned (.bool (rdwF xs S wd)) ∧ Below w.heap.size w w' := by
  have C1 := Lib.hid (fun w1 (h : Below w.heap.size w w1) => impl_all_c (hfr w1 h) hS1 hS2)
  have C2 := Lib.hid (fun w1 (h : Below w.heap.size w w1) => impl_read_c (hfr w1 h) ho hS2 (allN_lt hS2) (s := wordT wd) (by rw [wordT_size]; unfold maxLen; omega) (fun c hc => (wordT_bytes hw c hc).1))
  simp only at C1 C2
  have HF := Lib.hid (show rdwF xs S wd = decide (0 < readB xs (wordT wd).data.toList (allN S)) from rfl)
  generalize readB xs (wordT wd).data.toList (allN S) = r at C2 HF
  generalize rdwF xs S wd = T at HF ⊢
  generalize allN S = A at C1 C2
  obtain ⟨m1, hc0, hc1, hc2⟩ := hb
  have hS0 : w.cell? ⟨bL, 0, none⟩ = some (.int .i64 L) ∧ w.cell? ⟨bL, 1, none⟩ = some (.int .i64 S) ∧ w.cell? ⟨bL, 2, none⟩ = some (.slice a n c) := ⟨hc0, hc1, hc2⟩
  have hSd : w.drew.cell? ⟨bL, 0, none⟩ = some (.int .i64 L) ∧ w.drew.cell? ⟨bL, 1, none⟩ = some (.int .i64 S) ∧ w.drew.cell? ⟨bL, 2, none⟩ = some (.slice a n c) := hS0
  have HSS := Lib.hid (fun (w' : World) (hb3 : Below w.heap.size w w') => (show w'.cell? ⟨bL, 0, none⟩ = some (.int .i64 L) ∧ w'.cell? ⟨bL, 1, none⟩ = some (.int .i64 S) ∧ w'.cell? ⟨bL, 2, none⟩ = some (.slice a n c) from ⟨(hb3.cell (p := ⟨bL, 0, none⟩) m1).trans hS0.1, (hb3.cell (p := ⟨bL, 1, none⟩) m1).trans hS0.2.1, (hb3.cell (p := ⟨bL, 2, none⟩) m1).trans hS0.2.2⟩))
  have B1 := (Below.refl w.heap.size w).drew
  have HyT := Lib.hid (show ∀ b : Bool, b = decide (0 < r) → b = T from fun b h => by rw [h, HF.out])
  clear hfr ho hS2 hw hl HF hc0 hc1 hc2
  go_enter Try.func80, Try.ntmps80
  go_wp2
  go_region_held3 (fun w' => w'.cell? ⟨bL, 0, none⟩ = some (.int .i64 L) ∧ w'.cell? ⟨bL, 1, none⟩ = some (.int .i64 S) ∧ w'.cell? ⟨bL, 2, none⟩ = some (.slice a n c))
    (first | with_reducible exact hS4 | with_reducible exact hS3 | with_reducible exact hSd | with_reducible exact hS0 | go_keep)
    ((first
      | (go_at_call 81; (with_reducible refine (C2.out _ B2).mono ?_); rintro e w_3 ⟨rfl, hb⟩; have B3 := B2.trans (hb.mono B2.size); have hS4 := HSS.out _ B3; clear hb)
      | (go_at_call 82; (with_reducible refine (C1.out _ B1).mono ?_); rintro e w_2 ⟨rfl, hb⟩; have B2 := B1.trans (hb.mono B1.size); have hS3 := HSS.out _ B2; clear hb)
      | fail))
  go_wp2
  go_ret
  exact ⟨by rw [← HyT.out _ rfl]; simp, B3⟩
set_option maxHeartbeats 4000000 in
set_option maxRecDepth 100000 in
theorem impl_ReadWords_c {w : World} {v : Value} {l : Lb} (h : LabR w v l) {nn : Int} (hI2 : I64 nn) :
    Calls Try.prog 23 #[v, .int .i64 nn] w (Makes OStrs w (rdwM l nn)) := by
  have H1 := Lib.hid (fun w1 (hb : Below w.heap.size w w1) => impl_IsLabels_c (LabR.frame _ _ _ _ h hb))
  have Hfr := Lib.hid (fun w1 (hb : Below w.heap.size w w1) => LabR.frame _ _ _ _ h hb)
  obtain ⟨T, hT⟩ : ∃ T, T = rdwM l nn := ⟨_, rfl⟩
  rw [← hT]
  have HT := Lib.hid hT
  clear hT hI2
  have Hok := Lib.hid (fun h => isLab_ok (l := l) h)
  have HF0 := Lib.hid (fun (h : isLab l = false) => (show rdwM l nn = [] from by unfold rdwM; rw [h]; rfl))
  generalize hil : isLab l = il at H1
  have Hil := Lib.hid hil
  clear hil
  obtain ⟨L, S, xs⟩ := l
  obtain ⟨_, rfl, -, a, c, rfl, -, -, -, -⟩ := h
  simp only at *
  generalize hn : xs.length = n at *
  clear hn
  obtain ⟨w1, e1⟩ : ∃ x, x = w.alloc (.cells #[.int .i64 L, .int .i64 S, .slice a n c] 28) := ⟨_, rfl⟩
  have A1 := Lib.hid (show Below w.heap.size w w1 from by rw [e1]; exact (Below.refl _ _).alloc (Nat.le_refl _) _)
  have c0 : w1.cell? ⟨w.heap.size, 0, none⟩ = some (.int .i64 L) := by rw [e1]; simp [go_sem]
  have c1 : w1.cell? ⟨w.heap.size, 1, none⟩ = some (.int .i64 S) := by rw [e1]; simp [go_sem]
  have c2 : w1.cell? ⟨w.heap.size, 2, none⟩ = some (.slice a n c) := by rw [e1]; simp [go_sem]
  have m1 : w.heap.size < w1.heap.size := by rw [e1]; simp
  have es := e1.symm
  clear e1
  go_enter Try.func23, Try.ntmps23
  go_wp2_with fail
  refine (H1.out _ A1.out).mono ?_
  rintro e w2 ⟨rfl, hb1⟩
  replace c0 := (hb1.cell (p := ⟨w.heap.size, 0, none⟩) m1).trans c0
  replace c1 := (hb1.cell (p := ⟨w.heap.size, 1, none⟩) m1).trans c1
  replace c2 := (hb1.cell (p := ⟨w.heap.size, 2, none⟩) m1).trans c2
  replace m1 : w.heap.size < w2.heap.size := Nat.lt_of_lt_of_le m1 hb1.size
  replace A1 := Lib.hid (A1.out.trans (hb1.mono A1.out.size))
  clear hb1 es H1
  cases il with
  | false =>
    have HF := Lib.hid (show T = [] from by rw [HT.out]; exact HF0.out Hil.out)
    clear HT HF0 Hil Hok Hfr
    go_wp2
    go_ret
    exact ⟨_, rfl, by rw [HF.out]; exact New.nil _ _, A1.out⟩
  | true =>
  have Hil2 := Lib.hid (Hok.out Hil.out)
  clear Hok HF0
  by_cases hc' : nn < 0
  · have HF := Lib.hid (show T = [] from by rw [HT.out]; unfold rdwM; rw [decide_eq_false (by omega)]; simp)
    clear HT Hil Hfr Hil2
    go_wp2
    go_ret
    exact ⟨_, rfl, by rw [HF.out]; exact New.nil _ _, A1.out⟩
  by_cases hd : 6 < nn
  · have HF := Lib.hid (show T = [] from by rw [HT.out]; unfold rdwM; rw [decide_eq_false (by omega)]; simp)
    clear HT Hil Hfr Hil2
    go_wp2
    go_ret
    exact ⟨_, rfl, by rw [HF.out]; exact New.nil _ _, A1.out⟩
  obtain ⟨ho, hS1, hS2, hL1, hL2⟩ := Hil2.out
  obtain ⟨N, rfl⟩ := Int.eq_ofNat_of_zero_le (show 0 ≤ L by omega)
  obtain ⟨k, rfl⟩ := Int.eq_ofNat_of_zero_le (show 0 ≤ nn by omega)
  have HT2 := Lib.hid (show T = ((allW N k).filter (rdwF xs S)).map wordT from by rw [HT.out]; unfold rdwM; rw [Hil.out, decide_eq_true (by omega)]; rfl)
  have hbx : Box3 w2 w.heap.size (.int .i64 (N : Int)) (.int .i64 S) (.slice a n c) := ⟨by omega, c0, c1, c2⟩
  have HR := Lib.hid (filtered_c (w := w2) (L := N) (n := k) (by omega) (by omega) (by omega) (F := 80) (caps := #[.pointer (some ⟨w.heap.size, 0, none⟩)]) (f := rdwF xs S) (fun _ _ => rfl) (fun w1 wd hb hl hx => rdwclo_c (hbx.below hb (by omega)) (fun w3 hb3 => Hfr.out w3 (A1.out.trans ((hb.trans (hb3.mono hb.size)).mono (by omega)))) ho hS1 hS2 (fun x h => by have := hx x h; omega) (by omega)))
  have hmf : ∀ (fn : Fn) (first cap : Array Value) (w : World), (Instr.makeFunc fn first cap).run Try.prog w = .ok (.func fn first cap) w := fun _ _ _ _ => rfl
  clear HT Hil Hil2 ho Hfr hbx hS1 hS2 hL1 hL2
  go_wp2_with fail
  refine HR.out.mono ?_
  rintro e w3 ⟨r, rfl, hn, hb⟩
  obtain ⟨ra, rn, rc, rfl⟩ := hn.slice
  have HN := Lib.hid (hn.mono (show w.heap.size ≤ w2.heap.size by omega))
  have A3 := Lib.hid (A1.out.trans (hb.mono (show w.heap.size ≤ w2.heap.size by omega)))
  clear hn hb HR c0 c1 c2 hmf
  go_wp2
  go_ret
  exact ⟨_, rfl, by rw [HT2.out]; exact HN.out, A3.out⟩
end Go.Proofs.Ytdohepngandajaa
