/-
  FollowWords, the program's.
-/
import Derived.Test.YtjgiobapdkdhpaaRows
import Derived.Test.YtjgiobapdkdhpaaBase
import Derived.Test.YtjgiobapdkdhpaaHarn
import Derived.Test.YtjgiobapdkdhpaaLab
import Derived.Test.YtjgiobapdkdhpaaLabC
import Derived.Test.YtjgiobapdkdhpaaLabM
import Derived.Test.YtjgiobapdkdhpaaLabV
import Derived.Test.YtjgiobapdkdhpaaLabVS
import Derived.Test.YtjgiobapdkdhpaaMoeb
import Derived.Test.YtjgiobapdkdhpaaRead
import Derived.Test.YtjgiobapdkdhpaaReadFrom
import Derived.Test.YtjgiobapdkdhpaaWordM
import Derived.Test.YtjgiobapdkdhpaaWordI
import Derived.Test.YtjgiobapdkdhpaaL2All
import Derived.Test.YtjgiobapdkdhpaaStrs
import Derived.Test.YtjgiobapdkdhpaaWalkH
import Derived.Test.YtjgiobapdkdhpaaCountSI
import Derived.IntWalk
import Derived.Deep.RegionHeld3
import Derived.Deep.DeepCutAuto
namespace Go.Proofs.Ytjgiobapdkdhpaa
open Go.RowKit Go.Deep Go.Sd
set_option linter.unusedSimpArgs false
def folF (xs : List Arc3) (p : Nat) (wd : List Nat) : Bool := decide (0 < readB xs (wordT wd).data.toList (2 ^ p))
def followM (l : Lb) (p n : Int) : List ByteArray := if (isLab l && decide (0 ≤ p ∧ p < l.2.1 ∧ 0 ≤ n ∧ n ≤ 6)) = true then ((allW l.1.toNat n.toNat).filter (folF l.2.2 p.toNat)).map wordT else []
theorem pow_lt12 {p : Nat} (h : p < 12) : 2 ^ p < 4096 := by
  have h1 : 2 ^ p < 2 ^ 12 := Nat.pow_lt_pow_right (by decide) h
  omega
theorem shl_p (p : Nat) (h : p < 12) : wrap64 ((2 : Int) ^ p) = ((2 ^ p : Nat) : Int) := by
  obtain ⟨P, hP, _, _, hw⟩ := shl_one p (by omega)
  rw [hw, hP]
set_option maxHeartbeats 2000000 in
set_option maxRecDepth 100000 in
theorem folclo_c {w : World} {bL bP : Nat} {L S : Int} {p : Nat} {a : Option Addr} {n c : Nat} {xs : List Arc3} (hb : Box3 w bL (.int .i64 L) (.int .i64 S) (.slice a n c)) (hbp : bP < w.heap.size ∧ w.cell? ⟨bP, 0, none⟩ = some (.int .i64 p)) (hfr : ∀ w1, Below w.heap.size w w1 → LabR w1 (.agg #[.int .i64 L, .int .i64 S, .slice a n c]) (L, S, xs)) (ho : okArcs S xs) (hS2 : S ≤ 12) (hp : p < 12) {wd : List Nat} (hw : ∀ x, x ∈ wd → x < 3) (hl : wd.length ≤ 16) :
    Calls Try.prog 130 #[.string (wordT wd), .pointer (some ⟨bL, 0, none⟩), .pointer (some ⟨bP, 0, none⟩)] w fun e w' => e = .returned (.bool (folF xs p wd)) ∧ Below w.heap.size w w' := by
  have C2 := Lib.hid (fun w1 (h : Below w.heap.size w w1) => impl_read_c (hfr w1 h) ho hS2 (pow_lt12 hp) (s := wordT wd) (by rw [wordT_size]; unfold maxLen; omega) (fun c hc => (wordT_bytes hw c hc).1))
  have hwp := shl_p p hp
  simp only at C2
  have HF := Lib.hid (show folF xs p wd = decide (0 < readB xs (wordT wd).data.toList (2 ^ p)) from rfl)
  generalize readB xs (wordT wd).data.toList (2 ^ p) = r at C2 HF
  generalize folF xs p wd = T at HF ⊢
  obtain ⟨P, hP⟩ : ∃ P, P = 2 ^ p := ⟨_, rfl⟩
  rw [← hP] at C2 hwp
  have hwp2 : IntKind.i64.wrap ((2 : Int) ^ p) = (P : Int) := by rw [IntWalk.i64_left]; exact hwp
  clear hP
  obtain ⟨m1, hc0, hc1, hc2⟩ := hb
  obtain ⟨m2, hc3⟩ := hbp
  have hS0 : w.cell? ⟨bL, 0, none⟩ = some (.int .i64 L) ∧ w.cell? ⟨bL, 1, none⟩ = some (.int .i64 S) ∧ w.cell? ⟨bL, 2, none⟩ = some (.slice a n c) ∧ w.cell? ⟨bP, 0, none⟩ = some (.int .i64 p) := ⟨hc0, hc1, hc2, hc3⟩
  have hSd : w.drew.cell? ⟨bL, 0, none⟩ = some (.int .i64 L) ∧ w.drew.cell? ⟨bL, 1, none⟩ = some (.int .i64 S) ∧ w.drew.cell? ⟨bL, 2, none⟩ = some (.slice a n c) ∧ w.drew.cell? ⟨bP, 0, none⟩ = some (.int .i64 p) := hS0
  have HSS := Lib.hid (fun (w' : World) (hb3 : Below w.heap.size w w') => (show w'.cell? ⟨bL, 0, none⟩ = some (.int .i64 L) ∧ w'.cell? ⟨bL, 1, none⟩ = some (.int .i64 S) ∧ w'.cell? ⟨bL, 2, none⟩ = some (.slice a n c) ∧ w'.cell? ⟨bP, 0, none⟩ = some (.int .i64 p) from ⟨(hb3.cell (p := ⟨bL, 0, none⟩) m1).trans hS0.1, (hb3.cell (p := ⟨bL, 1, none⟩) m1).trans hS0.2.1, (hb3.cell (p := ⟨bL, 2, none⟩) m1).trans hS0.2.2.1, (hb3.cell (p := ⟨bP, 0, none⟩) m2).trans hS0.2.2.2⟩))
  have B1 := (Below.refl w.heap.size w).drew
  have HyT := Lib.hid (show ∀ b : Bool, b = decide (0 < r) → b = T from fun b h => by rw [h, HF.out])
  have hp64 : p < 64 := by omega
  clear hfr ho hS2 hw hl HF hc0 hc1 hc2 hc3
  go_enter Try.func130, Try.ntmps130
  go_wp2
  go_region_held3 (fun w' => w'.cell? ⟨bL, 0, none⟩ = some (.int .i64 L) ∧ w'.cell? ⟨bL, 1, none⟩ = some (.int .i64 S) ∧ w'.cell? ⟨bL, 2, none⟩ = some (.slice a n c) ∧ w'.cell? ⟨bP, 0, none⟩ = some (.int .i64 p))
    (first | with_reducible exact hS2 | with_reducible exact hSd | with_reducible exact hS0 | go_keep)
    ((first
      | (go_at_call 126; (with_reducible refine (C2.out _ B1).mono ?_); rintro e w_3 ⟨rfl, hb⟩; have B3 := B1.trans (hb.mono B1.size); have hS2 := HSS.out _ B3; clear hb)
      | fail))
  go_wp2
  go_ret
  exact ⟨by rw [← HyT.out _ rfl]; simp, B3⟩
set_option maxHeartbeats 4000000 in
set_option maxRecDepth 100000 in
theorem impl_FollowWords_c {w : World} {v : Value} {l : Lb} (h : LabR w v l) {pp nn : Int} (hI1 : I64 pp) (hI2 : I64 nn) :
    Calls Try.prog 59 #[v, .int .i64 pp, .int .i64 nn] w (Makes OStrs w (followM l pp nn)) := by
  have H1 := Lib.hid (fun w1 (hb : Below w.heap.size w w1) => impl_IsLabels_c (LabR.frame _ _ _ _ h hb))
  have Hfr := Lib.hid (fun w1 (hb : Below w.heap.size w w1) => LabR.frame _ _ _ _ h hb)
  obtain ⟨T, hT⟩ : ∃ T, T = followM l pp nn := ⟨_, rfl⟩
  rw [← hT]
  have HT := Lib.hid hT
  clear hT hI1 hI2
  have Hok := Lib.hid (fun h => isLab_ok (l := l) h)
  have HF0 := Lib.hid (fun (h : isLab l = false) => (show followM l pp nn = [] from by unfold followM; rw [h]; rfl))
  generalize hil : isLab l = il at H1
  have Hil := Lib.hid hil
  clear hil
  obtain ⟨L, S, xs⟩ := l
  obtain ⟨_, rfl, -, a, c, rfl, -, -, -, -⟩ := h
  simp only at *
  generalize hn : xs.length = n at *
  clear hn
  obtain ⟨w1, e1⟩ : ∃ x, x = (w.alloc (.cells #[.int .i64 L, .int .i64 S, .slice a n c] 28)).alloc (.cells #[.int .i64 pp] 3) := ⟨_, rfl⟩
  have A1 := Lib.hid (show Below w.heap.size w w1 from by rw [e1]; exact ((Below.refl _ _).alloc (Nat.le_refl _) _).alloc (by simp) _)
  have c0 : w1.cell? ⟨w.heap.size, 0, none⟩ = some (.int .i64 L) := by rw [e1]; simp [go_sem]
  have c1 : w1.cell? ⟨w.heap.size, 1, none⟩ = some (.int .i64 S) := by rw [e1]; simp [go_sem]
  have c2 : w1.cell? ⟨w.heap.size, 2, none⟩ = some (.slice a n c) := by rw [e1]; simp [go_sem]
  have c3 : w1.cell? ⟨w.heap.size + 1, 0, none⟩ = some (.int .i64 pp) := by rw [e1]; simp [go_sem]
  have m1 : w.heap.size + 1 < w1.heap.size := by rw [e1]; simp <;> omega
  have es := e1.symm
  clear e1
  go_enter Try.func59, Try.ntmps59
  go_wp2_with fail
  refine (H1.out _ A1.out).mono ?_
  rintro e w2 ⟨rfl, hb1⟩
  replace c0 := (hb1.cell (p := ⟨w.heap.size, 0, none⟩) (by simp; omega)).trans c0
  replace c1 := (hb1.cell (p := ⟨w.heap.size, 1, none⟩) (by simp; omega)).trans c1
  replace c2 := (hb1.cell (p := ⟨w.heap.size, 2, none⟩) (by simp; omega)).trans c2
  replace c3 := (hb1.cell (p := ⟨w.heap.size + 1, 0, none⟩) m1).trans c3
  replace m1 : w.heap.size + 1 < w2.heap.size := Nat.lt_of_lt_of_le m1 hb1.size
  replace A1 := Lib.hid (A1.out.trans (hb1.mono A1.out.size))
  clear hb1 es H1
  cases il with
  | false =>
    have HF := Lib.hid (show T = [] from by rw [HT.out]; exact HF0.out Hil.out)
    clear HT HF0 Hil Hok Hfr
    go_wp2
    go_ret
    exact ⟨_, rfl, by rw [HF.out]; exact New.nil _ _, A1.out⟩
  | true =>
  have Hil2 := Lib.hid (Hok.out Hil.out)
  clear Hok HF0
  by_cases ha : pp < 0
  · have HF := Lib.hid (show T = [] from by rw [HT.out]; unfold followM; rw [decide_eq_false (by simp only; omega)]; simp)
    clear HT Hil Hfr Hil2
    go_wp2
    go_ret
    exact ⟨_, rfl, by rw [HF.out]; exact New.nil _ _, A1.out⟩
  by_cases hb : S ≤ pp
  · have HF := Lib.hid (show T = [] from by rw [HT.out]; unfold followM; rw [decide_eq_false (by simp only; omega)]; simp)
    clear HT Hil Hfr Hil2
    go_wp2
    go_ret
    exact ⟨_, rfl, by rw [HF.out]; exact New.nil _ _, A1.out⟩
  by_cases hc' : nn < 0
  · have HF := Lib.hid (show T = [] from by rw [HT.out]; unfold followM; rw [decide_eq_false (by simp only; omega)]; simp)
    clear HT Hil Hfr Hil2
    go_wp2
    go_ret
    exact ⟨_, rfl, by rw [HF.out]; exact New.nil _ _, A1.out⟩
  by_cases hd : 6 < nn
  · have HF := Lib.hid (show T = [] from by rw [HT.out]; unfold followM; rw [decide_eq_false (by simp only; omega)]; simp)
    clear HT Hil Hfr Hil2
    go_wp2
    go_ret
    exact ⟨_, rfl, by rw [HF.out]; exact New.nil _ _, A1.out⟩
  obtain ⟨ho, hS1, hS2, hL1, hL2⟩ := Hil2.out
  obtain ⟨N, rfl⟩ := Int.eq_ofNat_of_zero_le (show 0 ≤ L by omega)
  obtain ⟨k, rfl⟩ := Int.eq_ofNat_of_zero_le (show 0 ≤ nn by omega)
  obtain ⟨q, rfl⟩ := Int.eq_ofNat_of_zero_le (show 0 ≤ pp by omega)
  have HT2 := Lib.hid (show T = ((allW N k).filter (folF xs q)).map wordT from by rw [HT.out]; unfold followM; rw [Hil.out, decide_eq_true (by simp only; omega)]; rfl)
  have hbx : Box3 w2 w.heap.size (.int .i64 (N : Int)) (.int .i64 S) (.slice a n c) := ⟨by omega, c0, c1, c2⟩
  have HR := Lib.hid (filtered_c (w := w2) (L := N) (n := k) (by omega) (by omega) (by omega) (F := 130) (caps := #[.pointer (some ⟨w.heap.size, 0, none⟩), .pointer (some ⟨w.heap.size + 1, 0, none⟩)]) (f := folF xs q) (fun _ _ => rfl) (fun w1 wd hb hl hx => folclo_c (hbx.below hb (by omega)) ⟨Nat.lt_of_lt_of_le m1 hb.size, (hb.cell (p := ⟨w.heap.size + 1, 0, none⟩) m1).trans c3⟩ (fun w3 hb3 => Hfr.out w3 (A1.out.trans ((hb.trans (hb3.mono hb.size)).mono (by omega)))) ho hS2 (by omega) (fun x h => by have := hx x h; omega) (by omega)))
  have hmf : ∀ (fn : Fn) (first cap : Array Value) (w : World), (Instr.makeFunc fn first cap).run Try.prog w = .ok (.func fn first cap) w := fun _ _ _ _ => rfl
  clear HT Hil Hil2 ho Hfr hbx hS1 hS2 hL1 hL2
  go_wp2_with fail
  refine HR.out.mono ?_
  rintro e w3 ⟨r, rfl, hn, hb⟩
  obtain ⟨ra, rn, rc, rfl⟩ := hn.slice
  have HN := Lib.hid (hn.mono (show w.heap.size ≤ w2.heap.size by omega))
  have A3 := Lib.hid (A1.out.trans (hb.mono (show w.heap.size ≤ w2.heap.size by omega)))
  clear hn hb HR c0 c1 c2 c3 hmf
  go_wp2
  go_ret
  exact ⟨_, rfl, by rw [HT2.out]; exact HN.out, A3.out⟩
end Go.Proofs.Ytjgiobapdkdhpaa
