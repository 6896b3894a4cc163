/-
  CountSync, the program's.
-/
import Derived.Test.YtjgiobapdkdhpaaRows
import Derived.Test.YtjgiobapdkdhpaaBase
import Derived.Test.YtjgiobapdkdhpaaHarn
import Derived.Test.YtjgiobapdkdhpaaLab
import Derived.Test.YtjgiobapdkdhpaaLabC
import Derived.Test.YtjgiobapdkdhpaaLabM
import Derived.Test.YtjgiobapdkdhpaaResolv
import Derived.Test.YtjgiobapdkdhpaaRead
import Derived.Test.YtjgiobapdkdhpaaReadFrom
import Derived.Test.YtjgiobapdkdhpaaRank
import Derived.Test.YtjgiobapdkdhpaaWordRank
import Derived.Test.YtjgiobapdkdhpaaLeastRS
import Derived.Test.YtjgiobapdkdhpaaWordM
import Derived.Test.YtjgiobapdkdhpaaWordI
import Derived.Test.YtjgiobapdkdhpaaL2All
import Derived.Test.YtjgiobapdkdhpaaWalkH
import Derived.IntWalk
import Derived.Deep.RegionHeld3
import Derived.Deep.DeepCutAuto
namespace Go.Proofs.Ytjgiobapdkdhpaa
open Go.RowKit Go.Deep Go.Sd
set_option linter.unusedSimpArgs false
/-- Where a word leads from all states. -/
def endN (l : Lb) (wd : List Nat) : Nat := readB l.2.2 (wordT wd).data.toList (allN l.2.1)
def cntF (l : Lb) (wd : List Nat) : Bool := decide (popN (endN l wd) = 1)
def countM (l : Lb) (n : Int) : Int := if (resolvM l && decide (0 ≤ n ∧ n ≤ 6)) = true then (((allW l.1.toNat n.toNat).filter (cntF l)).length : Int) else -1
theorem wordT_bytes {wd : List Nat} (hw : ∀ x, x ∈ wd → x < 3) : ∀ c, c ∈ (wordT wd).data.toList → 97 ≤ c.toNat ∧ c.toNat < 100 := by
  intro c hc
  have h1 : (wordT wd).data.toList = wd.map fun x => UInt8.ofNat (97 + x) := rfl
  rw [h1] at hc
  obtain ⟨x, hx, rfl⟩ := List.mem_map.1 hc
  have := hw x hx
  have e4 : (UInt8.ofNat (97 + x)).toNat = 97 + x := by simp; omega
  omega
set_option maxHeartbeats 2000000 in
set_option maxRecDepth 100000 in
theorem countclo_c {w : World} {bL : Nat} {L S : Int} {a : Option Addr} {n c : Nat} {xs : List Arc3} (hb : Box3 w bL (.int .i64 L) (.int .i64 S) (.slice a n c)) (hfr : ∀ w1, Below w.heap.size w w1 → LabR w1 (.agg #[.int .i64 L, .int .i64 S, .slice a n c]) (L, S, xs)) (ho : okArcs S xs) (hS1 : 1 ≤ S) (hS2 : S ≤ 12) {wd : List Nat} (hw : ∀ x, x ∈ wd → x < 3) (hl : wd.length ≤ 16) :
    Calls Try.prog 125 #[.string (wordT wd), .pointer (some ⟨bL, 0, none⟩)] w fun e w' => e = .returned (.bool (cntF (L, S, xs) wd)) ∧ Below w.heap.size w w' := by
  have C1 := Lib.hid (fun w1 (h : Below w.heap.size w w1) => impl_all_c (hfr w1 h) hS1 hS2)
  have C2 := Lib.hid (fun w1 (h : Below w.heap.size w w1) => impl_read_c (hfr w1 h) ho hS2 (allN_lt hS2) (s := wordT wd) (by rw [wordT_size]; unfold maxLen; omega) (fun c hc => (wordT_bytes hw c hc).1))
  have hlt := readB_lt ho hS2 (wordT wd).data.toList (allN S) (allN_lt hS2)
  simp only at C1 C2
  have HF := Lib.hid (show cntF (L, S, xs) wd = decide (popN (readB xs (wordT wd).data.toList (allN S)) = 1) from rfl)
  generalize readB xs (wordT wd).data.toList (allN S) = r at C2 hlt HF
  generalize allN S = A at C1 C2
  have C3 := Lib.hid (fun w => OnesCount_c r hlt w)
  generalize cntF (L, S, xs) wd = T at HF ⊢
  have hur : IntKind.u64.wrap (r : Int) = (r : Int) := IntWalk.u64_in _ (by omega)
  generalize popN r = y at C3 HF
  obtain ⟨m1, hS0⟩ := hb
  have hSd : w.drew.cell? ⟨bL, 0, none⟩ = some (.int .i64 L) ∧ w.drew.cell? ⟨bL, 1, none⟩ = some (.int .i64 S) ∧ w.drew.cell? ⟨bL, 2, none⟩ = some (.slice a n c) := hS0
  have HSS := Lib.hid (fun (w' : World) (hb3 : Below w.heap.size w w') => (show w'.cell? ⟨bL, 0, none⟩ = some (.int .i64 L) ∧ w'.cell? ⟨bL, 1, none⟩ = some (.int .i64 S) ∧ w'.cell? ⟨bL, 2, none⟩ = some (.slice a n c) from ⟨(hb3.cell (p := ⟨bL, 0, none⟩) m1).trans hS0.1, (hb3.cell (p := ⟨bL, 1, none⟩) m1).trans hS0.2.1, (hb3.cell (p := ⟨bL, 2, none⟩) m1).trans hS0.2.2⟩))
  have B1 := (Below.refl w.heap.size w).drew
  have hyT : ∀ b : Bool, b = decide (y = 1) → b = T := fun b h => by rw [h, HF.out]
  have HyT := Lib.hid hyT
  clear hfr ho hS1 hS2 hw hl hlt hyT HF
  go_enter Try.func125, Try.ntmps125
  go_wp2
  go_region_held3 (fun w' => w'.cell? ⟨bL, 0, none⟩ = some (.int .i64 L) ∧ w'.cell? ⟨bL, 1, none⟩ = some (.int .i64 S) ∧ w'.cell? ⟨bL, 2, none⟩ = some (.slice a n c))
    (first | with_reducible exact hS2 | with_reducible exact hS1 | with_reducible exact hSd | with_reducible exact hS0 | go_keep)
    ((first
      | (go_at_call 117; (with_reducible refine (C3.out _).mono ?_); rintro e w' ⟨rfl, rfl⟩)
      | (go_at_call 126; (with_reducible refine (C2.out _ B2).mono ?_); rintro e w_3 ⟨rfl, hb⟩; have B3 := B2.trans (hb.mono B2.size); have hS2 := HSS.out _ B3; clear hb)
      | (go_at_call 108; (with_reducible refine (C1.out _ B1).mono ?_); rintro e w_2 ⟨rfl, hb⟩; have B2 := B1.trans (hb.mono B1.size); have hS1 := HSS.out _ B2; clear hb)
      | fail))
  go_wp2
  go_ret
  exact ⟨by show Ending.returned (Value.bool ((y : Int) == 1)) = _; rw [HyT.out ((y : Int) == 1) (by rw [Bool.eq_iff_iff]; simp; omega)], B3⟩
set_option maxHeartbeats 4000000 in
set_option maxRecDepth 100000 in
theorem impl_CountSync_c {w : World} {v : Value} {l : Lb} (h : LabR w v l) {m : Int} (hI : I64 m) :
    Calls Try.prog 55 #[v, .int .i64 m] w fun e w' => e = .returned (.int .i64 (countM l m)) ∧ Below w.heap.size w w' := by
  have H1 := Lib.hid (fun w1 (hb : Below w.heap.size w w1) => impl_IsResolving_c (LabR.frame _ _ _ _ h hb))
  have Hfr := Lib.hid (fun w1 (hb : Below w.heap.size w w1) => LabR.frame _ _ _ _ h hb)
  obtain ⟨T, hT⟩ : ∃ T, T = countM l m := ⟨_, rfl⟩
  rw [← hT]
  have HT := Lib.hid hT
  clear hT
  have Hok := Lib.hid (fun h => resolv_facts (l := l) h)
  have HF0 := Lib.hid (fun (h : resolvM l = false) => (show countM l m = -1 from by unfold countM; rw [h]; rfl))
  generalize hil : resolvM l = il at H1
  have Hil := Lib.hid hil
  clear hil
  obtain ⟨L, S, xs⟩ := l
  obtain ⟨_, rfl, -, a, c, rfl, -, -, -, -⟩ := h
  simp only at *
  generalize hn : xs.length = n at *
  clear hn
  obtain ⟨w1, ex, hb1, c0, c1, c2, m1⟩ := boxA3_ex w 28 (.int .i64 L) (.int .i64 S) (.slice a n c)
  have A1 := Lib.hid hb1
  clear hb1
  go_enter Try.func55, Try.ntmps55
  go_wp2_with fail
  refine (H1.out _ A1.out).mono ?_
  rintro e w2 ⟨rfl, hb1⟩
  replace c0 := (hb1.cell (p := ⟨w.heap.size, 0, none⟩) m1).trans c0
  replace c1 := (hb1.cell (p := ⟨w.heap.size, 1, none⟩) m1).trans c1
  replace c2 := (hb1.cell (p := ⟨w.heap.size, 2, none⟩) m1).trans c2
  have m2 : w.heap.size < w2.heap.size := Nat.lt_of_lt_of_le m1 hb1.size
  replace A1 := Lib.hid (A1.out.trans (hb1.mono A1.out.size))
  clear hb1 ex H1 m1
  cases il with
  | false =>
    have HF := Lib.hid (show T = -1 from by rw [HT.out]; exact HF0.out Hil.out)
    clear HT HF0 Hil Hok Hfr
    go_wp2
    go_ret
    exact ⟨by rw [HF.out]; rfl, A1.out⟩
  | true =>
  have Hil2 := Lib.hid (Hok.out Hil.out)
  clear Hok HF0
  obtain ⟨ho, hS1, hS2, hL1, hL2⟩ := Hil2.out
  by_cases h0 : m < 0
  · have HF := Lib.hid (show T = -1 from by rw [HT.out]; unfold countM; rw [decide_eq_false (by omega)]; simp)
    clear HT Hil Hil2 ho Hfr
    go_wp2
    go_ret
    exact ⟨by rw [HF.out]; rfl, A1.out⟩
  by_cases h6 : 6 < m
  · have HF := Lib.hid (show T = -1 from by rw [HT.out]; unfold countM; rw [decide_eq_false (by omega)]; simp)
    clear HT Hil Hil2 ho Hfr
    go_wp2
    go_ret
    exact ⟨by rw [HF.out]; rfl, A1.out⟩
  obtain ⟨N, rfl⟩ := Int.eq_ofNat_of_zero_le (show 0 ≤ L by omega)
  obtain ⟨k, rfl⟩ := Int.eq_ofNat_of_zero_le (show 0 ≤ m by omega)
  have HT2 := Lib.hid (show T = (((allW N k).filter (cntF ((N : Int), S, xs))).length : Int) from by rw [HT.out]; unfold countM; rw [Hil.out, decide_eq_true (by omega)]; rfl)
  have hbx : Box3 w2 w.heap.size (.int .i64 (N : Int)) (.int .i64 S) (.slice a n c) := ⟨m2, c0, c1, c2⟩
  have HR := Lib.hid (filtered_c (w := w2) (L := N) (n := k) (by omega) (by omega) (by omega) (F := 125) (caps := #[.pointer (some ⟨w.heap.size, 0, none⟩)]) (f := cntF ((N : Int), S, xs)) (fun _ _ => rfl) (fun w1 wd hb hl hx => countclo_c (hbx.below hb m2) (fun w3 hb3 => Hfr.out w3 (A1.out.trans ((hb.trans (hb3.mono hb.size)).mono (by omega)))) ho hS1 hS2 (fun x h => by have := hx x h; omega) (by omega)))
  have hmf : ∀ (fn : Fn) (first cap : Array Value) (w : World), (Instr.makeFunc fn first cap).run Try.prog w = .ok (.func fn first cap) w := fun _ _ _ _ => rfl
  clear HT Hil Hil2 ho Hfr hbx hS1 hS2 hL1 hL2
  go_wp2_with fail
  refine HR.out.mono ?_
  rintro e w3 ⟨r, rfl, hn, hb⟩
  have hn2 : SlOf (ValR Value.string) w3 r (((allW N k).filter (cntF ((N : Int), S, xs))).map wordT) := by obtain ⟨F, hF, _⟩ := hn; exact OwnOf.reads (fun _ _ _ _ h => h.1) hF
  obtain ⟨ra, rc, rfl, _⟩ := hn2.shape
  have A3 := Lib.hid (A1.out.trans (hb.mono A1.out.size))
  rw [List.length_map]
  generalize ((allW N k).filter (cntF ((N : Int), S, xs))).length = q at HT2 ⊢
  clear hn hn2 hb HR c0 c1 c2 hmf
  go_wp2
  go_ret
  exact ⟨by rw [HT2.out]; rfl, A3.out⟩
end Go.Proofs.Ytjgiobapdkdhpaa
