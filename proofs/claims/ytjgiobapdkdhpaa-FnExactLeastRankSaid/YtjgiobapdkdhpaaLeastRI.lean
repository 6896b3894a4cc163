/-
  LeastRank, the program's.
-/
import Derived.Test.YtjgiobapdkdhpaaRows
import Derived.Test.YtjgiobapdkdhpaaBase
import Derived.Test.YtjgiobapdkdhpaaHarn
import Derived.Test.YtjgiobapdkdhpaaLab
import Derived.Test.YtjgiobapdkdhpaaLabC
import Derived.Test.YtjgiobapdkdhpaaLabM
import Derived.Test.YtjgiobapdkdhpaaResolv
import Derived.Test.YtjgiobapdkdhpaaBfsM
import Derived.Test.YtjgiobapdkdhpaaLeastRS
import Derived.Test.YtjgiobapdkdhpaaReachL
import Derived.IntWalk
namespace Go.Proofs.Ytjgiobapdkdhpaa
open Go.RowKit Go.Deep Go.Sd
set_option linter.unusedSimpArgs false
set_option maxHeartbeats 4000000 in
set_option maxRecDepth 100000 in
theorem impl_LeastRank_c {w : World} {v : Value} {l : Lb} (h : LabR w v l) :
    Calls Try.prog 51 #[v] w fun e w' => e = .returned (.int .i64 (leastRM l)) ∧ Below w.heap.size w w' := by
  have H1 := Lib.hid (fun w1 (hb : Below w.heap.size w w1) => impl_IsResolving_c (LabR.frame _ _ _ _ h hb))
  have Hfr := Lib.hid (fun w1 (hb : Below w.heap.size w w1) => LabR.frame _ _ _ _ h hb)
  obtain ⟨T, hT⟩ : ∃ T, T = leastRM l := ⟨_, rfl⟩
  rw [← hT]
  have HT := Lib.hid hT
  clear hT
  have Hok := Lib.hid (fun h => resolv_facts (l := l) h)
  have HF0 := Lib.hid (fun (h : resolvM l = false) => (show leastRM l = 0 from by unfold leastRM; rw [h]; rfl))
  generalize hil : resolvM l = il at H1
  have Hil := Lib.hid hil
  clear hil
  obtain ⟨L, S, xs⟩ := l
  obtain ⟨_, rfl, -, a, c, rfl, -, -, -, -⟩ := h
  simp only at *
  generalize hn : xs.length = n at *
  clear hn
  obtain ⟨w1, ex, hb1, c0, c1, c2, m1⟩ := boxA3_ex w 28 (.int .i64 L) (.int .i64 S) (.slice a n c)
  have A1 := Lib.hid hb1
  clear hb1
  go_enter Try.func51, Try.ntmps51
  go_wp2_with fail
  refine (H1.out _ A1.out).mono ?_
  rintro e w2 ⟨rfl, hb1⟩
  replace c0 := (hb1.cell (p := ⟨w.heap.size, 0, none⟩) m1).trans c0
  replace c1 := (hb1.cell (p := ⟨w.heap.size, 1, none⟩) m1).trans c1
  replace c2 := (hb1.cell (p := ⟨w.heap.size, 2, none⟩) m1).trans c2
  have m2 : w.heap.size < w2.heap.size := Nat.lt_of_lt_of_le m1 hb1.size
  replace A1 := Lib.hid (A1.out.trans (hb1.mono A1.out.size))
  clear hb1 ex H1 m1
  cases il with
  | false =>
    have HF := Lib.hid (show T = 0 from by rw [HT.out]; exact HF0.out Hil.out)
    clear HT HF0 Hil Hok Hfr
    go_wp2
    go_ret
    exact ⟨by rw [HF.out]; rfl, A1.out⟩
  | true =>
  have Hil2 := Lib.hid (Hok.out Hil.out)
  clear Hok HF0
  obtain ⟨ho, hS1, hS2, hL1, hL2⟩ := Hil2.out
  have HT2 := Lib.hid (show reachE xs L.toNat 4096 (cbMin popI) 4096 [(allN S, [])] 0 S = T from by
    rw [HT.out]
    unfold leastRM
    rw [Hil.out, if_pos rfl]
    have h := reach_min xs L.toNat popI (fun s x => stepN_lt ho hS2 s x) 4096 [(allN S, [])] 0 [] S (all_ok hS1 hS2) (fun i e hi => by cases i with | zero => (simp at hi; subst hi; simp) | succ i => (simp at hi)) (by omega)
    simpa using h)
  have hlo : w.heap.size ≤ w2.heap.size := by omega
  have hs0 := (Sep.nil w2.heap.size w2).boxNew (Nat.le_refl _) [.int .i64 S] 3
  obtain ⟨w3, e3⟩ : ∃ x, x = w2.alloc (.cells #[.int .i64 S] 3) := ⟨_, rfl⟩
  have hs3 : Sep w2.heap.size w3 [Res.box w2.heap.size [.int .i64 S]] := by rw [e3]; exact hs0
  have B3 : Below w2.heap.size w2 w3 := by rw [e3]; exact (Below.refl _ _).alloc (Nat.le_refl _) _
  have A3 := Lib.hid (A1.out.trans (B3.mono hlo))
  have hz3 := B3.size
  have HR := Lib.hid (reachLeast_c (lo := w2.heap.size) (fun w1 hb => Hfr.out w1 (A3.out.trans (hb.mono hlo))) ho hS1 hS2 hL1 hL2 hs3 hz3)
  simp only at HR
  rw [HT2.out] at HR
  replace c0 := (B3.cell (p := ⟨w.heap.size, 0, none⟩) m2).trans c0
  replace c1 := (B3.cell (p := ⟨w.heap.size, 1, none⟩) m2).trans c1
  replace c2 := (B3.cell (p := ⟨w.heap.size, 2, none⟩) m2).trans c2
  have e3s := e3.symm
  have hmf : ∀ (fn : Fn) (first cap : Array Value) (w : World), (Instr.makeFunc fn first cap).run Try.prog w = .ok (.func fn first cap) w := fun _ _ _ _ => rfl
  have y1 : w2.cell? ⟨w.heap.size, 1, none⟩ = some (.int .i64 S) := by have h := B3.cell (p := ⟨w.heap.size, 1, none⟩) m2; rw [← h]; exact c1
  clear HT Hil Hil2 ho hS1 hS2 hL1 hL2 Hfr HT2 hs0 hs3 B3 e3 A1
  go_wp2_with fail
  refine HR.out.mono ?_
  rintro e w4 ⟨rfl, hs4, hb4⟩
  have g0 := ((hs4.headBox).2.2 0 _ rfl).1
  have A4 := Lib.hid (A3.out.trans (hb4.mono hlo))
  clear hs4 hb4 HR c0 c1 c2 e3s hmf y1
  go_wp2
  go_ret
  exact ⟨rfl, A4.out⟩
end Go.Proofs.Ytjgiobapdkdhpaa
