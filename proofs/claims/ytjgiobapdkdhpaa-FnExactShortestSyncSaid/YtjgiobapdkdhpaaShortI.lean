/-
  ShortestSync, the program's.
-/
import Derived.Test.YtjgiobapdkdhpaaRows
import Derived.Test.YtjgiobapdkdhpaaBase
import Derived.Test.YtjgiobapdkdhpaaHarn
import Derived.Test.YtjgiobapdkdhpaaLab
import Derived.Test.YtjgiobapdkdhpaaLabC
import Derived.Test.YtjgiobapdkdhpaaLabM
import Derived.Test.YtjgiobapdkdhpaaResolv
import Derived.Test.YtjgiobapdkdhpaaBfsM
import Derived.Test.YtjgiobapdkdhpaaLeastRS
import Derived.Test.YtjgiobapdkdhpaaReachS
import Derived.Test.YtjgiobapdkdhpaaShortS
import Derived.IntWalk
import Derived.BigQuiet
namespace Go.Proofs.Ytjgiobapdkdhpaa
open Go.RowKit Go.Deep Go.Sd
set_option linter.unusedSimpArgs false
set_option maxHeartbeats 4000000 in
set_option maxRecDepth 100000 in
theorem impl_ShortestSync_c {w : World} {v : Value} {l : Lb} (h : LabR w v l) :
    Calls Try.prog 57 #[v] w fun e w' => e = .returned (.tuple #[.string (txt (shortM l)), .bool (shortM l).isSome]) ∧ Below w.heap.size w w' := by
  have H1 := Lib.hid (fun w1 (hb : Below w.heap.size w w1) => impl_IsResolving_c (LabR.frame _ _ _ _ h hb))
  have Hfr := Lib.hid (fun w1 (hb : Below w.heap.size w w1) => LabR.frame _ _ _ _ h hb)
  obtain ⟨T, hT⟩ : ∃ T, T = shortM l := ⟨_, rfl⟩
  rw [← hT]
  have HT := Lib.hid hT
  clear hT
  have Hok := Lib.hid (fun h => resolv_facts (l := l) h)
  have HF0 := Lib.hid (fun (h : resolvM l = false) => (show shortM l = none from by unfold shortM; rw [h]; rfl))
  generalize hil : resolvM l = il at H1
  have Hil := Lib.hid hil
  clear hil
  obtain ⟨L, S, xs⟩ := l
  obtain ⟨_, rfl, -, a, c, rfl, -, -, -, -⟩ := h
  simp only at *
  generalize hn : xs.length = n at *
  clear hn
  obtain ⟨w1, ex, hb1, c0, c1, c2, m1⟩ := boxA3_ex w 28 (.int .i64 L) (.int .i64 S) (.slice a n c)
  have A1 := Lib.hid hb1
  clear hb1
  go_enter Try.func57, Try.ntmps57
  go_wp2_with fail
  refine (H1.out _ A1.out).mono ?_
  rintro e w2 ⟨rfl, hb1⟩
  replace c0 := (hb1.cell (p := ⟨w.heap.size, 0, none⟩) m1).trans c0
  replace c1 := (hb1.cell (p := ⟨w.heap.size, 1, none⟩) m1).trans c1
  replace c2 := (hb1.cell (p := ⟨w.heap.size, 2, none⟩) m1).trans c2
  have m2 : w.heap.size < w2.heap.size := Nat.lt_of_lt_of_le m1 hb1.size
  replace A1 := Lib.hid (A1.out.trans (hb1.mono A1.out.size))
  clear hb1 ex H1 m1
  cases il with
  | false =>
    have HF := Lib.hid (show T = none from by rw [HT.out]; exact HF0.out Hil.out)
    clear HT HF0 Hil Hok Hfr
    go_wp2
    go_ret2
    exact ⟨by rw [HF.out]; rfl, A1.out⟩
  | true =>
  have Hil2 := Lib.hid (Hok.out Hil.out)
  clear Hok HF0
  obtain ⟨ho, hS1, hS2, hL1, hL2⟩ := Hil2.out
  have HT2 := Lib.hid (show reachE xs L.toNat 16 cbShort 4096 [(allN S, [])] 0 none = T from by
    rw [HT.out]
    unfold shortM
    rw [Hil.out, if_pos rfl])
  have hlo : w.heap.size ≤ w2.heap.size := by omega
  have hs0 := (Sep.nil w2.heap.size w2).boxNew (Nat.le_refl _) [.string ⟨#[]⟩] 9
  have hs1 := hs0.boxNew (by simp) [.bool false] 4
  obtain ⟨w3, e3⟩ : ∃ x, x = (w2.alloc (.cells #[.string ⟨#[]⟩] 9)).alloc (.cells #[.bool false] 4) := ⟨_, rfl⟩
  have hz : (w2.alloc (.cells [.string ⟨#[]⟩].toArray 9)).heap.size = w2.heap.size + 1 := by simp
  rw [hz] at hs1
  have hs3 : Sep w2.heap.size w3 [Res.box w2.heap.size [.string ⟨#[]⟩], Res.box (w2.heap.size + 1) [.bool false]] := by rw [e3]; exact hs1.swap
  have B3 : Below w2.heap.size w2 w3 := by rw [e3]; exact ((Below.refl _ _).alloc (Nat.le_refl _) _).alloc (by simp) _
  have A3 := Lib.hid (A1.out.trans (B3.mono hlo))
  have hz3 := B3.size
  have hs5 : Sep w2.heap.size ((w3.setCell ⟨w2.heap.size, 0, none⟩ (.string ⟨#[]⟩)).setCell ⟨w2.heap.size + 1, 0, none⟩ (.bool false)) [Res.box w2.heap.size [.string ⟨#[]⟩], Res.box (w2.heap.size + 1) [.bool false]] :=
    (((hs3.boxStore hz3 (j := 0) (u0 := .string ⟨#[]⟩) rfl (.string ⟨#[]⟩)).swap).boxStore (by simp; exact hz3) (j := 0) (u0 := .bool false) rfl (.bool false)).swap
  have A5 := Lib.hid (show Below w.heap.size w ((w3.setCell ⟨w2.heap.size, 0, none⟩ (.string ⟨#[]⟩)).setCell ⟨w2.heap.size + 1, 0, none⟩ (.bool false)) from (A3.out.setCell (p := ⟨w2.heap.size, 0, none⟩) hlo _).setCell (p := ⟨w2.heap.size + 1, 0, none⟩) (by simp; omega) _)
  have HR := Lib.hid (reachShort_c (w := ((w3.setCell ⟨w2.heap.size, 0, none⟩ (.string ⟨#[]⟩)).setCell ⟨w2.heap.size + 1, 0, none⟩ (.bool false))) (lo := w2.heap.size) (c := w2.heap.size) (fun w1 hb => Hfr.out w1 (A5.out.trans (hb.mono hlo))) ho hS1 hS2 hL1 hL2 hs5 (by simp; exact hz3))
  obtain ⟨-, hcx⟩ := hs3.headBox
  obtain ⟨x0, x0f⟩ := hcx.2 0 _ rfl
  obtain ⟨-, hcy⟩ := hs3.tail.headBox
  obtain ⟨x1, x1f⟩ := hcy.2 0 _ rfl
  have y0 := hcx.1
  have y1 := hcy.1
  simp only at HR
  rw [HT2.out] at HR
  replace c0 := (B3.cell (p := ⟨w.heap.size, 0, none⟩) m2).trans c0
  replace c1 := (B3.cell (p := ⟨w.heap.size, 1, none⟩) m2).trans c1
  replace c2 := (B3.cell (p := ⟨w.heap.size, 2, none⟩) m2).trans c2
  have e3s := e3.symm
  have hmf : ∀ (fn : Fn) (first cap : Array Value) (w : World), (Instr.makeFunc fn first cap).run Try.prog w = .ok (.func fn first cap) w := fun _ _ _ _ => rfl
  clear HT Hil Hil2 ho hS1 hS2 hL1 hL2 Hfr HT2 hs0 hs1 hs3 B3 e3 A1 hz hs5 hcx hcy
  go_wp2_with fail
  refine HR.out.mono ?_
  rintro e w4 ⟨rfl, hs4, hb4⟩
  have A4 := Lib.hid (A5.out.trans (hb4.mono hlo))
  have HG : w4.cell? ⟨w2.heap.size, 0, none⟩ = some (.string (txt T)) ∧ w4.cell? ⟨w2.heap.size + 1, 0, none⟩ = some (.bool T.isSome) := by
    cases T with
    | none => exact ⟨((hs4.headBox).2.2 0 _ rfl).1, ((hs4.tail.headBox).2.2 0 _ rfl).1⟩
    | some wd => exact ⟨((hs4.headBox).2.2 0 _ rfl).1, ((hs4.tail.headBox).2.2 0 _ rfl).1⟩
  obtain ⟨g0, g1⟩ := HG
  clear hs4 hb4 HR c0 c1 c2 e3s hmf
  generalize h1 : txt T = tt at g0
  generalize h2 : T.isSome = tb at g1
  have H1 := Lib.hid h1
  have H2 := Lib.hid h2
  clear h1 h2
  go_wp2
  go_quiet (fail)
  go_wp2
  go_ret2
  exact ⟨by simp; exact ⟨H1.out.symm, H2.out.symm⟩, below_drewN A4.out _⟩
end Go.Proofs.Ytjgiobapdkdhpaa
