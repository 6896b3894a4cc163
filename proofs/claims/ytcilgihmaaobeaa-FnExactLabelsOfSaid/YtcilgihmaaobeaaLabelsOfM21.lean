/-
  Texts of this claim joined: laws for its walks, contracts of the functions that the law reaches, and the theorem that the program's answer is the reference's for all arguments.
-/
import Derived.Test.YtcilgihmaaobeaaRows
import Derived.Test.YtcilgihmaaobeaaLabelsOfM1
import Derived.Test.YtcilgihmaaobeaaLabelsOfM8
import Derived.Deep.Strs
import Derived.Lib.SmallJoins
import Derived.Handy
import Derived.Test.YtcilgihmaaobeaaLabelsOfM20
import Derived.WalkKit
import Derived.ProofKit
import Derived.OpenShut
import Derived.ShutString
import Derived.ChangeOld
import Derived.Below
import Derived.HandedShaped
import Derived.Test.YtcilgihmaaobeaaLabelsOfM18
section
/-
  How a law's argument that is a shift is opened.
-/
namespace Go.Sd
open Go.RowKit Go.Deep Go.Joins Go.ChangeShapes Go.WideShapes Go.ChangeAt
section
variable {H : Type} {enc : TypeId × Value → H} {P : Program} {W : World} {base : Nat}
theorem open_Strs_cells {t e : TypeId} (ht : P.underlying t = some (.slice e)) (he : P.underlying e = some .string) (ce : P.cellsOf e = 1) {v : Value} {fuel : Nat} {x : DataW H × List MemPlace}
    (h : DataW.trod enc P W base (fun _ => true) true fuel t [v] = some x) : ∃ xs : List ByteArray, SlOf (ValR Value.string) W v xs ∧ ∀ x, x ∈ xs → x.size ≤ maxLen := by
  rcases open_strs ht he ce h with ⟨hcs, _⟩ | ⟨a, len, cap, m, Sx, hcs, hb, hl, hm, hmm, _, hx⟩
  · simp at hcs
    subst hcs
    exact ⟨[], ⟨[], Sl.mk' rfl (by simp) (by simp) (by simp) (by simp), rfl, by simp⟩, by simp⟩
  · simp at hcs
    subst hcs
    simp only [if_true] at hmm
    subst hmm
    have hm' : m ≤ 9223372036854775807 := hm
    refine ⟨(List.range len).map Sx, ⟨(List.range len).map fun i => .string (Sx i), Sl.mk' (by simp) hl hm' ?_ (by simp), by simp, fun i u x hu hx' => ?_⟩, fun y hy => ?_⟩
    · intro a'' ha i u hu
      cases ha
      rw [List.getElem?_map, Option.map_eq_some_iff] at hu
      obtain ⟨j, hj, rfl⟩ := hu
      obtain ⟨hj3, hj4⟩ := List.getElem?_eq_some_iff.1 hj
      simp at hj3 hj4
      subst hj4
      exact (hx i (by omega)).1
    · rw [List.getElem?_map, Option.map_eq_some_iff] at hu hx'
      obtain ⟨j, hj, rfl⟩ := hu
      obtain ⟨j', hj', rfl⟩ := hx'
      rw [hj] at hj'
      cases hj'
      rfl
    · obtain ⟨i, hi, rfl⟩ := List.mem_map.1 hy
      have := List.mem_range.1 hi
      exact (hx i (by omega)).2
theorem open_Shift {tS tA e q : TypeId} {f0 f1 : Field} (hs : P.underlying tS = some (.struct #[f0, f1])) (hone : oneCellFields P #[f0, f1] = true) (hC : P.cellsOf tS = 2) (e0 : f0.type = q) (e1 : f1.type = tA)
    (ht : P.underlying tA = some (.slice e)) (he : P.underlying e = some .string) (hq : P.underlying q = some (.int .i64)) (ce : P.cellsOf e = 1) {v : Value} {d : DataW H} {p : List MemPlace}
    (hv : Value.okWide P W .any base tS v) (h : DataW.Trod enc P W 0 (fun _ => true) true tS v d p) : ∃ z, Go.Proofs.Ytcilgihmaaobeaa.ShR W v z ∧ I64 z.1 ∧ ∀ x, x ∈ z.2 → x.size ≤ maxLen := by
  obtain ⟨c0, c1, y0, y1, m, rfl, rfl, rfl, hy0, hy1⟩ := open_agg2 hs hone hC hv h
  rw [e0] at hy0
  rw [e1] at hy1
  obtain ⟨a0, z0, _, w0⟩ := DataW.trod_int hq hy0
  simp at z0
  subst z0
  obtain ⟨xs, hxs, hm⟩ := open_Strs_cells ht he ce hy1
  exact ⟨(a0, xs), ⟨c1, rfl, hxs⟩, I64.of_wf w0, hm⟩
end
end Go.Sd
end

section
/-
  The program's LabelsOf returns what the reference's returns, and leaves its arguments alone, for every input. No condition.
-/
namespace Go.Proofs.Ytcilgihmaaobeaa.fnExactLabelsOf
open Go.ChangeShapes Go.WideShapes Go.ChangeAt Go.RowKit Go.Sd Go.Joins
open Go.ChangeMaps (open_string shut_string)
set_option linter.unusedVariables false
theorem own : ownKnob Try.prog.godebug = none := by kernel_rfl
theorem laidOut : laidOutB Try.prog = true := by kernel_rfl
set_option maxRecDepth 100000 in
theorem lifted (os : Os) (started : os.Started) (H : Type) (enc : TypeId × Value → H) :
    ReturnsInHanded {} Try.checked os 4 .any (Rows.fnExactLabelsOfSpec.pre6 enc Try.prog Try.f4 Rows.fnExactLabelsOfRow.domain false) (Rows.fnExactLabelsOfSpec.post enc Try.prog Try.f4 false true false false) := by
  refine returnsInHanded_of_change_shaped (C := Try.checked) own started (by kernel_rfl) Try.func4
    (ChangeSpec.witness6 (enc := enc) (C := Try.checked) false ⟨#[], #[.agg #[.int .i64 0, .slice none 0 0]], []⟩ 8 (by kernel_rfl) (by kernel_rfl) (by kernel_rfl) (by kernel_rfl)) ?_
  intro W base args ds gs before hval0 hW hcnd _ hsh _
  have hMx : MaxOk W := by
    obtain ⟨m, hm⟩ := Try.lays144.s1_3 W hsh
    exact ⟨World.block_lt_of_cell? W ⟨0, 0, none⟩ hm, m, hm⟩
  have hval : ∀ (j : Nat) t v, Try.f4.params[j]? = some t → args[j]? = some v → Value.okWide Try.prog W .any base t v := hval0
  have hW' := hW
  obtain ⟨p, q, hA0, hV, rfl, hfz, hnd⟩ := hW
  have hA : DataW.TrodAll enc Try.prog W 0 (fun _ => true) true Try.f4.params.toList args.toList ds p := hA0
  rw [Try.params4] at hA hval
  obtain ⟨v0, vs0, d0, ds0, p0, q0, hargs, rfl, rfl, h0, r0⟩ := trodAll_cons hA
  obtain ⟨rfl, rfl, rfl⟩ := trodAll_nil r0
  obtain rfl : args = #[v0] := by cases args; simp_all
  obtain ⟨rfl, rfl⟩ := trodVars_none hV
  have k0 := h0
  have lt0 : ∀ x ∈ p0, x.block < W.heap.size := by obtain ⟨m, hm⟩ := k0; exact DataW.trod_lt m _ _ _ hm
  obtain ⟨a0, t0, b0, m0⟩ := open_Shift Try.underlying41 (by kernel_rfl) (by kernel_rfl) rfl rfl Try.underlying36 Try.underlying9 Try.underlying3 (by kernel_rfl) (hval 0 41 v0 rfl rfl) h0
  clear hA0 hval0
  refine (law_LabelsOf t0 b0 m0 hMx).mono fun e W' ⟨he, bel⟩ => ?_
  subst he
  exact ⟨_, rfl, _, _, _, [], _, [], hW', trodAll_mk1 (shut_bool Try.underlying4 _), (trodAll_cons_mk (Below.trod laidOut (by kernel_rfl) (of_decide_eq_true (by kernel_rfl)) k0 bel lt0) trodAll_mk0), rfl, bel.frame _, fun h => by cases h⟩

theorem over : Rows.fnExactLabelsOfRow.holds Try.pinned (OpenSpec.ofChange Rows.fnExactLabelsOfSpec) :=
  OpenClaim.holds_of_wide 4 Try.f4 rfl rfl rfl rfl rfl rfl rfl ⟨rfl, rfl, rfl, rfl, rfl⟩ rfl rfl rfl rfl rfl (by kernel_rfl) Try.func4 (by kernel_rfl)
    (of_decide_eq_true (by kernel_rfl)) (by unfold Func.isWrapper; first | (rw [if_pos (by decide +kernel)]; kernel_rfl) | (rw [if_neg (by decide +kernel)]; exact ⟨rfl, rfl⟩))
    (fun os started H enc _ => lifted os started H enc)

theorem proved : Rows.FnExactLabelsOfSaid := over
#print axioms proved
end Go.Proofs.Ytcilgihmaaobeaa.fnExactLabelsOf
end
