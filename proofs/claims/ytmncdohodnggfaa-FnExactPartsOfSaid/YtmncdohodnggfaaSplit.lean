/-
  SplitOut, the program's: the arcs from a vertex divided.
-/
import Derived.Test.YtmncdohodnggfaaRows
import Derived.Test.YtmncdohodnggfaaBase
import Derived.Test.YtmncdohodnggfaaTabs
import Derived.Test.YtmncdohodnggfaaMat
import Derived.Test.YtmncdohodnggfaaJoin
import Derived.Test.YtmncdohodnggfaaStep
import Derived.Test.YtmncdohodnggfaaApart
import Derived.WalkSpells
namespace Go.Proofs.Ytmncdohodnggfaa
open Go.RowKit Go.Deep Go.Sd

theorem clone_c {w : World} {v : Value} {xs : List Int} (h : Ints w v xs) (hl : xs.length ≤ 1048576) :
    Calls Try.prog 86 #[v] w (Makes (OInts 3) w xs) := by
  have hsh := h.shape
  obtain ⟨a, c, rfl, _, _, hcell⟩ := hsh
  have q : ∀ (w : World) (a : Option Addr) (n c n' c' : Nat), (binOp .eql 46 (.slice a n c) (.slice none n' c')).run Try.prog w = .ok (.bool a.isNone) w := fun w a n c n' c' => Lib.run_eql_slice_nil w _ _ a n c n' c' Try.underlying46
  cases a with
  | none =>
    have h0 : xs.length = 0 := by
      by_cases h1 : 0 < xs.length
      · obtain ⟨b, o, h2, _⟩ := hcell h1
        cases h2
      · omega
    obtain rfl : xs = [] := List.length_eq_zero_iff.1 h0
    clear h hcell
    go_enter Try.func86, Try.ntmps86
    go_wp2
    go_ret
    exact ⟨_, rfl, New.nil _ _, Below.refl _ _⟩
  | some p =>
    have Hp := Lib.hid (Ints.frame _ _ _ _ h ((Below.refl w.heap.size w).alloc (Nat.le_refl _) (.cells #[] 3)))
    clear h hcell
    go_enter Try.func86, Try.ntmps86
    go_wp2_with (at_builtin; refine wpl_append_vals (f := Value.int .i64) (fun _ => rfl) rfl (.tmp 5) (.tmp 6) 46 rfl 3 (.int .i64 0) 8 Try.underlying46 infoI rfl (New.empty (R := OValR (Value.int .i64)) (lo := w.heap.size) w (Nat.le_refl _)) (by simp) Hp.out rfl rfl (by simp; omega) (by simp; omega) ?_; intro v1 w1 hn1 _ _ hb1; have Hn1 := Lib.hid hn1; have Hb1 := Lib.hid (((Below.refl w.heap.size w).alloc (Nat.le_refl _) _).trans hb1); clear hn1 hb1)
    go_ret
    exact ⟨_, rfl, Hn1.out, Hb1.out⟩

/-- A slice of n numbers: where they lie. -/
theorem ints_at {w : World} {v : Value} {xs : List Int} {n : Nat} (h : Ints w v xs) (hn : xs.length = n) (h0 : 0 < n) :
    ∃ b o c, v = .slice (some ⟨b, o, none⟩) n c ∧ b < w.heap.size ∧ ∀ j, j < n → w.cell? ⟨b, o + j, none⟩ = some (.int .i64 (xs.getD j 0)) := by
  subst hn
  obtain ⟨a, c, rfl, _, _, hc⟩ := h.shape
  obtain ⟨b, o, rfl, hb, hx⟩ := hc h0
  refine ⟨b, o, c, rfl, hb, fun j hj => ?_⟩
  obtain ⟨x, hxj, _⟩ := at_lt hj
  obtain ⟨u, hu, rfl⟩ := hx j x hxj
  rw [hu]
  simp [List.getD, hxj]

/-- Row k of the divided matrix, ahead of its last number. -/
def splitR (m : List (List Int)) (I : Nat) (P : List Int) (n k l : Nat) : Int := if k = n then ent m I l - P.getD l 0 else if k = I then P.getD l 0 else ent m k l
def splitT (m : List (List Int)) (I : Nat) (P : List Int) (n : Nat) : List (List Int) := (List.range (n + 1)).map fun k => rowOf' n (splitR m I P n k) ++ [splitR m I P n k I]
theorem splitT_at {m : List (List Int)} {I : Nat} {P : List Int} {n k : Nat} (hk : k < n + 1) : (splitT m I P n)[k]? = some (rowOf' n (splitR m I P n k) ++ [splitR m I P n k I]) := by simp [splitT, hk]
theorem splitT_len (m : List (List Int)) (I : Nat) (P : List Int) (n : Nat) : (splitT m I P n).length = n + 1 := by simp [splitT]
theorem splitR_last (m : List (List Int)) (I : Nat) (P : List Int) (n : Nat) : splitR m I P n n = fun l => ent m I l - P.getD l 0 := by funext l; simp [splitR]
theorem splitR_part (m : List (List Int)) {I : Nat} (P : List Int) {n : Nat} (h : I < n) : splitR m I P n I = fun l => P.getD l 0 := by funext l; unfold splitR; rw [if_neg (by omega), if_pos rfl]
theorem splitR_row (m : List (List Int)) {I : Nat} (P : List Int) {n k : Nat} (h : k < n) (hI : k ≠ I) : splitR m I P n k = fun l => ent m k l := by funext l; unfold splitR; rw [if_neg (by omega), if_neg hI]
theorem row_full {r : List Int} {n : Nat} (h : r.length = n) : r = rowOf' n (fun l => r.getD l 0) := by subst h; exact row_eq r

def partOk (m : List (List Int)) (I : Nat) (P : List Int) (n : Nat) : Prop := ∀ l, l < n → 0 ≤ P.getD l 0 ∧ P.getD l 0 ≤ ent m I l ∧ ent m I l ≤ 1000000

end Go.Proofs.Ytmncdohodnggfaa
