/-
  Maps whose keys are pairs of sets of states.
-/
import Derived.Test.YtjgiobapdkdhpaaRows
import Derived.Test.YtjgiobapdkdhpaaBase
import Derived.Test.YtjgiobapdkdhpaaMapS
import Derived.Test.YtjgiobapdkdhpaaReadP
import Derived.WideKeyPair
import Derived.Maps.Keyed
namespace Go.Proofs.Ytjgiobapdkdhpaa
open Go.RowKit Go.Deep Go.Sd Go.Maps
def pcell (p : P2) : List Value := [.int .i64 (p.1 : Int), .int .i64 (p.2 : Int)]
theorem pcell_lay : Lay 2 pcell := ⟨by decide, fun _ => rfl, fun x u hu => by
  simp [pcell] at hu
  rcases hu with rfl | rfl <;> rfl⟩
def pval (p : P2) : Value := .agg #[.int .i64 (p.1 : Int), .int .i64 (p.2 : Int)]
theorem infoP2 : (Try.prog.info? 109).map (fun i => (i.zero, i.size, i.bytes)) = some (some (.agg #[.int .i64 0, .int .i64 0]), 2, 16) := by kernel_rfl
theorem arrP2 : WideMaps.ArrKey Try.prog 109 3 2 := ⟨Try.underlying109, by kernel_rfl, by kernel_rfl, by kernel_rfl⟩
def domP (p : P2) : Prop := domS p.1 ∧ domS p.2
noncomputable def keyP (p : P2) : Lit := .string (keyBytes [.int .i64 (p.1 : Int), .int .i64 (p.2 : Int)])
theorem typesPos : ∃ m, Try.prog.types.size = m + 1 := ⟨Try.prog.types.size - 1, by
  have h : 0 < Try.prog.types.size := of_decide_eq_true (by kernel_rfl)
  omega⟩
theorem keyP_of {p : P2} (h : domP p) : keyOf Try.prog 109 (pval p) = some (keyP p) :=
  WideMaps.keyOf_pair arrP2 Try.underlying3 typesPos (wf_i64 h.1) (wf_i64 h.2)
theorem mapK_pair : MapK Try.prog 109 4 domP pval keyP (fun y : Bool => .bool y) (fun y => .lit (.bool y)) where
  law := Keyed.of_law arrP2.law
  key := fun x hx => keyP_of hx
  inj := fun x y hx hy h => by
    have h1 := keyP_of hx
    have h2 := keyP_of hy
    rw [← h] at h2
    have h3 := (Keyed.of_law arrP2.law).inj h1 h2
    unfold pval at h3
    simp at h3
    exact Prod.ext (by omega) (by omega)
  val := fun y => plainElem_bool Try.underlying4 y
  inv := fun y v ps h => by
    exact boolElem_inv Try.underlying4 h
  lit := fun x _ => by simp [keyP, WideAt.IsKeyLit]
/-- The map that holds these pairs. -/
def memG (ps : List P2) : P2 → Option Bool := fun p => if p ∈ ps then some true else none
theorem memG_add (ps : List P2) (x : P2) {d : ∀ x' : P2, Decidable (x' = x)} : (fun x' => @ite _ (x' = x) (d x') (some true) (memG ps x')) = memG (ps ++ [x]) := by
  funext x'
  unfold memG
  by_cases e : x' = x
  · simp [e]
  · simp [e]
theorem memG_nil : (fun _ : P2 => (none : Option Bool)) = memG [] := by funext x; simp [memG]
noncomputable abbrev Res.pairs (b n : Nat) (ps : List P2) : Res := Res.map Try.prog 109 4 domP keyP (fun y => .lit (.bool y)) b n (memG ps)
open Classical in
theorem _root_.Go.Sd.Sep.pairAdd {lo : Nat} {w : World} {rs : List Res} {b n : Nat} {ps : List P2} (h : Sep lo w (Res.pairs b n ps :: rs)) (hlo : lo ≤ w.heap.size) (hn : n ≤ 16777216) (x : P2) (hx : domP x) :
    ∃ w', (Instr.mapUpdate 111 (.map (some b)) (pval x) (.bool true)).run Try.prog w = .ok () w' ∧ Sep lo w' (Res.pairs b (n + 1) (ps ++ [x]) :: rs) ∧ Below lo w w' ∧ ∀ p : Addr, p.block < w.heap.size → p.block ≠ b → w'.cell? p = w.cell? p := by
  obtain ⟨w', hr, hs, hb, hk⟩ := h.mapStore mapK_pair hlo Try.underlying111 (by unfold maxLen; omega) x hx true
  refine ⟨w', hr, ?_, hb, hk⟩
  show Sep lo w' (Res.map Try.prog 109 4 domP keyP (fun y => .lit (.bool y)) b (n + 1) (memG (ps ++ [x])) :: rs)
  rw [← memG_add ps x (d := fun _ => Classical.propDecidable _)]
  exact hs
theorem zeroB' (w : World) : (zeroValue 4).run Try.prog w = .ok (.bool false) w := by kernel_rfl
theorem _root_.Go.Sd.Sep.pairLook {lo : Nat} {w : World} {rs : List Res} {b n : Nat} {ps : List P2} (h : Sep lo w (Res.pairs b n ps :: rs)) (x : P2) (hx : domP x) :
    (Instr.lookup 111 (.map (some b)) (pval x) false).run Try.prog w = .ok (.bool (decide (x ∈ ps))) w := by
  have h1 := h.mapLook mapK_pair Try.underlying111 (zeroB' w) (plainElem_bool Try.underlying4 false) (fun v ps h => boolElem_inv Try.underlying4 h) x hx
  rw [h1]
  unfold memG
  by_cases e : x ∈ ps
  · simp [e]
  · simp [e]
theorem zeroB (w : World) : (zeroValue 4).run Try.prog w = .ok (.bool false) w := by kernel_rfl
end Go.Proofs.Ytjgiobapdkdhpaa
