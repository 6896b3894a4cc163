/-
  ShortestSync, the reference's.
-/
import Derived.Test.YtdohepngandajaaDoorRows
import Derived.Test.YtdohepngandajaaDoorBase
import Derived.Test.YtdohepngandajaaDoorHarn
import Derived.Test.YtdohepngandajaaDoorLab
import Derived.Test.YtdohepngandajaaDoorLabC
import Derived.Test.YtdohepngandajaaDoorLabM
import Derived.Test.YtdohepngandajaaDoorLabStep
import Derived.Test.YtdohepngandajaaDoorResolv
import Derived.Test.YtdohepngandajaaDoorRank
import Derived.Test.YtdohepngandajaaDoorBfsM
import Derived.Test.YtdohepngandajaaDoorLeastRS
import Derived.Test.YtdohepngandajaaDoorShortCl
import Derived.Test.YtdohepngandajaaDoorReachS
import Derived.Test.YtdohepngandajaaDoorReadS
import Derived.Test.YtdohepngandajaaDoorWalkH
import Derived.Test.YtdohepngandajaaDoorStep
import Derived.Test.YtdohepngandajaaDoorRegM
import Derived.IntWalk
import Derived.Deep.RegionHeld3
import Derived.Deep.DeepCutAuto
namespace Go.Proofs.YtdohepngandajaaDoor
open Go.RowKit Go.Deep Go.Sd
set_option linter.unusedSimpArgs false
def shortM (l : Lb) : Option (List Nat) := if resolvM l = true then reachE l.2.2 l.1.toNat 16 cbShort 4096 [(allN l.2.1, [])] 0 none else none
def txt : Option (List Nat) → ByteArray
  | none => ⟨#[]⟩
  | some wd => wordT wd
abbrev Res.strs (e : TypeId) (v : Value) (xs : List ByteArray) : Res := Res.of (OwnOf e (OValR Value.string)) (OwnOf.kept (⟨fun _ _ _ _ _ h _ => h, fun _ _ _ _ h b hb => by rw [h.2] at hb; simp at hb, fun _ _ _ _ h => by rw [h.1]; rfl⟩ : Kept (OValR Value.string))).held v xs
theorem OStr.kept : Kept (OValR Value.string) := ⟨fun _ _ _ _ _ h _ => h, fun _ _ _ _ h b hb => by rw [h.2] at hb; simp at hb, fun _ _ _ _ h => by rw [h.1]; rfl⟩
theorem _root_.Go.Sd.Sep.strsAt {lo : Nat} {w : World} {e : TypeId} {v : Value} {xs : List ByteArray} {rs : List Res} (h : Sep lo w (Res.strs e v xs :: rs)) : ∃ a c, v = .slice a xs.length c ∧ (0 < xs.length → ∃ b, a = some ⟨b, 0, none⟩ ∧ b < w.heap.size ∧ ∀ i x, xs[i]? = some x → w.cell? ⟨b, i, none⟩ = some (.string x)) := by
  obtain ⟨G, hG, hf, _⟩ := h.head
  have hG' : OwnOf e (OValR Value.string) w v xs G := hG
  have hrd : SlOf (ValR Value.string) w v xs := OwnOf.reads (fun _ _ _ _ h => h.1) hG'
  obtain ⟨a, c, rfl, _, _, h1⟩ := hrd.shape
  refine ⟨a, c, rfl, fun h0 => ?_⟩
  obtain ⟨b, o, rfl, hb, hx⟩ := h1 h0
  obtain ⟨x0, hx0, _⟩ := at_lt h0
  obtain ⟨b', c', u, G2, hv, _⟩ := hG'.focus OStr.kept hf.1 hx0
  have e1 : b = b' ∧ o = 0 := by simp at hv; exact ⟨hv.1.1, hv.1.2⟩
  obtain ⟨rfl, rfl⟩ := e1
  refine ⟨b, rfl, hb, fun i x hi => ?_⟩
  obtain ⟨u, hu, rfl⟩ := hx i x hi
  simpa using hu
theorem infoStr : (Tryd.prog.info? 9).map (fun i => (i.zero, i.size, i.bytes)) = some (some (.string ⟨#[]⟩), 1, 16) := by kernel_rfl
abbrev wrdL (es : List Ent) : List ByteArray := es.map fun e => wordT e.2
theorem wordT_snoc (wd : List Nat) (x : Nat) : wordT wd ++ wordT [x] = wordT (wd ++ [x]) := by
  apply ByteArray.ext
  simp [wordT, ByteArray.data_append]
theorem abc_at {x : Nat} (h : x < 3) : (⟨#[97, 98, 99]⟩ : ByteArray).extract x (x + 1) = wordT [x] := by
  match x, h with
  | 0, _ => rfl
  | 1, _ => rfl
  | 2, _ => rfl
theorem abc_slice {x : Nat} (h : x < 3) (w : World) : (Instr.slice 9 (.string ⟨#[97, 98, 99]⟩) (some (.int .i64 (x : Int))) (some (.int .i64 ((x : Int) + 1))) none).run Tryd.prog w = .ok (.string (wordT [x])) w := by
  obtain rfl | rfl | rfl : x = 0 ∨ x = 1 ∨ x = 2 := by omega
  · exact show (Instr.slice 9 (.string ⟨#[97, 98, 99]⟩) (some (.int .i64 0)) (some (.int .i64 1)) none).run Tryd.prog w = .ok (.string ⟨#[97]⟩) w by kernel_rfl
  · exact show (Instr.slice 9 (.string ⟨#[97, 98, 99]⟩) (some (.int .i64 1)) (some (.int .i64 2)) none).run Tryd.prog w = .ok (.string ⟨#[98]⟩) w by kernel_rfl
  · exact show (Instr.slice 9 (.string ⟨#[97, 98, 99]⟩) (some (.int .i64 2)) (some (.int .i64 3)) none).run Tryd.prog w = .ok (.string ⟨#[99]⟩) w by kernel_rfl
end Go.Proofs.YtdohepngandajaaDoor
