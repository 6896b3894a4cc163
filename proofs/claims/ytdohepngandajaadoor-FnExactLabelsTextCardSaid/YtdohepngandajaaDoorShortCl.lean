/-
  ShortestSync's closure; words as texts.
-/
import Derived.Test.YtdohepngandajaaDoorRows
import Derived.Test.YtdohepngandajaaDoorBase
import Derived.Test.YtdohepngandajaaDoorRank
import Derived.Test.YtdohepngandajaaDoorBfsM
import Derived.Test.YtdohepngandajaaDoorLeastRS
import Derived.Test.YtdohepngandajaaDoorReachK
import Derived.Laws.IdiomStrings
import Derived.Laws.BytesArg
import Derived.IntWalk
namespace Go.Proofs.YtdohepngandajaaDoor
open Go.RowKit Go.Deep Go.Sd
set_option linter.unusedSimpArgs false
/-- A word as a text. -/
def wordT (wd : List Nat) : ByteArray := ⟨(wd.map fun x => UInt8.ofNat (97 + x)).toArray⟩
def cbShort (st : Option (List Nat)) (e : Ent) : Option (List Nat) × Bool := if popN e.1 = 1 then (some e.2, true) else (st, false)
def shortB (c : Nat) : Option (List Nat) → List Res
  | none => [Res.box c [.string ⟨#[]⟩], Res.box (c + 1) [.bool false]]
  | some wd => [Res.box c [.string (wordT wd)], Res.box (c + 1) [.bool true]]
/-- All letters are below N. -/
def LetsE (N : Nat) (es : List Ent) : Prop := ∀ e, e ∈ es → ∀ x, x ∈ e.2 → x < N
theorem addE_lets {N : Nat} {es : List Ent} (h : LetsE N es) {t : Nat} {w : List Nat} (hw : ∀ x, x ∈ w → x < N) : LetsE N (addE es t w) := by
  unfold addE
  split
  · exact h
  · intro e he
    rcases List.mem_append.1 he with he | he
    · exact h e he
    · simp at he; subst he; exact hw
theorem conv_word {w : World} {src dst e : TypeId} (hs : Tryd.prog.underlying src = some (.slice e)) (he : Tryd.prog.underlying e = some (.int .u8)) (hd : Tryd.prog.underlying dst = some .string) {a : Option Addr} {n c : Nat} {wd : List Nat} (h : SlOf (ValR letV) w (.slice a n c) wd) (hw : ∀ x, x ∈ wd → x < 3) :
    (convert src dst (.slice a n c)).run Tryd.prog w = .ok (.string (wordT wd)) w := by
  obtain ⟨a', c', hv, _, _, hx⟩ := h.shape
  simp at hv
  obtain ⟨rfl, rfl, rfl⟩ := hv
  cases a with
  | none =>
    have h0 : wd = [] := by
      cases wd with
      | nil => rfl
      | cons x t => obtain ⟨b, o, h1, _⟩ := hx (by simp); cases h1
    subst h0
    exact run_convert_bytes_nil w src e hs he _ _ dst hd
  | some ad =>
    have h1 := run_convert_bytes_back (P := Tryd.prog) w src dst e ad c (wd.map fun x => UInt8.ofNat (97 + x)) hs he hd (fun j hj => by
      have hjl : j < wd.length := by simpa using hj
      obtain ⟨b, o, e1, _, hc⟩ := hx (by omega)
      cases e1
      obtain ⟨x, hxj, _⟩ := at_lt hjl
      obtain ⟨u, hu, rfl⟩ := hc j x hxj
      have e2 : (⟨b, o, none⟩ : Addr).add j = ⟨b, o + j, none⟩ := by unfold Addr.add; split <;> simp_all
      have hx3 := hw x (List.mem_of_getElem? hxj)
      have e3 : wd[j] = x := by rw [List.getElem?_eq_getElem hjl] at hxj; exact Option.some.inj hxj
      rw [e2, hu]
      simp only [List.getElem_map, e3, letV]
      have e4 : (UInt8.ofNat (97 + x)).toNat = 97 + x := by simp; omega
      rw [e4]
      rfl)
    rw [List.length_map] at h1
    exact h1
end Go.Proofs.YtdohepngandajaaDoor
