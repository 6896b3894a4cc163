/-
  What reachSets keeps: sets with their words; the sets that were seen.
-/
import Derived.Test.YtdohepngandajaaDoorRows
import Derived.Test.YtdohepngandajaaDoorBase
import Derived.Test.YtdohepngandajaaDoorHarn
import Derived.Test.YtdohepngandajaaDoorMapS
import Derived.Test.YtdohepngandajaaDoorOwnG
import Derived.Test.YtdohepngandajaaDoorBfsM
namespace Go.Sd
open Go.RowKit Go.Deep
theorem Sep.one {α : Type} {R : OwnRel α} (hR : Held R) {lo : Nat} {w : World} {v : Value} {x : α} (h : New R lo w v x) : Sep lo w [Res.of R hR v x] := by
  obtain ⟨F, hF, hf⟩ := h
  exact ⟨F, ⟨F, [], by simp, hF, rfl⟩, hf⟩
theorem Sep.get {lo : Nat} {w : World} : ∀ {rs : List Res} {r : Res}, Sep lo w rs → r ∈ rs → ∃ G, r.p w G ∧ ∀ b, b ∈ G → lo ≤ b
  | [], r, _, hm => by cases hm
  | s :: rs, r, h, hm => by
    rcases List.mem_cons.1 hm with rfl | hm
    · obtain ⟨G, h1, h2, _⟩ := h.head
      exact ⟨G, h1, h2.2⟩
    · exact Sep.get h.tail hm
theorem Sep.getBox {lo : Nat} {w : World} {rs : List Res} {b : Nat} {vs : List Value} (h : Sep lo w rs) (hm : Res.box b vs ∈ rs) : lo ≤ b ∧ Cells w b vs := by
  obtain ⟨G, ⟨rfl, h1⟩, h2⟩ := h.get hm
  exact ⟨h2 b (by simp), h1⟩
theorem SepF.perm {w : World} {rs ss : List Res} (hp : rs.Perm ss) : ∀ {F : List Nat}, SepF w rs F → ∃ F', F'.Perm F ∧ SepF w ss F' := by
  induction hp with
  | nil => exact fun h => ⟨_, List.Perm.refl _, h⟩
  | cons r _ ih =>
    rintro F ⟨G, H, rfl, h1, h2⟩
    obtain ⟨H', hp, h3⟩ := ih h2
    exact ⟨G ++ H', hp.append_left G, G, H', rfl, h1, h3⟩
  | swap r s l =>
    rintro F ⟨G, H, rfl, h1, G2, H2, rfl, h2, h3⟩
    refine ⟨G2 ++ (G ++ H2), ?_, G2, _, rfl, h2, G, H2, rfl, h1, h3⟩
    rw [← List.append_assoc, ← List.append_assoc]
    exact List.Perm.append_right _ List.perm_append_comm
  | trans _ _ ih1 ih2 =>
    intro F h
    obtain ⟨F1, p1, h1⟩ := ih1 h
    obtain ⟨F2, p2, h2⟩ := ih2 h1
    exact ⟨F2, p2.trans p1, h2⟩
theorem Sep.perm {lo : Nat} {w : World} {rs ss : List Res} (h : Sep lo w rs) (hp : rs.Perm ss) : Sep lo w ss := by
  obtain ⟨F, h1, hn, hl⟩ := h
  obtain ⟨F', p, h2⟩ := h1.perm hp
  exact ⟨F', h2, p.nodup_iff.2 hn, fun b hb => hl b (p.mem_iff.1 hb)⟩
/-- A thing comes to the front; goes back. -/
theorem Sep.front {lo : Nat} {w : World} (a : List Res) {r : Res} {b : List Res} (h : Sep lo w (a ++ r :: b)) : Sep lo w (r :: (a ++ b)) := h.perm List.perm_middle
theorem Sep.back {lo : Nat} {w : World} (a : List Res) {r : Res} {b : List Res} (h : Sep lo w (r :: (a ++ b))) : Sep lo w (a ++ r :: b) := h.perm List.perm_middle.symm
theorem Sep.firstTwo {lo : Nat} {w : World} {r s : Res} {rs : List Res} (h : Sep lo w (r :: s :: rs)) : Sep lo w [r, s] := by
  obtain ⟨F, ⟨G, H, rfl, h1, G2, H2, rfl, h2, h3⟩, hn, hl⟩ := h
  have hnd := List.nodup_append.1 hn
  have hnd2 := List.nodup_append.1 hnd.2.1
  refine ⟨G ++ (G2 ++ []), ⟨G, _, rfl, h1, G2, [], rfl, h2, rfl⟩, ?_, fun b hb => hl b ?_⟩
  · rw [List.append_nil]
    exact List.nodup_append.2 ⟨hnd.1, hnd2.1, fun p hp q hq => hnd.2.2 p hp q (List.mem_append_left _ hq)⟩
  · rw [List.append_nil] at hb
    rcases List.mem_append.1 hb with h | h
    · exact List.mem_append_left _ h
    · exact List.mem_append_right _ (List.mem_append_left _ h)
/-- The first and another one share no block. -/
theorem Sep.headTwo {lo : Nat} {w : World} {r r' : Res} {rs : List Res} (h : Sep lo w (r :: rs)) (hm : r' ∈ rs) : ∃ G G', r.p w G ∧ r'.p w G' ∧ ∀ b, b ∈ G → b ∉ G' := by
  obtain ⟨F, ⟨G, H, rfl, h1, h2⟩, hn, hl⟩ := h
  have key : ∀ {ss : List Res} {H : List Nat}, SepF w ss H → r' ∈ ss → ∃ G', r'.p w G' ∧ ∀ b, b ∈ G' → b ∈ H := by
    intro ss
    induction ss with
    | nil => intro H _ hm; cases hm
    | cons s ss ih =>
      rintro H ⟨G1, H1, rfl, k1, k2⟩ hm
      rcases List.mem_cons.1 hm with rfl | hm
      · exact ⟨G1, k1, fun b hb => List.mem_append_left _ hb⟩
      · obtain ⟨G', k3, k4⟩ := ih k2 hm
        exact ⟨G', k3, fun b hb => List.mem_append_right _ (k4 b hb)⟩
  obtain ⟨G', k1, k2⟩ := key h2 hm
  exact ⟨G, G', h1, k1, fun b hb hb' => (List.nodup_append.1 hn).2.2 b hb b (k2 b hb') rfl⟩
/-- A letter as a byte. -/
def letV (x : Nat) : Value := .int .u8 (97 + (x : Int))
abbrev OWord (e : TypeId) : OwnRel (List Nat) := OwnOf e (OValR letV)
theorem OLet.kept : Kept (OValR letV) := ⟨fun _ _ _ _ _ h _ => h, fun _ _ _ _ h b hb => by rw [h.2] at hb; simp at hb, fun _ _ _ _ h => by rw [h.1]; rfl⟩
theorem OWord.reads {e : TypeId} {w : World} {v : Value} {xs : List Nat} {F : List Nat} (h : OWord e w v xs F) : SlOf (ValR letV) w v xs := OwnOf.reads (fun _ _ _ _ h => h.1) h
/-- A set with its word: two cells. -/
def EntR (e : TypeId) : OwnCells (Nat × List Nat) := fun w u x F => ∃ vw, u = [.int .i64 (x.1 : Int), vw] ∧ OWord e w vw x.2 F
theorem EntR.kept (e : TypeId) : KeptC 2 (EntR e) := by
  refine ⟨?_, ?_, ?_, ?_⟩
  · rintro w w' u x F ⟨vw, rfl, h⟩ hk
    exact ⟨vw, rfl, (OwnOf.kept OLet.kept).keep _ _ _ _ _ h hk⟩
  · rintro w u x F ⟨vw, rfl, h⟩ b hb
    exact (OwnOf.kept OLet.kept).lt _ _ _ _ h b hb
  · rintro w u x F ⟨vw, rfl, h⟩ y hy
    simp at hy
    rcases hy with rfl | rfl
    · rfl
    · exact (OwnOf.kept OLet.kept).one _ _ _ _ h
  · rintro w u x F ⟨vw, rfl, h⟩; rfl
end Go.Sd
namespace Go.Proofs.YtdohepngandajaaDoor
open Go.RowKit Go.Deep Go.Sd Go.Maps
theorem infoB8 : (Tryd.prog.info? 5).map (fun i => (i.zero, i.size, i.bytes)) = some (some (.int .u8 0), 1, 1) := by kernel_rfl
end Go.Proofs.YtdohepngandajaaDoor
