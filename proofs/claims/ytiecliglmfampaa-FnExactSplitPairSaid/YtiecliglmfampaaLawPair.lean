/-
  Two results that share no block, in the laws' own walks.
-/
import Derived.Test.YtiecliglmfampaaRows
import Derived.Test.YtiecliglmfampaaBase
import Derived.Test.YtiecliglmfampaaHarn
import Derived.Test.YtiecliglmfampaaLawKit
import Derived.Test.YtiecliglmfampaaApart
import Derived.Test.YtiecliglmfampaaPairLib
namespace Go.Sd
open Go.RowKit Go.Deep
/-- Own memory whose footprint is named. -/
def NewF {α : Type} (R : OwnRel α) (F : List Nat) (lo hi : Nat) (w : World) (v : Value) (x : α) : Prop := R w v x F ∧ F.Nodup ∧ ∀ b, b ∈ F → lo ≤ b ∧ b < hi
section
variable {α β : Type} {R : OwnRel α} {S : OwnRel β} {F : List Nat} {lo hi : Nat} {w w' : World} {v u : Value} {x : α} {y : β}
theorem NewF.new (h : NewF R F lo hi w v x) : New R lo w v x := ⟨F, h.1, h.2.1, fun b hb => (h.2.2 b hb).1⟩
theorem NewF.keep (hR : Held R) {B : Nat} (h : NewF R F lo hi w v x) (hb : Below B w w') (hB : hi ≤ B) : NewF R F lo hi w' v x :=
  ⟨hR.keep _ _ _ _ _ h.1 fun b hb' => hb.block b (by have := h.2.2 b hb'; omega), h.2⟩
theorem NewF.off (hR : Held R) {lo' hi' : Nat} (h : NewF R F lo hi w v x) (ho : OffIn lo' hi' w w') (hd : hi ≤ lo' ∨ hi' ≤ lo) : NewF R F lo hi w' v x :=
  ⟨hR.keep _ _ _ _ _ h.1 fun b hb' => ho.block b (hR.lt _ _ _ _ h.1 b hb') (by have := h.2.2 b hb'; omega), h.2⟩
theorem NewF.offF (hR : Held R) {G : List Nat} (h : NewF R F lo hi w v x) (ho : Off G w w') (hd : ∀ b, b ∈ F → b ∉ G) : NewF R F lo hi w' v x :=
  ⟨hR.keep _ _ _ _ _ h.1 fun b hb' => ho.block b (hR.lt _ _ _ _ h.1 b hb') (hd b hb'), h.2⟩
theorem Apart.inF (hR : Held R) (hS : Held S) (h : Apart R S lo w v x u y) : ∃ F G, NewF R F lo w.heap.size w v x ∧ NewF S G lo w.heap.size w u y ∧ ∀ b, b ∈ F → b ∉ G := by
  obtain ⟨F, G, h1, h2, h3, h4, h5⟩ := h
  exact ⟨F, G, ⟨h1, h3.1, fun b hb => ⟨h3.2 b hb, hR.lt _ _ _ _ h1 b hb⟩⟩, ⟨h2, h4.1, fun b hb => ⟨h4.2 b hb, hS.lt _ _ _ _ h2 b hb⟩⟩, h5⟩
end
end Go.Sd
namespace Go.Proofs.Ytiecliglmfampaa
open Go.RowKit Go.Deep Go.Sd
theorem markIntSS_F {F : List Nat} {lo hi : Nat} {w : World} {v : Value} {m : List (List Int)} {k0 : Int} (h : NewF (OTab 3 23) F lo hi w v m) (h0 : 0 ≤ k0) (h1 : k0 + cntSS m ≤ 4611686018427387904) :
    Calls Try.prog 22 #[v, .int .i64 k0] w fun e w' => e = .returned (.int .i64 (k0 + cntSS m)) ∧ NewF (OTab 3 23) F lo hi w' v (markSS m k0) ∧ OffIn lo hi w w' ∧ Off F w w' :=
  (markIntSS_c h.1 h.2.1 h0 h1).mono fun _ _ hm => ⟨hm.1, ⟨hm.2.1, h.2⟩, hm.2.2.inn h.2.2, hm.2.2⟩
end Go.Proofs.Ytiecliglmfampaa
