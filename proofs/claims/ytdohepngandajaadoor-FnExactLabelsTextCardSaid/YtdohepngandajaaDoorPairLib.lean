/-
  Two own things that grow side by side; make as a law that hides the world; three results.
-/
import Derived.Test.YtdohepngandajaaDoorBase
import Derived.Test.YtdohepngandajaaDoorTabs
import Derived.Test.YtdohepngandajaaDoorApart
import Derived.Deep.OwnRows
import Derived.OwnWalk
namespace Go.Sd
open Go.RowKit Go.Deep

section
variable {P : Program} {α β : Type} {R : OwnRel α} {S : OwnRel β} {lo : Nat} {w : World} {v u : Value} {e : TypeId}
theorem Apart.mono {R : OwnRel α} {x : α} {y : β} {lo' : Nat} (h : Apart R S lo w v x u y) (hl : lo' ≤ lo) : Apart R S lo' w v x u y := by
  obtain ⟨F, G, h1, h2, h3, h4, h5⟩ := h
  exact ⟨F, G, h1, h2, ⟨h3.1, fun b hb => Nat.le_trans hl (h3.2 b hb)⟩, ⟨h4.1, fun b hb => Nat.le_trans hl (h4.2 b hb)⟩, h5⟩
/-- An element made since is put behind the first; the second stays as it is. -/
theorem Apart.grow (hR : Kept R) (hS : Kept S) (t ty : TypeId) (z : Value) (bytes : Nat) (ht : P.underlying t = some (.slice e)) (hinfo : (P.info? e).map (fun i => (i.zero, i.size, i.bytes)) = some (some z, 1, bytes)) (hz1 : z.cells = #[z])
    {xs : List α} {y : β} (h : Apart (OwnOf e R) S lo w v xs u y) (hlo : lo ≤ w.heap.size) {w1 : World} (hb : Below w.heap.size w w1) {q : Value} {x : α} (hq : New R w.heap.size w1 q x) {bb c : Nat} (hcell : w1.cell? ⟨bb, 0, none⟩ = some q) (hbytes : (xs.length + 1) * bytes ≤ 140737488355328) (h63 : xs.length + 1 ≤ 9223372036854775807) :
    ∃ v' w', (Builtin.append_ #[t, t] ty #[v, .slice (some ⟨bb, 0, none⟩) 1 c]).run P w1 = .ok v' w' ∧ Apart (OwnOf e R) S lo w' v' (xs ++ [x]) u y ∧ Below lo w w' := by
  obtain ⟨F, G, hF, hG, hn, hm, hd⟩ := h
  obtain ⟨H, hH, hHn, hHg⟩ := hq
  have hltF := (OwnOf.kept (e := e) hR).lt _ _ _ _ hF
  have hltG := hS.lt _ _ _ _ hG
  have hz := hb.size
  obtain ⟨v', w', F', hr, hF', hn', hs, hg, hv⟩ := push_run hR t ty e z bytes ht hinfo hz1 ((OwnOf.kept (e := e) hR).keep _ w1 _ _ _ hF fun b hm => hb.block b (hltF b hm)) hn.1 hH hHn (fun b hm hm2 => by have := hltF b hm; have := hHg b hm2; omega) (c := c) hcell hbytes h63
  refine ⟨v', w', hr, ⟨F', G, hF', hS.keep _ _ _ _ _ hG fun b hm2 => (hg.block b (by have := hltG b hm2; omega) fun e => hd b (hv b e.symm) hm2).trans (hb.block b (hltG b hm2)), ⟨hn', fun b hm2 => ?_⟩, hm, fun b hm2 hm3 => ?_⟩, (hb.mono hlo).grown hg (by omega) fun k hk => hn.2 k (hv k hk)⟩
  · rcases hs b hm2 with h1 | h1 | h1
    · exact hn.2 b h1
    · have := hHg b h1; omega
    · omega
  · rcases hs b hm2 with h1 | h1 | h1
    · exact hd b h1 hm3
    · have := hHg b h1; have := hltG b hm3; omega
    · have := hltG b hm3; omega
end

/-- An entry of the first, a table, is stored anew. -/
theorem Apart.tab_store {β : Type} {S : OwnRel β} {eI eR : TypeId} {lo : Nat} {w : World} {v u : Value} {m : List (List Int)} {y : β} (hS : Kept S) (h : Apart (OTab eI eR) S lo w v m u y) {i j : Nat} {r : List Int} {x : Int} (hr : m[i]? = some r) (hx : r[j]? = some x) :
    ∃ b c rb rc, v = .slice (some ⟨b, 0, none⟩) m.length c ∧ m.length ≤ c ∧ lo ≤ b ∧ b < w.heap.size ∧ w.cell? ⟨b, i, none⟩ = some (.slice (some ⟨rb, 0, none⟩) r.length rc) ∧ r.length ≤ rc ∧ lo ≤ rb ∧ rb < w.heap.size ∧
      w.cell? ⟨rb, j, none⟩ = some (.int .i64 x) ∧ w.frozen? ⟨rb, j, none⟩ = false ∧ ∀ z, Apart (OTab eI eR) S lo (w.setCell ⟨rb, j, none⟩ (.int .i64 z)) v (m.set i (r.set j z)) u y := by
  obtain ⟨F, G, hF, hG, hn, hm, hd⟩ := h
  have hlt := (OTab.kept eI eR).lt _ _ _ _ hF
  obtain ⟨b, c, q, Q, hv, hc, hbF, hbQ, hcell, _, hq, hQF, hQn, hst, _⟩ := hF.focus (OInts.kept eI) hn.1 hr
  obtain ⟨rb, rc, u2, G2, rfl, hrc, hrb, _, hcell2, hfr2, ⟨rfl, rfl⟩, _, _, _, hst2⟩ := hq.focus OIntR.kept hQn hx
  refine ⟨b, c, rb, rc, hv, hc, hn.2 b hbF, hlt b hbF, hcell, hrc, hn.2 rb (hQF rb hrb), hlt rb (hQF rb hrb), hcell2, hfr2, fun z => ?_⟩
  obtain ⟨F', hF', _, _, e⟩ := hst2 w (.int .i64 z) z [] ⟨rfl, rfl⟩ (by simp) (fun _ _ _ => rfl)
  rw [e rfl] at hF'
  exact ⟨F, G, hst _ _ hF' (fun q hq hqG => Below.heap_setCell _ _ _ _ (fun e => hqG (by have e2 : q = rb := e; exact e2 ▸ hrb))), hS.keep _ _ _ _ _ hG fun q hq => Below.heap_setCell _ _ _ _ (fun e => hd rb (hQF rb hrb) (by have e2 : q = rb := e; exact e2 ▸ hq)), hn, hm, hd⟩

/-- 'make([]T, n)' whose world is hidden. -/
theorem wpl_make {P : Program} {α : Type} {R : OwnRel α} {w : World} {ops : Array Oper} {rest : List Oper} {o : Oper} {a : Act} {Q : Exit → Act → World → Prop}
    (hg : o.guard = none) (l c : Operand) (t : TypeId) (hop : o.op = Op.makeSlice t l c)
    (e : TypeId) (z : Value) (bytes : Nat) (ht : P.underlying t = some (.slice e)) (hinfo : (P.info? e).map (fun i => (i.zero, i.size, i.bytes)) = some (some z, 1, bytes)) (hz1 : z.cells = #[z])
    (n : Nat) (hl : a.eval l = .int .i64 (n : Int)) (hc : a.eval c = .int .i64 (n : Int)) (hbytes : bytes * n ≤ 281474976710656) (h63 : n ≤ 9223372036854775807) {d : α} (hd : ∀ w, R w z d [])
    (hK : ∀ w', w'.heap.size = w.heap.size + 1 → New (OwnOf e R) w.heap.size w' (.slice (some ⟨w.heap.size, 0, none⟩) n n) (List.replicate n d) → Below w.heap.size w w' → wpList P ops Q rest (a.put o.dst (.slice (some ⟨w.heap.size, 0, none⟩) n n)) w') :
    wpList P ops Q (o :: rest) a w := by
  obtain ⟨i, hi, hzz⟩ := Option.map_eq_some_iff.1 hinfo
  simp only [Prod.mk.injEq] at hzz
  obtain ⟨hz, hs, hb⟩ := hzz
  refine wpList_make_row w hg l c t hop e i z ht hi hz hs hz1 .i64 .i64 n hl hc (by rw [hb]; exact hbytes) h63 ?_
  exact hK _ (by simp) (New.made e w z d n (Nat.le_refl _) h63 hd) ((Below.refl _ _).alloc (Nat.le_refl _) _)

/-- A call that makes two things that share no block, and answers a bool besides. -/
def Makes3 {α β : Type} (R : OwnRel α) (S : OwnRel β) (w : World) (x : α) (y : β) (ok : Bool) (e : Ending) (w' : World) : Prop :=
  ∃ r s, e = .returned (.tuple #[r, s, .bool ok]) ∧ Apart R S w.heap.size w' r x s y ∧ Below w.heap.size w w'
theorem Apart.nils {α β : Type} {R : OwnRel α} {S : OwnRel β} {e f : TypeId} (lo : Nat) (w : World) : Apart (OwnOf e R) (OwnOf f S) lo w (.slice none 0 0) [] (.slice none 0 0) [] :=
  ⟨[], [], OwnOf.nil w, OwnOf.nil w, by simp [Fresh], by simp [Fresh], by simp⟩
theorem Apart.empties {α β : Type} {R : OwnRel α} {S : OwnRel β} (hR : Kept R) {e f : TypeId} (w : World) {lo : Nat} (h : lo ≤ w.heap.size) :
    Apart (OwnOf e R) (OwnOf f S) lo ((w.alloc (.cells #[] e)).alloc (.cells #[] f)) (.slice (some ⟨w.heap.size, 0, none⟩) 0 0) [] (.slice (some ⟨w.heap.size + 1, 0, none⟩) 0 0) [] := by
  have h2 := New.empty (R := S) (e := f) (lo := (w.alloc (.cells #[] e)).heap.size) (w.alloc (.cells #[] e)) (Nat.le_refl _)
  have e2 : (w.alloc (.cells #[] e)).heap.size = w.heap.size + 1 := by simp
  have h3 := Apart.of_new (OwnOf.kept (e := e) hR) (New.empty w h) h2 ((Below.refl _ _).alloc (Nat.le_refl _) _) (by rw [e2]; omega)
  rw [e2] at h3
  exact h3
end Go.Sd
