/-
  Texts of this claim joined: laws for its walks, contracts of the functions that the law reaches.
-/
import Derived.WalkKit
import Derived.Maps.AppendAt
import Derived.Deep.OwnRows
import Derived.Deep.LoopGhost
import Derived.Deep.QuietTactic
import Derived.BigQuiet
import Derived.Lib.Hide
import Derived.Outline
import Derived.WalkSmall
import Derived.Test.YtcilgihmaaobeaaDoorRows
import Derived.ProofKit
import Derived.OpenShut
import Derived.Deep.Matrix
import Derived.Deep.Slices
import Derived.OwnWalk
import Derived.Lib.SmallJoins
import Derived.Deep.RegionHeld3
import Derived.Deep.DeepCutAuto
import Derived.Laws.BitsLemmas
set_option linter.unusedVariables false
set_option linter.unusedSimpArgs false
section
namespace Go.Sd
open Go.RowKit Go.Deep

/-! ### Reading -/

/-- v is a slice of one-cell elements whose cells hold 'us'. -/
def Sl (w : World) (v : Value) (us : List Value) : Prop :=
  us.length ≤ 9223372036854775807 ∧ ∃ a c, v = .slice a us.length c ∧ us.length ≤ c ∧ c ≤ 9223372036854775807 ∧ (a = none → c = 0) ∧
    (us = [] ∨ ∃ b o, a = some ⟨b, o, none⟩ ∧ b < w.heap.size ∧ ∀ (i : Nat) (u : Value), us[i]? = some u → w.cell? ⟨b, o + i, none⟩ = some u)

/-- v is a slice whose elements read as 'xs' by R. -/
def SlOf {α : Type} (R : World → Value → α → Prop) (w : World) (v : Value) (xs : List α) : Prop :=
  ∃ us : List Value, Sl w v us ∧ us.length = xs.length ∧ ∀ (i : Nat) (u : Value) (x : α), us[i]? = some u → xs[i]? = some x → R w u x

def ValR {α : Type} (f : α → Value) (_ : World) (v : Value) (x : α) : Prop := v = f x
abbrev IntR : World → Value → Int → Prop := ValR (Value.int .i64)
def Ints : World → Value → List Int → Prop := SlOf IntR
def Tab : World → Value → List (List Int) → Prop := SlOf Ints
/-- What was there reads as it did. -/
def Framed {α : Type} (R : World → Value → α → Prop) : Prop := ∀ w w' v x, R w v x → Below w.heap.size w w' → R w' v x

theorem Sl.frame {w w' : World} {v : Value} {us : List Value} (h : Sl w v us) (hb : Below w.heap.size w w') : Sl w' v us := by
  obtain ⟨h0, a, c, hv, hc, hc', hn, h1⟩ := h
  refine ⟨h0, a, c, hv, hc, hc', hn, h1.imp id ?_⟩
  rintro ⟨b, o, ha, hlt, hcell⟩
  exact ⟨b, o, ha, Nat.lt_of_lt_of_le hlt hb.size, fun i u hi => (hb.cell (p := ⟨b, o + i, none⟩) hlt).trans (hcell i u hi)⟩

theorem SlOf.frame {α : Type} {R : World → Value → α → Prop} (hR : Framed R) : Framed (SlOf R) := by
  intro w w' v xs ⟨us, h, hl, hr⟩ hb
  exact ⟨us, h.frame hb, hl, fun i u x hu hx => hR _ _ _ _ (hr i u x hu hx) hb⟩

theorem IntR.frame : Framed IntR := fun _ _ _ _ h _ => h
theorem Ints.frame : Framed Ints := SlOf.frame IntR.frame
theorem Tab.frame : Framed Tab := SlOf.frame Ints.frame
/-- The value's shape. -/
theorem SlOf.shape {α : Type} {R : World → Value → α → Prop} {w : World} {v : Value} {xs : List α} (h : SlOf R w v xs) :
    ∃ a c, v = .slice a xs.length c ∧ xs.length ≤ c ∧ c ≤ 9223372036854775807 ∧ (0 < xs.length → ∃ b o, a = some ⟨b, o, none⟩ ∧ b < w.heap.size ∧ ∀ i x, xs[i]? = some x → ∃ u, w.cell? ⟨b, o + i, none⟩ = some u ∧ R w u x) := by
  obtain ⟨us, ⟨h0, a, c, hv, hc, hc', _, h1⟩, hl, hr⟩ := h
  refine ⟨a, c, by rw [← hl]; exact hv, by omega, hc', fun hpos => ?_⟩
  rcases h1 with rfl | ⟨b, o, ha, hlt, hcell⟩
  · simp at hl; omega
  · refine ⟨b, o, ha, hlt, fun i x hx => ?_⟩
    have hi : i < us.length := by rw [hl]; exact (List.getElem?_eq_some_iff.1 hx).1
    exact ⟨us[i], hcell i _ (List.getElem?_eq_getElem hi), hr i _ x (List.getElem?_eq_getElem hi) hx⟩

theorem SlOf.len {α : Type} {R : World → Value → α → Prop} {w : World} {v : Value} {xs : List α} (h : SlOf R w v xs) : xs.length ≤ 9223372036854775807 := by
  obtain ⟨us, ⟨h0, _⟩, hl, _⟩ := h; omega

/-- A list with an element at k. -/
theorem at_lt {α : Type} {xs : List α} {k : Nat} (h : k < xs.length) : ∃ x, xs[k]? = some x ∧ xs.drop k = x :: xs.drop (k + 1) :=
  ⟨xs[k], List.getElem?_eq_getElem h, List.drop_eq_getElem_cons h⟩

theorem drop_len {α : Type} {xs : List α} {k : Nat} (h : ¬ k < xs.length) : xs.drop k = [] := List.drop_eq_nil_of_le (by omega)

/-! ### Owning -/

/-- What the own element says: its cell, what it reads as, the blocks that it owns. -/
abbrev OwnRel (α : Type) := World → Value → α → List Nat → Prop

def OwnOf {α : Type} (e : TypeId) (R : OwnRel α) : OwnRel (List α) := fun w v xs F =>
  ∃ (us : List Value) (Fs : List (List Nat)), w.ownsRow 0 e 1 v xs.length us ∧ Fs.length = xs.length ∧ (∀ (i : Nat) (u : Value) (x : α) (G : List Nat), us[i]? = some u → xs[i]? = some x → Fs[i]? = some G → R w u x G) ∧ F = v.ownBlock.toList ++ Fs.flatten

/-- An element that is a plain value. -/
def OValR {α : Type} (f : α → Value) : OwnRel α := fun _ v x F => v = f x ∧ F = []
abbrev OIntR : OwnRel Int := OValR (Value.int .i64)

/-- The element is kept where its own blocks are; its blocks exist. -/
structure Kept {α : Type} (R : OwnRel α) : Prop where
  keep : ∀ w w' v x F, R w v x F → (∀ b, b ∈ F → w'.heap[b]? = w.heap[b]?) → R w' v x F
  lt : ∀ w v x F, R w v x F → ∀ b, b ∈ F → b < w.heap.size
  one : ∀ w v x F, R w v x F → v.oneCell' = true

theorem OIntR.kept : Kept OIntR := ⟨fun _ _ _ _ _ h _ => h, fun _ _ _ _ h b hb => by rw [h.2] at hb; simp at hb, fun _ _ _ _ h => by rw [h.1]; rfl⟩

theorem ownsRow_keep {w w' : World} {base : Nat} {e : TypeId} {size : Nat} {v : Value} {n : Nat} {us : List Value} (h : w.ownsRow base e size v n us) (hk : ∀ b, v.ownBlock = some b → w'.heap[b]? = w.heap[b]?) : w'.ownsRow base e size v n us := by
  obtain ⟨h1, h2⟩ := h
  refine ⟨h1, h2.imp id ?_⟩
  rintro ⟨g, cap, cur, rfl, hg, hh, r⟩
  exact ⟨g, cap, cur, rfl, hg, (hk g rfl).trans hh, r⟩

theorem OwnOf.kept {α : Type} {e : TypeId} {R : OwnRel α} (hR : Kept R) : Kept (OwnOf e R) := by
  refine ⟨?_, ?_, ?_⟩
  · rintro w w' v xs F ⟨us, Fs, ho, hl, hr, rfl⟩ hk
    refine ⟨us, Fs, ownsRow_keep ho fun b hb => hk b (by simp [hb]), hl, fun i u x G hu hx hG => hR.keep _ _ _ _ _ (hr i u x G hu hx hG) fun b hb => hk b ?_, rfl⟩
    exact List.mem_append_right _ (List.mem_flatten_of_mem (List.mem_of_getElem? hG) hb)
  · rintro w v xs F ⟨us, Fs, ho, hl, hr, rfl⟩ b hb
    rcases List.mem_append.1 hb with hb | hb
    · simp at hb
      exact (ho.lt b hb).2
    · obtain ⟨G, hG, hb⟩ := List.mem_flatten.1 hb
      obtain ⟨i, hi⟩ := List.getElem?_of_mem hG
      have hi1 : i < Fs.length := (List.getElem?_eq_some_iff.1 hi).1
      have hul : us.length = xs.length := by simpa using ho.1
      exact hR.lt _ _ _ _ (hr i us[i] xs[i] G (List.getElem?_eq_getElem (by omega)) (List.getElem?_eq_getElem (by omega)) hi) b hb
  · rintro w v xs F ⟨us, Fs, ho, hl, hr, rfl⟩
    rcases ho.2 with ⟨rfl, _⟩ | ⟨g, cap, cur, rfl, _⟩ <;> rfl

/-- Blocks of the call's own, each once. -/
def Fresh (lo : Nat) (F : List Nat) : Prop := F.Nodup ∧ ∀ b, b ∈ F → lo ≤ b

def New {α : Type} (R : OwnRel α) (lo : Nat) (w : World) (v : Value) (x : α) : Prop := ∃ F, R w v x F ∧ Fresh lo F

theorem New.keep {α : Type} {R : OwnRel α} (hR : Kept R) {lo B : Nat} {w w' : World} {v : Value} {x : α} (h : New R lo w v x) (hb : Below B w w') (hB : w.heap.size ≤ B) : New R lo w' v x := by
  obtain ⟨F, hF, hf⟩ := h
  exact ⟨F, hR.keep _ _ _ _ _ hF fun b hb' => hb.block b (Nat.lt_of_lt_of_le (hR.lt _ _ _ _ hF b hb') hB), hf⟩

theorem New.mono {α : Type} {R : OwnRel α} {lo lo' : Nat} {w : World} {v : Value} {x : α} (h : New R lo w v x) (hl : lo' ≤ lo) : New R lo' w v x := by
  obtain ⟨F, hF, h1, h2⟩ := h
  exact ⟨F, hF, h1, fun b hb => Nat.le_trans hl (h2 b hb)⟩

abbrev OInts (e : TypeId) : OwnRel (List Int) := OwnOf e OIntR
abbrev OTab (eI eR : TypeId) : OwnRel (List (List Int)) := OwnOf eR (OInts eI)
theorem OInts.kept (e : TypeId) : Kept (OInts e) := OwnOf.kept OIntR.kept
theorem OTab.kept (eI eR : TypeId) : Kept (OTab eI eR) := OwnOf.kept (OInts.kept eI)
/-- What is owned reads. -/
theorem OwnOf.reads {α : Type} {e : TypeId} {R : OwnRel α} {R' : World → Value → α → Prop} (hR : ∀ w v x F, R w v x F → R' w v x) {w : World} {v : Value} {xs : List α} {F : List Nat} (h : OwnOf e R w v xs F) : SlOf R' w v xs := by
  obtain ⟨us, Fs, ho, hl, hr, rfl⟩ := h
  have hul : us.length = xs.length := by simpa using ho.1
  refine ⟨us, ?_, hul, fun i u x hu hx => ?_⟩
  · rcases ho.2 with ⟨rfl, h0⟩ | ⟨g, cap, cur, rfl, _, hg, hnc, hcm, hcs, htake⟩
    · exact ⟨by omega, none, 0, by rw [hul, h0], by omega, by omega, fun _ => rfl, Or.inl (List.eq_nil_of_length_eq_zero (by omega))⟩
    · have hcm' : cap ≤ 9223372036854775807 := hcm
      refine ⟨by omega, _, cap, by rw [hul], by omega, hcm', by simp, Or.inr ⟨g, 0, rfl, ?_, fun i u hu => ?_⟩⟩
      · exact (ho.lt g rfl).2
      · have := ho.cells (g := g) rfl i u hu
        cases i <;> simpa [Addr.add] using this
  · have hi : i < Fs.length := by rw [hl]; exact (List.getElem?_eq_some_iff.1 hx).1
    exact hR _ _ _ _ (hr i u x Fs[i] hu hx (List.getElem?_eq_getElem hi))

theorem OInts.reads {e : TypeId} {w : World} {v : Value} {xs : List Int} {F : List Nat} (h : OInts e w v xs F) : Ints w v xs := OwnOf.reads (fun _ _ _ _ h => h.1) h
theorem OTab.reads {eI eR : TypeId} {w : World} {v : Value} {xs : List (List Int)} {F : List Nat} (h : OTab eI eR w v xs F) : Tab w v xs := OwnOf.reads (fun _ _ _ _ h => OInts.reads h) h
theorem New.ints {e : TypeId} {lo : Nat} {w : World} {v : Value} {xs : List Int} (h : New (OInts e) lo w v xs) : Ints w v xs := by obtain ⟨F, h, _⟩ := h; exact h.reads
theorem New.tab {eI eR : TypeId} {lo : Nat} {w : World} {v : Value} {xs : List (List Int)} (h : New (OTab eI eR) lo w v xs) : Tab w v xs := by obtain ⟨F, h, _⟩ := h; exact h.reads
/-- An append at the operation, its run known; a guard that says yes does no harm. -/
theorem wpl_append_run {P : Program} {w : World} {ops : Array Oper} {rest : List Oper} {o : Oper} {a : Act} {Q : Exit → Act → World → Prop} (hw : Region.wanted o (yielded ops a.tmps) = true) (s x : Operand) (t : TypeId)
    (ho : o.op = .call { callee := .builtin .append, args := #[s, x], argTypes := #[t, t] }) {v v2 v' : Value} {w' : World} (hs : a.eval s = v) (hx : a.eval x = v2)
    (hr : (Builtin.append_ #[t, t] o.type #[v, v2]).run P w = .ok v' w') (h : wpList P ops Q rest (a.put o.dst v') w') : wpList P ops Q (o :: rest) a w := by
  refine BigFrame.wpList_want hw fun K hK => ?_
  unfold Oper.wp execOp
  simp only [ho, resolve, invoke, builtin, Sem.run_bind, Sem.run_pure, Result.andThen_ok, List.map_toArray, List.map_cons, List.map_nil, hs, hx, hr]
  exact hK _ _ h

/-! ### append of one element -/

theorem New.nil {α : Type} {e : TypeId} {R : OwnRel α} (lo : Nat) (w : World) : New (OwnOf e R) lo w (.slice none 0 0) [] :=
  ⟨[], ⟨[], [], World.ownsRow_nil _ _ _ _, rfl, by simp, by simp [Value.ownBlock]⟩, by simp [Fresh]⟩

/-- The empty slice literal: a new block without cells. -/
theorem New.empty {α : Type} {e : TypeId} {R : OwnRel α} {lo : Nat} (w : World) (h : lo ≤ w.heap.size) : New (OwnOf e R) lo (w.alloc (.cells #[] e)) (.slice (some ⟨w.heap.size, 0, none⟩) 0 0) [] :=
  ⟨[w.heap.size], ⟨[], [], World.ownsRow_made (base := 0) (size := 1) w #[] 0 (Nat.zero_le _) (by simp [maxLen]) (by simp), rfl, by simp, by simp [Value.ownBlock]⟩, by simp [Fresh]; omega⟩

theorem _root_.Go.RowKit.Below.of_grown {lo : Nat} {w w' : World} {row : Option Nat} (h : w.grownBy w' row) (hl : lo ≤ w.heap.size) (hr : ∀ k, row = some k → lo ≤ k) : Below lo w w' := (Below.refl lo w).grown h hl hr

section
variable {P : Program} {w : World} {ops : Array Oper} {rest : List Oper} {o : Oper} {a : Act} {Q : Exit → Act → World → Prop}

/-- 'append(v, u)' where v is a slice of the call's own, as it stood in an earlier world w0, and u is an element made since. -/
theorem wpl_push {α : Type} {R : OwnRel α} (hR : Kept R) (hgd : Region.wanted o (yielded ops a.tmps) = true) (s x : Operand) (t : TypeId)
    (ho : o.op = .call { callee := .builtin .append, args := #[s, x], argTypes := #[t, t] })
    (e : TypeId) (z : Value) (bytes : Nat) (ht : P.underlying t = some (.slice e)) (hinfo : (P.info? e).map (fun i => (i.zero, i.size, i.bytes)) = some (some z, 1, bytes)) (hz1 : z.cells = #[z])
    {w0 : World} {lo : Nat} {v : Value} {xs : List α} (h0 : New (OwnOf e R) lo w0 v xs) (hlo : lo ≤ w0.heap.size) (hb : Below w0.heap.size w0 w)
    {u : Value} {y : α} (hu : New R w0.heap.size w u y) {bb : Nat} {c : Nat} (hcell : w.cell? ⟨bb, 0, none⟩ = some u)
    (hs : a.eval s = v) (hx : a.eval x = .slice (some ⟨bb, 0, none⟩) 1 c)
    (hbytes : (xs.length + 1) * bytes ≤ 140737488355328) (h63 : xs.length + 1 ≤ 9223372036854775807)
    (h : ∀ v' w', New (OwnOf e R) lo w' v' (xs ++ [y]) → w.grownBy w' v.ownBlock → (∀ k, v.ownBlock = some k → lo ≤ k ∧ k < w0.heap.size) → Below lo w0 w' → wpList P ops Q rest (a.put o.dst v') w') :
    wpList P ops Q (o :: rest) a w := by
  obtain ⟨i, hi, hzz⟩ := Option.map_eq_some_iff.1 hinfo
  simp only [Prod.mk.injEq] at hzz
  obtain ⟨hz, hsz, hby⟩ := hzz
  obtain ⟨F, ⟨us, Fs, how, hl, hr, rfl⟩, hnd, hge⟩ := h0
  obtain ⟨G, hG, hGn, hGe⟩ := hu
  have hul : us.length = xs.length := by simpa using how.1
  have hvlt : ∀ k, v.ownBlock = some k → lo ≤ k ∧ k < w0.heap.size := fun k hk => ⟨hge k (by simp [hk]), (how.lt k hk).2⟩
  have how1 : w.ownsRow 0 e 1 v xs.length us := ownsRow_keep how fun b hb' => hb.block b (hvlt b hb').2
  obtain ⟨v', w', hrun, how', hg, _, hat⟩ := run_append_own_at (P := P) w 0 t o.type e i z 1 bytes ht hi hz hsz hby (by rw [hz1]; rfl) (by decide) v xs.length us how1 ⟨bb, 0, none⟩ 1 c [u] (by simp)
    (by
      intro j u' hj
      match j, hj with
      | 0, hj =>
        simp at hj
        subst hj
        simpa [Addr.add] using hcell)
    (by
      intro u' hu'
      simp at hu'
      subst hu'
      exact hR.one _ _ _ _ hG) h63 hbytes (Nat.zero_le _)
  refine wpl_append_run hgd s x t ho hs hx hrun ?_
  have hlt0 : ∀ b, b ∈ Fs.flatten → b < w0.heap.size := fun b hb' => by
    obtain ⟨H, hH, hb2⟩ := List.mem_flatten.1 hb'
    obtain ⟨j, hj⟩ := List.getElem?_of_mem hH
    have hj1 : j < Fs.length := (List.getElem?_eq_some_iff.1 hj).1
    exact hR.lt _ _ _ _ (hr j us[j] xs[j] H (List.getElem?_eq_getElem (by omega)) (List.getElem?_eq_getElem (by omega)) hj) b hb2
  have hsize := hb.size
  have hGlt : ∀ b, b ∈ G → b < w.heap.size := hR.lt _ _ _ _ hG
  have hnd' := List.nodup_append.1 hnd
  have hnv : ∀ k, v.ownBlock = some k → k ∉ Fs.flatten := fun k hk hm => hnd'.2.2 k (by simp [hk]) k hm rfl
  refine h v' w' ⟨v'.ownBlock.toList ++ (Fs ++ [G]).flatten, ⟨us ++ [u], Fs ++ [G], by simpa using how', by simp [hl], ?_, rfl⟩, ?_, ?_⟩ hg hvlt ?_
  · intro j u' x' G' hu' hx' hG'
    by_cases hj : j < xs.length
    · rw [List.getElem?_append_left (by omega)] at hu' hx' hG'
      refine hR.keep _ _ _ _ _ (hr j u' x' G' hu' hx' hG') fun b hb' => ?_
      have hm : b ∈ Fs.flatten := List.mem_flatten_of_mem (List.mem_of_getElem? hG') hb'
      have h1 := hlt0 b hm
      rw [hg.block b (by omega) (fun e => hnv b e.symm hm), hb.block b h1]
    · have hj2 : j = xs.length := by
        have := (List.getElem?_eq_some_iff.1 hx').1
        simp at this; omega
      subst hj2
      rw [List.getElem?_append_right (by omega)] at hu' hx' hG'
      simp [hul, hl] at hu' hx' hG'
      subst hu' hx' hG'
      refine hR.keep _ _ _ _ _ hG fun b hb' => hg.block b (hGlt b hb') fun e => ?_
      have := hvlt b e.symm
      have := hGe b hb'
      omega
  · simp only [List.flatten_append, List.flatten_cons, List.flatten_nil, List.append_nil]
    refine List.nodup_append.2 ⟨by cases v'.ownBlock <;> simp, List.nodup_append.2 ⟨hnd'.2.1, hGn, ?_⟩, ?_⟩
    · intro p hp q hq e
      subst e
      have := hlt0 p hp
      have := hGe p hq
      omega
    · intro p hp q hq e
      subst e
      simp at hp
      rcases hat with hat | hat
      · rw [hat] at hp
        rcases List.mem_append.1 hq with hq | hq
        · exact hnv p hp hq
        · have := hvlt p hp
          have := hGe p hq
          omega
      · rw [hat] at hp
        simp at hp
        rcases List.mem_append.1 hq with hq | hq
        · have := hlt0 p hq; omega
        · have := hGlt p hq; omega
  · intro b hb'
    rcases List.mem_append.1 hb' with hb' | hb'
    · simp at hb'
      rcases hat with hat | hat
      · rw [hat] at hb'; exact (hvlt b hb').1
      · rw [hat] at hb'; simp at hb'; omega
    · simp at hb'
      rcases hb' with ⟨H, hH, hb'⟩ | hb'
      · exact hge b (by simp; exact Or.inr ⟨H, hH, hb'⟩)
      · have := hGe b hb'; omega
  · exact (hb.mono hlo).grown hg (by omega) (fun k hk => (hvlt k hk).1)
end

/-! ### append of a whole slice of plain values -/

section
variable {P : Program} {w : World} {ops : Array Oper} {rest : List Oper} {o : Oper} {a : Act} {Q : Exit → Act → World → Prop}

theorem wpList_append_none (hgd : Region.wanted o (yielded ops a.tmps) = true) (s x : Operand) (t : TypeId)
    (ho : o.op = .call { callee := .builtin .append, args := #[s, x], argTypes := #[t, t] })
    (base : Nat) (e : TypeId) (i : TypeInfo) (size : Nat) (ht : P.underlying t = some (.slice e)) (hi : P.info? e = some i)
    (v : Value) (n : Nat) (xs : List Value) (hs : a.eval s = v) (hown : w.ownsRow base e size v n xs) (hx : a.eval x = .slice none 0 0)
    (h : wpList P ops Q rest (a.put o.dst v) w) : wpList P ops Q (o :: rest) a w :=
  wpl_append_run hgd s x t ho hs hx (run_append_owned_none (P := P) w base t o.type e i size ht hi v n xs hown) h

theorem wpl_append_vals {α : Type} {f : α → Value} (hf : ∀ x, (f x).oneCell' = true) (hgd : Region.wanted o (yielded ops a.tmps) = true) (s x : Operand) (t : TypeId)
    (ho : o.op = .call { callee := .builtin .append, args := #[s, x], argTypes := #[t, t] })
    (e : TypeId) (z : Value) (bytes : Nat) (ht : P.underlying t = some (.slice e)) (hinfo : (P.info? e).map (fun i => (i.zero, i.size, i.bytes)) = some (some z, 1, bytes)) (hz1 : z.cells = #[z])
    {lo : Nat} {v : Value} {ys : List α} (h0 : New (OwnOf e (OValR f)) lo w v ys) (hlo : lo ≤ w.heap.size)
    {v2 : Value} {xs : List α} (h2 : SlOf (ValR f) w v2 xs)
    (hs : a.eval s = v) (hx : a.eval x = v2)
    (hbytes : (ys.length + xs.length) * bytes ≤ 140737488355328) (h63 : ys.length + xs.length ≤ 9223372036854775807)
    (h : ∀ v' w', New (OwnOf e (OValR f)) lo w' v' (ys ++ xs) → w.grownBy w' v.ownBlock → (∀ k, v.ownBlock = some k → lo ≤ k ∧ k < w.heap.size) → Below lo w w' → wpList P ops Q rest (a.put o.dst v') w') :
    wpList P ops Q (o :: rest) a w := by
  obtain ⟨i, hi, hzz⟩ := Option.map_eq_some_iff.1 hinfo
  simp only [Prod.mk.injEq] at hzz
  obtain ⟨hz, hsz, hby⟩ := hzz
  have h0' := h0
  obtain ⟨F, ⟨us, Fs, how, hl, hr, rfl⟩, hnd, hge⟩ := h0
  have hul : us.length = ys.length := by simpa using how.1
  have hvlt : ∀ k, v.ownBlock = some k → lo ≤ k ∧ k < w.heap.size := fun k hk => ⟨hge k (by simp [hk]), (how.lt k hk).2⟩
  obtain ⟨vs, hsl, hvl, hvr⟩ := h2
  have hvs : vs = xs.map f := by
    apply List.ext_getElem?
    intro j
    by_cases hj : j < xs.length
    · rw [List.getElem?_map, List.getElem?_eq_getElem hj, List.getElem?_eq_getElem (by omega)]
      exact congrArg some (hvr j _ _ (List.getElem?_eq_getElem (by omega)) (List.getElem?_eq_getElem hj))
    · rw [List.getElem?_eq_none (by omega), List.getElem?_eq_none (by simp; omega)]
  subst hvs
  obtain ⟨_, ad, c, hv2, _, _, hn, hcells⟩ := hsl
  simp only [List.length_map] at hv2
  have key : ∀ (ad : Addr), (∀ (j : Nat) (u : Value), (xs.map f)[j]? = some u → w.cell? (ad.add j) = some u) → v2 = .slice (some ad) xs.length c → wpList P ops Q (o :: rest) a w := by
    intro ad had hv2'
    obtain ⟨v', w', hrun, how', hg, _, hat⟩ := run_append_own_at (P := P) w 0 t o.type e i z 1 bytes ht hi hz hsz hby (by rw [hz1]; rfl) (by decide) v ys.length us how ad xs.length c (xs.map f) (by simp) had
      (by
        intro u hu
        obtain ⟨y, _, rfl⟩ := List.mem_map.1 hu
        exact hf y) h63 hbytes (Nat.zero_le _)
    refine wpl_append_run hgd s x t ho hs (by rw [hx, hv2']) hrun ?_
    have hFs : ∀ G, G ∈ Fs → G = [] := fun G hG => by
      obtain ⟨j, hj⟩ := List.getElem?_of_mem hG
      have hj1 : j < Fs.length := (List.getElem?_eq_some_iff.1 hj).1
      exact (hr j us[j] ys[j] G (List.getElem?_eq_getElem (by omega)) (List.getElem?_eq_getElem (by omega)) hj).2
    have hfl : (Fs ++ List.replicate xs.length []).flatten = [] := by
      rw [List.flatten_eq_nil_iff]
      intro G hG
      rcases List.mem_append.1 hG with hG | hG
      · exact hFs G hG
      · exact (List.mem_replicate.1 hG).2
    refine h v' w' ⟨_, ⟨us ++ xs.map f, Fs ++ List.replicate xs.length [], by simpa using how', by simp [hl], ?_, rfl⟩, ?_, ?_⟩ hg hvlt (Below.of_grown hg hlo fun k hk => (hvlt k hk).1)
    · intro j u' x' G' hu' hx' hG'
      by_cases hj : j < ys.length
      · rw [List.getElem?_append_left (by omega)] at hu' hx' hG'
        exact hr j u' x' G' hu' hx' hG'
      · rw [List.getElem?_append_right (by omega)] at hu' hx' hG'
        rw [hul, List.getElem?_map, hx'] at hu'
        simp at hu'
        exact ⟨hu'.symm, (List.mem_replicate.1 (List.mem_of_getElem? hG')).2⟩
    · rw [hfl]
      cases v'.ownBlock <;> simp
    · intro b hb
      rw [hfl] at hb
      simp at hb
      rcases hat with hat | hat
      · rw [hat] at hb; exact (hvlt b hb).1
      · rw [hat] at hb; simp at hb; omega
  cases ad with
  | none =>
    have hx0 : xs = [] := by
      rcases hcells with h | ⟨b, o, h, _⟩
      · simpa using h
      · cases h
    subst hx0
    have := hn rfl
    subst this
    refine wpList_append_none hgd s x t ho 0 e i 1 ht hi v _ us hs how (by rw [hx, hv2]; rfl) ?_
    exact h v w (by rw [List.append_nil]; exact h0') ⟨rfl, rfl, rfl, Nat.le_refl _, fun _ _ _ => rfl⟩ hvlt (Below.refl _ _)
  | some ad =>
    rcases hcells with hnil | ⟨b, o, had, _, hc⟩
    · exact key ad (by rw [hnil]; simp) hv2
    · cases had
      refine key _ (fun j u hj => ?_) hv2
      have := hc j u hj
      cases j <;> simpa [Addr.add] using this
end

/-! ### make -/

theorem New.made {α : Type} {R : OwnRel α} {lo : Nat} (e : TypeId) (w : World) (z : Value) (d : α) (n : Nat) (h : lo ≤ w.heap.size) (hn : n ≤ 9223372036854775807) (hz : ∀ w, R w z d []) :
    New (OwnOf e R) lo (w.alloc (.cells (madeCells #[z] n) e)) (.slice (some ⟨w.heap.size, 0, none⟩) n n) (List.replicate n d) := by
  have ho := World.ownsRow_lit (base := 0) (e := e) (size := 1) w (madeCells #[z] n) n (Nat.zero_le _) hn (by simp [size_madeCells])
  rw [toList_madeCells_one] at ho
  refine ⟨[w.heap.size], ⟨_, List.replicate n [], by simpa using ho, by simp, ?_, by simp [Value.ownBlock]⟩, by simp [Fresh]; omega⟩
  intro i u x G hu hx hG
  simp [List.getElem?_replicate] at hu hx hG
  obtain ⟨_, rfl⟩ := hu
  obtain ⟨_, rfl⟩ := hx
  obtain ⟨_, rfl⟩ := hG
  exact hz _

theorem OIntR.zero (w : World) : OIntR w (.int .i64 0) 0 [] := ⟨rfl, rfl⟩
theorem OwnOf.nil {α : Type} {e : TypeId} {R : OwnRel α} (w : World) : OwnOf e R w (.slice none 0 0) [] [] :=
  ⟨[], [], World.ownsRow_nil _ _ _ _, rfl, by simp, by simp [Value.ownBlock]⟩

theorem nodup_flatten {L : List (List Nat)} : L.flatten.Nodup ↔ (∀ l, l ∈ L → l.Nodup) ∧ L.Pairwise (fun l₁ l₂ => ∀ x, x ∈ l₁ → ∀ y, y ∈ l₂ → x ≠ y) := List.pairwise_flatten

/-! ### one element of what is owned -/

/-- Only the blocks F may hold something else. -/
structure Off (F : List Nat) (w w' : World) : Prop where
  os : w'.os = w.os
  tape : w'.tape = w.tape
  output : w'.output = w.output
  size : w.heap.size ≤ w'.heap.size
  block : ∀ b, b < w.heap.size → b ∉ F → w'.heap[b]? = w.heap[b]?

theorem Off.trans {F : List Nat} {a b c : World} (h : Off F a b) (k : Off F b c) : Off F a c :=
  ⟨k.os.trans h.os, k.tape.trans h.tape, k.output.trans h.output, Nat.le_trans h.size k.size, fun i hi hf => (k.block i (Nat.lt_of_lt_of_le hi h.size) hf).trans (h.block i hi hf)⟩
theorem Off.setCell {F : List Nat} {w : World} {p : Addr} (hp : p.block ∈ F) (u : Value) : Off F w (w.setCell p u) :=
  ⟨rfl, rfl, rfl, by simp [World.setCell], fun b _ hf => Below.heap_setCell _ _ _ _ (fun e => hf (e ▸ hp))⟩
/-- The value of an own slice that has an element; its element's cell. -/
theorem OwnOf.focus {α : Type} {e : TypeId} {R : OwnRel α} (hR : Kept R) {w : World} {v : Value} {xs : List α} {F : List Nat} (h : OwnOf e R w v xs F) (hn : F.Nodup) {i : Nat} {x : α} (hx : xs[i]? = some x) :
    ∃ b c u G, v = .slice (some ⟨b, 0, none⟩) xs.length c ∧ xs.length ≤ c ∧ b ∈ F ∧ b ∉ G ∧ w.cell? ⟨b, i, none⟩ = some u ∧ w.frozen? ⟨b, i, none⟩ = false ∧ R w u x G ∧ (∀ q, q ∈ G → q ∈ F) ∧ G.Nodup ∧
      (∀ w' y, R w' u y G → (∀ q, q ∈ F → q ∉ G → w'.heap[q]? = w.heap[q]?) → OwnOf e R w' v (xs.set i y) F) ∧
      (∀ w' u' y G', R w' u' y G' → b ∉ G' → (∀ q, q ∈ F → q ∉ G → w'.heap[q]? = w.heap[q]?) → ∃ F', OwnOf e R (w'.setCell ⟨b, i, none⟩ u') v (xs.set i y) F' ∧ (∀ q, q ∈ F' → q ∈ F ∨ q ∈ G') ∧ (G'.Nodup → (∀ q, q ∈ G' → q ∈ F → q ∈ G) → F'.Nodup) ∧ (G' = G → F' = F)) := by
  obtain ⟨us, Fs, ho, hl, hr, rfl⟩ := h
  have hul : us.length = xs.length := by simpa using ho.1
  have hi : i < xs.length := (List.getElem?_eq_some_iff.1 hx).1
  rcases ho.2 with ⟨rfl, h0⟩ | ⟨b, cap, cur, rfl, _, hg, hnc, hcm, hcs, htake⟩
  · omega
  have hFi : Fs[i]? = some Fs[i] := List.getElem?_eq_getElem (by omega)
  have hui : us[i]? = some us[i] := List.getElem?_eq_getElem (by omega)
  have hmemG : ∀ q, q ∈ Fs[i] → q ∈ Fs.flatten := fun q hq => List.mem_flatten_of_mem (List.mem_of_getElem? hFi) hq
  have hnd := List.nodup_append.1 hn
  have hb : ∀ q, q ∈ Fs.flatten → q ≠ b := fun q hq e => hnd.2.2 b (by simp [Value.ownBlock]) q hq e.symm
  have hdisj : ∀ (j : Nat) (G : List Nat) (q : Nat), Fs[j]? = some G → q ∈ G → q ∈ Fs[i] → j = i := by
    intro j G q hG hq hq'
    have hp := (nodup_flatten.1 hnd.2.1).2
    rcases Nat.lt_trichotomy j i with hlt | he | hgt
    · have hj : j < Fs.length := by omega
      have := List.pairwise_iff_getElem.1 hp j i hj (by omega) hlt
      have e : Fs[j] = G := by rw [List.getElem?_eq_getElem hj] at hG; exact Option.some.inj hG
      exact absurd rfl (this q (e ▸ hq) q hq')
    · exact he
    · have hj : j < Fs.length := (List.getElem?_eq_some_iff.1 hG).1
      have := List.pairwise_iff_getElem.1 hp i j (by omega) hj hgt
      have e : Fs[j] = G := by rw [List.getElem?_eq_getElem hj] at hG; exact Option.some.inj hG
      exact absurd rfl (this q hq' q (e ▸ hq))
  refine ⟨b, cap, us[i], Fs[i], rfl, hnc, by simp [Value.ownBlock], fun hm => hb b (hmemG b hm) rfl, ?_, ?_, hr i _ x _ hui hx hFi, fun q hq => by simp; exact Or.inr (List.mem_flatten.1 (hmemG q hq)), (nodup_flatten.1 hnd.2.1).1 _ (List.mem_of_getElem? hFi), ?_, ?_⟩
  · rw [ho.cellAt i (by omega), hui]
  · exact ho.frozenAt i
  · intro w' y hy hk
    refine ⟨us, Fs, by simpa using ownsRow_keep ho fun q hq => hk q (by simp [hq]) fun hm => hb q (hmemG q hm) (by simp [Value.ownBlock] at hq; exact hq.symm), by simpa using hl, ?_, rfl⟩
    intro j u' x' G' hu' hx' hG'
    by_cases hj : j = i
    · subst hj
      rw [hui] at hu'
      rw [hFi] at hG'
      simp [hi] at hx'
      rw [← Option.some.inj hu', ← Option.some.inj hG', ← hx']
      exact hy
    · rw [List.getElem?_set_ne (Ne.symm hj)] at hx'
      refine hR.keep _ _ _ _ _ (hr j u' x' G' hu' hx' hG') fun q hq => hk q ?_ fun hm => hj (hdisj j G' q hG' hq hm)
      exact List.mem_append_right _ (List.mem_flatten_of_mem (List.mem_of_getElem? hG') hq)
  · intro w' u' y G' hy hbG hk
    have ho' : w'.ownsRow 0 e 1 (.slice (some ⟨b, 0, none⟩) xs.length cap) xs.length us := ownsRow_keep ho fun q hq => hk q (by simp [hq]) fun hm => hb q (hmemG q hm) (by simp [Value.ownBlock] at hq; exact hq.symm)
    have hst := (ho'.stored i u').1
    have hmem : ∀ q, q ∈ (Fs.set i G').flatten → q ∈ Fs.flatten ∨ q ∈ G' := by
      intro q hq
      obtain ⟨G, hG, hq⟩ := List.mem_flatten.1 hq
      rcases List.mem_or_eq_of_mem_set hG with hG | e
      · exact Or.inl (List.mem_flatten_of_mem hG hq)
      · exact Or.inr (e ▸ hq)
    refine ⟨_, ⟨us.set i u', Fs.set i G', by simpa using hst, by simpa using hl, ?_, rfl⟩, ?_, ?_, fun e => by rw [e, List.set_getElem_self]⟩
    · intro j u2 x2 G2 hu2 hx2 hG2
      by_cases hj : j = i
      · subst hj
        simp [hi, hul, hl] at hu2 hx2 hG2
        subst hu2 hx2 hG2
        exact hR.keep _ _ _ _ _ hy fun q hq => Below.heap_setCell _ _ _ _ (fun e => hbG (by have e2 : q = b := e; exact e2 ▸ hq))
      · rw [List.getElem?_set_ne (Ne.symm hj)] at hu2 hx2 hG2
        have hm : ∀ q, q ∈ G2 → q ∈ Fs.flatten := fun q hq => List.mem_flatten_of_mem (List.mem_of_getElem? hG2) hq
        refine hR.keep _ _ _ _ _ (hr j u2 x2 G2 hu2 hx2 hG2) fun q hq => ?_
        rw [Below.heap_setCell _ _ _ _ (hb q (hm q hq)), hk q (by simp; exact Or.inr (List.mem_flatten.1 (hm q hq))) fun hm' => hj (hdisj j G2 q hG2 hq hm')]
    · intro q hq
      simp only [Value.ownBlock, Option.toList, List.cons_append, List.nil_append, List.mem_cons] at hq ⊢
      rcases hq with hq | hq
      · exact Or.inl (Or.inl hq)
      · exact (hmem q hq).imp Or.inr id
    · intro hGn hGd
      simp only [Value.ownBlock, Option.toList, List.cons_append, List.nil_append, List.nodup_cons]
      refine ⟨fun hm => (hmem b hm).elim (fun h => hb b h rfl) hbG, nodup_flatten.2 ⟨fun l hl2 => ?_, ?_⟩⟩
      · rcases List.mem_or_eq_of_mem_set hl2 with h | e
        · exact (nodup_flatten.1 hnd.2.1).1 l h
        · exact e ▸ hGn
      · have hp := (nodup_flatten.1 hnd.2.1).2
        rw [List.pairwise_iff_getElem] at hp ⊢
        intro j k hj hk' hjk p hp1 q hq1 e
        subst e
        simp at hj hk'
        by_cases hji : j = i
        · subst hji
          rw [List.getElem_set_self] at hp1
          rw [List.getElem_set_ne (by omega)] at hq1
          have := hGd p hp1 (by simp only [Value.ownBlock, Option.toList, List.cons_append, List.nil_append, List.mem_cons]; exact Or.inr (List.mem_flatten_of_mem (List.getElem_mem _) hq1))
          have := hdisj k _ p (List.getElem?_eq_getElem (by simpa using hk')) hq1 this
          omega
        · rw [List.getElem_set_ne (by omega)] at hp1
          by_cases hki : k = i
          · subst hki
            rw [List.getElem_set_self] at hq1
            have := hGd p hq1 (by simp only [Value.ownBlock, Option.toList, List.cons_append, List.nil_append, List.mem_cons]; exact Or.inr (List.mem_flatten_of_mem (List.getElem_mem _) hp1))
            have := hdisj j _ p (List.getElem?_eq_getElem (by simpa using hj)) hp1 this
            omega
          · rw [List.getElem_set_ne (by omega)] at hq1
            exact hp j k hj hk' hjk p hp1 p hq1 rfl

/-- A number of an own slice of numbers: its cell, and what a store leaves. -/
theorem New.int_at {e : TypeId} {lo : Nat} {w : World} {v : Value} {xs : List Int} (h : New (OInts e) lo w v xs) {i : Nat} {x : Int} (hx : xs[i]? = some x) :
    ∃ b c, v = .slice (some ⟨b, 0, none⟩) xs.length c ∧ xs.length ≤ c ∧ lo ≤ b ∧ b < w.heap.size ∧ w.cell? ⟨b, i, none⟩ = some (.int .i64 x) ∧ w.frozen? ⟨b, i, none⟩ = false ∧
      ∀ y, New (OInts e) lo (w.setCell ⟨b, i, none⟩ (.int .i64 y)) v (xs.set i y) := by
  obtain ⟨F, hF, hn, hge⟩ := h
  obtain ⟨b, c, u, G, hv, hc, hbF, hbG, hcell, hfr, ⟨rfl, rfl⟩, _, _, _, hst⟩ := hF.focus OIntR.kept hn hx
  refine ⟨b, c, hv, hc, hge b hbF, (OInts.kept e).lt _ _ _ _ hF b hbF, hcell, hfr, fun y => ?_⟩
  obtain ⟨F', hF', hsub, hn', _⟩ := hst w (.int .i64 y) y [] ⟨rfl, rfl⟩ (by simp) (fun _ _ _ => rfl)
  exact ⟨F', hF', hn' (by simp) (by simp), fun q hq => (hsub q hq).elim (hge q) (by simp)⟩

/-- An entry of an own table: its row's cell, its own cell, and what a store leaves. -/
theorem New.tab_at {eI eR : TypeId} {lo : Nat} {w : World} {v : Value} {m : List (List Int)} (h : New (OTab eI eR) lo w v m) {i j : Nat} {r : List Int} {x : Int} (hr : m[i]? = some r) (hx : r[j]? = some x) :
    ∃ b c rb rc, v = .slice (some ⟨b, 0, none⟩) m.length c ∧ m.length ≤ c ∧ lo ≤ b ∧ b < w.heap.size ∧ w.cell? ⟨b, i, none⟩ = some (.slice (some ⟨rb, 0, none⟩) r.length rc) ∧ r.length ≤ rc ∧ lo ≤ rb ∧ rb < w.heap.size ∧
      w.cell? ⟨rb, j, none⟩ = some (.int .i64 x) ∧ w.frozen? ⟨rb, j, none⟩ = false ∧ ∀ y, New (OTab eI eR) lo (w.setCell ⟨rb, j, none⟩ (.int .i64 y)) v (m.set i (r.set j y)) := by
  obtain ⟨F, hF, hn, hge⟩ := h
  have hlt := (OTab.kept eI eR).lt _ _ _ _ hF
  obtain ⟨b, c, u, G, hv, hc, hbF, hbG, hcell, _, hu, hGF, hGn, hst, _⟩ := hF.focus (OInts.kept eI) hn hr
  obtain ⟨rb, rc, u2, G2, rfl, hrc, hrb, _, hcell2, hfr2, ⟨rfl, rfl⟩, _, _, _, hst2⟩ := hu.focus OIntR.kept hGn hx
  refine ⟨b, c, rb, rc, hv, hc, hge b hbF, hlt b hbF, hcell, hrc, hge rb (hGF rb hrb), hlt rb (hGF rb hrb), hcell2, hfr2, fun y => ?_⟩
  obtain ⟨F', hF', _, _, e⟩ := hst2 w (.int .i64 y) y [] ⟨rfl, rfl⟩ (by simp) (fun _ _ _ => rfl)
  rw [e rfl] at hF'
  exact ⟨F, hst _ _ hF' (fun q hq hqG => Below.heap_setCell _ _ _ _ (fun e => hqG (by have e2 : q = rb := e; exact e2 ▸ hrb))), hn, hge⟩

/-- A call that makes memory and answers a bool besides. -/
def Makes2 {α : Type} (R : OwnRel α) (w : World) (x : α) (ok : Bool) (e : Ending) (w' : World) : Prop := ∃ r, e = .returned (.tuple #[r, .bool ok]) ∧ New R w.heap.size w' r x ∧ Below w.heap.size w w'

/-- A table's entry, by its indexes. -/
def ent (m : List (List Int)) (i j : Nat) : Int := (m.getD i []).getD j 0

/-- n rows of n numbers. -/
def Sq (n : Nat) (m : List (List Int)) : Prop := m.length = n ∧ ∀ r, r ∈ m → r.length = n

/-- A table of rows of one length that is not empty: where its entries lie. -/
theorem Tab.entries {w : World} {v : Value} {m : List (List Int)} {n l : Nat} (h : Tab w v m) (hn : m.length = n) (hr : ∀ r, r ∈ m → r.length = l) (h0 : 0 < n) :
    ∃ b o c, v = .slice (some ⟨b, o, none⟩) n c ∧ b < w.heap.size ∧ ∀ i, i < n → ∃ a' c', w.cell? ⟨b, o + i, none⟩ = some (.slice a' l c') ∧ Ints w (.slice a' l c') (m.getD i []) ∧ (0 < l → ∃ b' o', a' = some ⟨b', o', none⟩ ∧ b' < w.heap.size ∧ ∀ j, j < l → w.cell? ⟨b', o' + j, none⟩ = some (.int .i64 (ent m i j))) := by
  subst hn
  obtain ⟨a, c, rfl, _, _, hc⟩ := h.shape
  obtain ⟨b, o, rfl, hb, hx⟩ := hc h0
  refine ⟨b, o, c, rfl, hb, fun i hi => ?_⟩
  obtain ⟨r, hri, _⟩ := at_lt hi
  obtain ⟨u, hu, hru⟩ := hx i r hri
  have hrl := hr r (List.mem_of_getElem? hri)
  have hru' := hru
  have hg : m.getD i [] = r := by simp [List.getD, hri]
  obtain ⟨a', c', rfl, _, _, hc'⟩ := hru.shape
  rw [hrl] at hu hru'
  refine ⟨a', c', hu, by rw [hg]; exact hru', fun hl => ?_⟩
  obtain ⟨b', o', rfl, hb', hx'⟩ := hc' (by omega)
  refine ⟨b', o', rfl, hb', fun j hj => ?_⟩
  obtain ⟨x, hxj, _⟩ := at_lt (xs := r) (k := j) (by omega)
  obtain ⟨u2, hu2, rfl⟩ := hx' j x hxj
  rw [hu2, ent, hg]
  simp [List.getD, hxj]

/-- Where a table's entries lie, its address known. -/
def EntAt (w : World) (b o n l : Nat) (m : List (List Int)) : Prop :=
  ∀ i, i < n → ∃ a' c', w.cell? ⟨b, o + i, none⟩ = some (.slice a' l c') ∧ Ints w (.slice a' l c') (m.getD i []) ∧ (0 < l → ∃ b' o', a' = some ⟨b', o', none⟩ ∧ b' < w.heap.size ∧ ∀ j, j < l → w.cell? ⟨b', o' + j, none⟩ = some (.int .i64 (ent m i j)))

theorem Tab.entAt {w : World} {v : Value} {m : List (List Int)} {n l : Nat} (h : Tab w v m) (hn : m.length = n) (hr : ∀ r, r ∈ m → r.length = l) (h0 : 0 < n) :
    ∃ b o c, v = .slice (some ⟨b, o, none⟩) n c ∧ b < w.heap.size ∧ EntAt w b o n l m := Tab.entries h hn hr h0

/-- Row i, column j. -/
theorem EntAt.at {w : World} {b o n l : Nat} {m : List (List Int)} (h : EntAt w b o n l m) {i : Nat} (hi : i < n) (hl : 0 < l) :
    ∃ b' o' c', w.cell? ⟨b, o + i, none⟩ = some (.slice (some ⟨b', o', none⟩) l c') ∧ b' < w.heap.size ∧ Ints w (.slice (some ⟨b', o', none⟩) l c') (m.getD i []) ∧ ∀ j, j < l → w.cell? ⟨b', o' + j, none⟩ = some (.int .i64 (ent m i j)) := by
  obtain ⟨a', c', h1, h2, h3⟩ := h i hi
  obtain ⟨b', o', rfl, h4, h5⟩ := h3 hl
  exact ⟨b', o', c', h1, h4, h2, h5⟩

/-- What a call that only makes memory leaves. -/
def Makes {α : Type} (R : OwnRel α) (w : World) (x : α) (e : Ending) (w' : World) : Prop := ∃ r, e = .returned r ∧ New R w.heap.size w' r x ∧ Below w.heap.size w w'

theorem New.slice {α : Type} {e : TypeId} {R : OwnRel α} {lo : Nat} {w : World} {v : Value} {xs : List α} (h : New (OwnOf e R) lo w v xs) : ∃ a n c, v = .slice a n c := by
  obtain ⟨F, ⟨us, Fs, ho, _⟩, _⟩ := h
  rcases ho.2 with ⟨rfl, _⟩ | ⟨g, cap, cur, rfl, _⟩
  · exact ⟨_, _, _, rfl⟩
  · exact ⟨_, _, _, rfl⟩

/-- The world has drawn, no more. -/
def Drawn (w w' : World) : Prop := ∃ n, w' = w.drewN n
theorem Drawn.refl (w : World) : Drawn w w := ⟨0, rfl⟩
theorem Drawn.trans {a b c : World} (h : Drawn a b) (k : Drawn b c) : Drawn a c := by
  obtain ⟨n, rfl⟩ := h
  obtain ⟨m, rfl⟩ := k
  exact ⟨_, World.drewN_drewN _ _ _⟩
theorem Drawn.drewN {a b : World} (h : Drawn a b) (n : Nat) : Drawn a (b.drewN n) := h.trans ⟨n, rfl⟩
theorem Drawn.cell {w w' : World} (h : Drawn w w') (p : Addr) : w'.cell? p = w.cell? p := by obtain ⟨n, rfl⟩ := h; rfl
theorem Drawn.below {w w' : World} (h : Drawn w w') (B : Nat) : Below B w w' := by obtain ⟨n, rfl⟩ := h; exact below_drewN (Below.refl _ _) n
theorem Drawn.read {α : Type} {R : World → Value → α → Prop} (hR : Framed R) {w w' : World} {v : Value} {x : α} (h : Drawn w w') (hr : R w v x) : R w' v x := hR _ _ _ _ hr (h.below _)

/-- A call that only reads, and may draw. -/
def Reads (w : World) (r : Value) (e : Ending) (w' : World) : Prop := e = .returned r ∧ Drawn w w'

theorem Reads.quiet {P : Program} {f : FuncId} {args : Array Value} {w : World} {n : Nat} {r : Value} (h : Calls P f args (w.drewN n) (Reads (w.drewN n) r)) : Calls P f args (w.drewN n) fun e w'' => e = .returned r ∧ ∃ m, w'' = w.drewN m :=
  Calls.quiet_of h

end Go.Sd
end

section
namespace Go.Proofs.YtcilgihmaaobeaaDoor
open Go.RowKit Go.Deep Go.Sd

theorem infoI : (Tryd.prog.info? 3).map (fun i => (i.zero, i.size, i.bytes)) = some (some (.int .i64 0), 1, 8) := by kernel_rfl
theorem infoR : (Tryd.prog.info? 47).map (fun i => (i.zero, i.size, i.bytes)) = some (some (.slice none 0 0), 1, 24) := by kernel_rfl

/-! ### equality -/

/-! ### copies -/

/-! ### marks -/

/-! ### held -/


end Go.Proofs.YtcilgihmaaobeaaDoor
end

section
namespace Go.Sd
open Go.RowKit Go.Deep

/-- What a footprint is good for. -/
structure Held {α : Type} (R : OwnRel α) : Prop where
  keep : ∀ w w' v x F, R w v x F → (∀ b, b ∈ F → w'.heap[b]? = w.heap[b]?) → R w' v x F
  lt : ∀ w v x F, R w v x F → ∀ b, b ∈ F → b < w.heap.size
theorem Kept.held {α : Type} {R : OwnRel α} (h : Kept R) : Held R := ⟨h.keep, h.lt⟩

/-- Own memory in the blocks from lo up to hi. -/
def NewIn {α : Type} (R : OwnRel α) (lo hi : Nat) (w : World) (v : Value) (x : α) : Prop := ∃ F, R w v x F ∧ F.Nodup ∧ ∀ b, b ∈ F → lo ≤ b ∧ b < hi

theorem New.inn {α : Type} {R : OwnRel α} (hR : Held R) {lo : Nat} {w : World} {v : Value} {x : α} (h : New R lo w v x) : NewIn R lo w.heap.size w v x := by
  obtain ⟨F, hF, hn, hge⟩ := h
  exact ⟨F, hF, hn, fun b hb => ⟨hge b hb, hR.lt _ _ _ _ hF b hb⟩⟩

theorem NewIn.new {α : Type} {R : OwnRel α} {lo hi : Nat} {w : World} {v : Value} {x : α} (h : NewIn R lo hi w v x) : New R lo w v x := by
  obtain ⟨F, hF, hn, hge⟩ := h
  exact ⟨F, hF, hn, fun b hb => (hge b hb).1⟩

theorem NewIn.keep {α : Type} {R : OwnRel α} (hR : Held R) {lo hi B : Nat} {w w' : World} {v : Value} {x : α} (h : NewIn R lo hi w v x) (hb : Below B w w') (hB : hi ≤ B) : NewIn R lo hi w' v x := by
  obtain ⟨F, hF, hn, hge⟩ := h
  exact ⟨F, hR.keep _ _ _ _ _ hF fun b hb' => hb.block b (by have := hge b hb'; omega), hn, hge⟩

end Go.Sd
namespace Go.Proofs.YtcilgihmaaobeaaDoor
open Go.RowKit Go.Deep Go.Sd

end Go.Proofs.YtcilgihmaaobeaaDoor
end

section
namespace Go.Sd
open Go.RowKit Go.Deep

theorem boxA_ex (w : World) (ty : TypeId) (v1 v2 : Value) : ∃ w', w.alloc (.cells #[v1, v2] ty) = w' ∧ Below w.heap.size w w' ∧ w'.cell? ⟨w.heap.size, 0, none⟩ = some v1 ∧ w'.cell? ⟨w.heap.size, 1, none⟩ = some v2 ∧ w.heap.size < w'.heap.size :=
  ⟨_, rfl, (Below.refl w.heap.size w).alloc (Nat.le_refl _) _, by simp, by simp, by simp⟩
end Go.Sd
end

section
namespace Go.Sd
open Go.ChangeShapes Go.WideShapes Go.ChangeAt Go.RowKit Go.Deep

def I64 (x : Int) : Prop := -9223372036854775808 ≤ x ∧ x ≤ 9223372036854775807
section
variable {H : Type} {enc : TypeId × Value → H} {P : Program} {W : World} {base : Nat}

theorem Sl.mk' {w : World} {a : Option Addr} {len cap : Nat} {us : List Value} (hu : us.length = len) (hl : len ≤ cap) (hm : cap ≤ 9223372036854775807) (hc : ∀ a', a = some a' → ∀ (i : Nat) (u : Value), us[i]? = some u → w.cell? (a'.add i) = some u) (hn0 : a = none → cap = 0) : Sl w (.slice a len cap) us := by
  subst hu
  refine ⟨by omega, a, cap, rfl, hl, hm, hn0, ?_⟩
  by_cases h0 : us.length = 0
  · exact Or.inl (List.eq_nil_of_length_eq_zero h0)
  · right
    cases a with
    | none => have := hn0 rfl; omega
    | some a' =>
      obtain ⟨b, o, sp⟩ := a'
      have h1 := hc _ rfl 0 us[0] (List.getElem?_eq_getElem (by omega))
      have hs : sp = none := by simpa [Addr.add] using World.cell?_spot h1
      subst hs
      refine ⟨b, o, rfl, World.block_lt_of_cell? w ⟨b, o, none⟩ (by simpa [Addr.add] using h1), fun i u hi => ?_⟩
      have := hc _ rfl i u hi
      cases i <;> simpa [Addr.add] using this

end
end Go.Sd
end

section
namespace Go.Sd
open Go.RowKit Go.Deep Go.Joins Go.ChangeShapes Go.WideShapes Go.ChangeAt

abbrev Arc3 := Int × Int × Int
abbrev Lb := Int × Int × List Arc3
/-- v is a slice of structs of three numbers. -/
def ArcsR (w : World) (v : Value) (xs : List Arc3) : Prop :=
  xs.length ≤ 9223372036854775807 ∧ ∃ a c, v = .slice a xs.length c ∧ xs.length ≤ c ∧ c ≤ 9223372036854775807 ∧ (a = none → c = 0) ∧
    (0 < xs.length → ∃ b o, a = some ⟨b, o, none⟩ ∧ b < w.heap.size ∧ ∀ i x, xs[i]? = some x → w.cell? ⟨b, o + i * 3, none⟩ = some (.int .i64 x.1) ∧ w.cell? ⟨b, o + i * 3 + 1, none⟩ = some (.int .i64 x.2.1) ∧ w.cell? ⟨b, o + i * 3 + 2, none⟩ = some (.int .i64 x.2.2))
theorem ArcsR.frame : Framed ArcsR := by
  intro w w' v xs h hb
  obtain ⟨h1, a, c, rfl, h2, h3, h4, h5⟩ := h
  refine ⟨h1, a, c, rfl, h2, h3, h4, fun h0 => ?_⟩
  obtain ⟨b, o, rfl, hlt, hx⟩ := h5 h0
  refine ⟨b, o, rfl, Nat.lt_of_lt_of_le hlt hb.size, fun i x hi => ?_⟩
  obtain ⟨c0, c1, c2⟩ := hx i x hi
  exact ⟨(hb.cell (p := ⟨b, o + i * 3, none⟩) hlt).trans c0, (hb.cell (p := ⟨b, o + i * 3 + 1, none⟩) hlt).trans c1, (hb.cell (p := ⟨b, o + i * 3 + 2, none⟩) hlt).trans c2⟩
def LabR (w : World) (v : Value) (l : Lb) : Prop := ∃ va, v = .agg #[.int .i64 l.1, .int .i64 l.2.1, va] ∧ ArcsR w va l.2.2
theorem LabR.frame : Framed LabR := fun _ _ _ _ ⟨va, e, h⟩ hb => ⟨va, e, ArcsR.frame _ _ _ _ h hb⟩

/-- n numbers in a block, as a function gives them. -/
def CellsI (w : World) (B m : Nat) (f : Nat → Int) : Prop := ∀ j, j < m → w.cell? ⟨B, j, none⟩ = some (.int .i64 (f j)) ∧ w.frozen? ⟨B, j, none⟩ = false
theorem CellsI.set {w : World} {B m : Nat} {f : Nat → Int} (h : CellsI w B m f) {j : Nat} (hj : j < m) (y : Int) : CellsI (w.setCell ⟨B, j, none⟩ (.int .i64 y)) B m (fun i => if i = j then y else f i) := by
  intro i hi
  refine ⟨?_, (World.frozen?_setCell _ _ _ _).trans (h i hi).2⟩
  by_cases e : i = j
  · subst e
    show _ = some (Value.int .i64 (if i = i then y else f i))
    rw [if_pos rfl]
    exact World.cell?_setCell_same _ _ _ (h i hi).1
  · show _ = some (Value.int .i64 (if i = j then y else f i))
    rw [if_neg e]
    exact (World.cell?_setCell_other _ _ _ _ (by simp <;> omega)).trans (h i hi).1
theorem CellsI.congr {w : World} {B m : Nat} {f g : Nat → Int} (h : CellsI w B m f) (e : ∀ j, j < m → f j = g j) : CellsI w B m g := fun j hj => by rw [← e j hj]; exact h j hj
theorem CellsI.keep {w w' : World} {B m : Nat} {f : Nat → Int} (h : CellsI w B m f) {lo : Nat} (hb : Below lo w w') (hlt : B < lo) : CellsI w' B m f := fun j hj =>
  ⟨(hb.cell (p := ⟨B, j, none⟩) hlt).trans (h j hj).1, (hb.frozen (p := ⟨B, j, none⟩) hlt).trans (h j hj).2⟩

def comp (j : Nat) (x : Arc3) : Int := if j = 0 then x.1 else if j = 1 then x.2.1 else x.2.2
/-- The first k arcs laid out, zeros behind them. -/
def arcF (xs : List Arc3) (k j : Nat) : Int := if j / 3 < k then comp (j % 3) (xs.getD (j / 3) (0, 0, 0)) else 0
theorem ArcsR.of_cells {w : World} {B : Nat} {xs : List Arc3} (hB : B < w.heap.size) (hl : xs.length ≤ 9223372036854775807) (h : CellsI w B (xs.length * 3) (arcF xs xs.length)) : ArcsR w (.slice (some ⟨B, 0, none⟩) xs.length xs.length) xs := by
  refine ⟨hl, _, _, rfl, Nat.le_refl _, hl, by simp, fun _ => ⟨B, 0, rfl, hB, fun i x hi => ?_⟩⟩
  have hi2 := (List.getElem?_eq_some_iff.1 hi).1
  have hg : xs.getD i (0, 0, 0) = x := by simp [List.getD, hi]
  have key : ∀ c, c < 3 → arcF xs xs.length (i * 3 + c) = comp c x := fun c hc => by
    unfold arcF
    rw [if_pos (by omega), show (i * 3 + c) / 3 = i by omega, hg, show (i * 3 + c) % 3 = c by omega]
  have k0 := (h (i * 3 + 0) (by omega)).1
  have k1 := (h (i * 3 + 1) (by omega)).1
  have k2 := (h (i * 3 + 2) (by omega)).1
  rw [key _ (by omega)] at k0 k1 k2
  rw [Nat.zero_add]
  exact ⟨k0, k1, k2⟩

section
variable {H : Type} {enc : TypeId × Value → H} {P : Program} {W : World} {base : Nat}
end
end Go.Sd
end

section
namespace Go.Proofs.YtcilgihmaaobeaaDoor
open Go.RowKit Go.Deep Go.Sd

theorem l1In_c (a b c : Int) (w : World) :
    Calls Tryd.prog 41 #[.int .i64 a, .int .i64 b, .int .i64 c] w fun e w' => e = .returned (.bool (decide (b ≤ a) && decide (a ≤ c))) ∧ w = w' := by
  by_cases h1 : b ≤ a <;> by_cases h2 : a ≤ c
  all_goals
    go_enter Tryd.func41, Tryd.ntmps41
    go_wp2
    go_ret
    exact ⟨by simp [*], rfl⟩
theorem l1In_yes {a b c : Int} (w : World) (h1 : b ≤ a) (h2 : a ≤ c) : Calls Tryd.prog 41 #[.int .i64 a, .int .i64 b, .int .i64 c] w fun e w' => e = .returned (.bool true) ∧ w = w' := by
  have := l1In_c a b c w
  simpa [h1, h2] using this
theorem l1In_no {a b c : Int} (w : World) (h : a < b ∨ c < a) : Calls Tryd.prog 41 #[.int .i64 a, .int .i64 b, .int .i64 c] w fun e w' => e = .returned (.bool false) ∧ w = w' := by
  have e : (decide (b ≤ a) && decide (a ≤ c)) = false := by
    rcases h with h | h
    · simp; omega
    · simp; omega
  have := l1In_c a b c w
  rw [e] at this
  exact this



end Go.Proofs.YtcilgihmaaobeaaDoor
end

section
namespace Go.Sd
open Go.RowKit Go.Deep
theorem boxA3_ex (w : World) (ty : TypeId) (v1 v2 v3 : Value) : ∃ w', w.alloc (.cells #[v1, v2, v3] ty) = w' ∧ Below w.heap.size w w' ∧ w'.cell? ⟨w.heap.size, 0, none⟩ = some v1 ∧ w'.cell? ⟨w.heap.size, 1, none⟩ = some v2 ∧ w'.cell? ⟨w.heap.size, 2, none⟩ = some v3 ∧ w.heap.size < w'.heap.size :=
  ⟨_, rfl, (Below.refl w.heap.size w).alloc (Nat.le_refl _) _, by simp, by simp, by simp, by simp⟩
theorem Ints.three {w : World} {b : Nat} {x y z : Int} (hb : b < w.heap.size) (h0 : w.cell? ⟨b, 0, none⟩ = some (.int .i64 x)) (h1 : w.cell? ⟨b, 1, none⟩ = some (.int .i64 y)) (h2 : w.cell? ⟨b, 2, none⟩ = some (.int .i64 z)) : Ints w (.slice (some ⟨b, 0, none⟩) 3 3) [x, y, z] := by
  refine ⟨[.int .i64 x, .int .i64 y, .int .i64 z], ⟨by simp, _, 3, rfl, by simp, by simp, by simp, Or.inr ⟨b, 0, rfl, hb, fun i u hu => ?_⟩⟩, rfl, fun i u v hu hv => ?_⟩
  · match i, hu with
    | 0, hu => simp at hu; subst hu; exact h0
    | 1, hu => simp at hu; subst hu; exact h1
    | 2, hu => simp at hu; subst hu; exact h2
    | i + 3, hu => simp at hu
  · match i, hu, hv with
    | 0, hu, hv => simp at hu hv; subst hu; subst hv; rfl
    | 1, hu, hv => simp at hu hv; subst hu; subst hv; rfl
    | 2, hu, hv => simp at hu hv; subst hu; subst hv; rfl
    | i + 3, hu, hv => simp at hu
end Go.Sd
namespace Go.Proofs.YtcilgihmaaobeaaDoor
open Go.RowKit Go.Deep Go.Sd

def cmpI (a b : Int) : Int := if a < b then -1 else if b < a then 1 else 0
def orL : List Int → Int
  | [] => 0
  | x :: xs => if x ≠ 0 then x else orL xs
def cmpA (a b : Arc3) : Int := orL [cmpI a.1 b.1, cmpI a.2.2 b.2.2, cmpI a.2.1 b.2.1]
def before (a b : Arc3) : Bool := if a.1 ≠ b.1 then decide (a.1 < b.1) else if a.2.2 ≠ b.2.2 then decide (a.2.2 < b.2.2) else decide (a.2.1 < b.2.1)
theorem cmpA_nn (a b : Arc3) : (0 ≤ cmpA a b) ↔ before a b = false := by
  obtain ⟨a0, a1, a2⟩ := a
  obtain ⟨b0, b1, b2⟩ := b
  simp only [cmpA, before, orL, cmpI]
  repeat' split
  all_goals simp
  all_goals omega

theorem isNaN_c (x : Int) (w : World) : Calls Tryd.prog 87 #[.int .i64 x] w fun e w' => e = .returned (.bool false) ∧ w = w' := by
  have t1 : (x != x) = false := by simp
  go_enter Tryd.func87, Tryd.ntmps87
  go_wp2
  go_ret
  exact ⟨rfl, rfl⟩
theorem Compare_c (a b : Int) (w : World) : Calls Tryd.prog 80 #[.int .i64 a, .int .i64 b] w fun e w' => e = .returned (.int .i64 (cmpI a b)) ∧ w = w' := by
  have H1 := Lib.hid (isNaN_c a w)
  have H2 := Lib.hid (isNaN_c b w)
  by_cases h1 : a < b
  · have H := Lib.hid (show cmpI a b = -1 from by unfold cmpI; rw [if_pos h1])
    go_enter Tryd.func80, Tryd.ntmps80
    go_wp2_with fail
    refine H1.out.mono ?_
    rintro e w' ⟨rfl, rfl⟩
    go_wp2_with fail
    refine H2.out.mono ?_
    rintro e w' ⟨rfl, rfl⟩
    go_wp2
    go_ret
    exact ⟨by rw [H.out]; rfl, rfl⟩
  by_cases h2 : b < a
  · have H := Lib.hid (show cmpI a b = 1 from by unfold cmpI; rw [if_neg h1, if_pos h2])
    go_enter Tryd.func80, Tryd.ntmps80
    go_wp2_with fail
    refine H1.out.mono ?_
    rintro e w' ⟨rfl, rfl⟩
    go_wp2_with fail
    refine H2.out.mono ?_
    rintro e w' ⟨rfl, rfl⟩
    go_wp2
    go_ret
    exact ⟨by rw [H.out]; rfl, rfl⟩
  have H := Lib.hid (show cmpI a b = 0 from by unfold cmpI; rw [if_neg h1, if_neg h2])
  go_enter Tryd.func80, Tryd.ntmps80
  go_wp2_with fail
  refine H1.out.mono ?_
  rintro e w' ⟨rfl, rfl⟩
  go_wp2_with fail
  refine H2.out.mono ?_
  rintro e w' ⟨rfl, rfl⟩
  go_wp2
  go_ret
  exact ⟨by rw [H.out]; rfl, rfl⟩
set_option maxHeartbeats 400000 in
theorem Or_c {w : World} {v : Value} {xs : List Int} (h : Ints w v xs) : Calls Tryd.prog 79 #[v] w fun e w' => e = .returned (.int .i64 (orL xs)) ∧ w = w' := by
  have hlen := h.len
  obtain ⟨a, c, rfl, _, _, hcell⟩ := h.shape
  clear h
  have H0 := Lib.hid (show orL xs = orL (xs.drop 0) from rfl)
  go_enter Tryd.func79, Tryd.ntmps79
  go_wp2
  go_loopg [8] (xs.length) (fun g i wr => ∃ (k : Nat), i = .int .i64 k ∧ k + g = xs.length ∧ Hid (orL xs = orL (xs.drop k)) ∧ w = wr)
  case atStart => exact ⟨0, rfl, by omega, H0, rfl⟩
  case round =>
    obtain ⟨k, rfl, hk, H, rfl⟩ := hrel
    by_cases hlt : k < xs.length
    · obtain ⟨b, o, rfl, hb, hx0⟩ := hcell (by omega)
      obtain ⟨x, hx, hd⟩ := at_lt hlt
      obtain ⟨u, hu, rfl⟩ := hx0 k x hx
      have H1 := Lib.hid (show orL xs = if x ≠ 0 then x else orL (xs.drop (k + 1)) from by rw [H.out, hd]; rfl)
      clear H hx hd hx0 hcell H0
      by_cases hz : x = 0
      · have H2 := Lib.hid (show orL xs = orL (xs.drop (k + 1)) from by rw [H1.out, if_neg (by simp [hz])])
        have t1 : (x != 0) = false := by simp [hz]
        clear H1 hz
        go_wp2
        go_roundg (xs.length - (k + 1))
        case measure => omega
        case rel => exact ⟨k + 1, by go_num, by omega, H2, rfl⟩
      · have H2 := Lib.hid (show orL xs = x from by rw [H1.out, if_pos hz])
        have t1 : (x != 0) = true := by simp [hz]
        clear H1 hz
        go_wp2
        go_ret
        exact ⟨by rw [H2.out]; rfl, rfl⟩
    · have H1 := Lib.hid (show orL xs = 0 from by rw [H.out, drop_len hlt]; rfl)
      clear H
      go_wp2
      go_ret
      exact ⟨by rw [H1.out]; rfl, rfl⟩
set_option maxHeartbeats 400000 in
theorem l14Before_c (a b : Arc3) (w : World) : Calls Tryd.prog 66 #[.agg #[.int .i64 a.1, .int .i64 a.2.1, .int .i64 a.2.2], .agg #[.int .i64 b.1, .int .i64 b.2.1, .int .i64 b.2.2]] w fun e w' => e = .returned (.bool (before a b)) ∧ Below w.heap.size w w' := by
  obtain ⟨a0, a1, a2⟩ := a
  obtain ⟨b0, b1, b2⟩ := b
  have Hb := Lib.hid (fun (u u' : Obj) => ((Below.refl w.heap.size w).alloc (Nat.le_refl _) u).alloc (by simp) u')
  by_cases h0 : a0 = b0
  · have t0 : (a0 != b0) = false := by simp [h0]
    by_cases h2 : a2 = b2
    · have t2 : (a2 != b2) = false := by simp [h2]
      have H := Lib.hid (show before (a0, a1, a2) (b0, b1, b2) = decide (a1 < b1) from by unfold before; rw [if_neg (by simp [h0]), if_neg (by simp [h2])])
      clear h0 h2
      go_enter Tryd.func66, Tryd.ntmps66
      go_wp2
      go_ret
      exact ⟨by rw [H.out]; rfl, Hb.out _ _⟩
    · have t2 : (a2 != b2) = true := by simp [h2]
      have H := Lib.hid (show before (a0, a1, a2) (b0, b1, b2) = decide (a2 < b2) from by unfold before; rw [if_neg (by simp [h0]), if_pos (by simp [h2])])
      clear h0 h2
      go_enter Tryd.func66, Tryd.ntmps66
      go_wp2
      go_ret
      exact ⟨by rw [H.out]; rfl, Hb.out _ _⟩
  · have t0 : (a0 != b0) = true := by simp [h0]
    have H := Lib.hid (show before (a0, a1, a2) (b0, b1, b2) = decide (a0 < b0) from by unfold before; rw [if_pos (by simp [h0])])
    clear h0
    go_enter Tryd.func66, Tryd.ntmps66
    go_wp2
    go_ret
    exact ⟨by rw [H.out]; rfl, Hb.out _ _⟩
set_option maxHeartbeats 1000000 in
theorem compareArcs_c (a b : Arc3) (w : World) : Calls Tryd.prog 71 #[.agg #[.int .i64 a.1, .int .i64 a.2.1, .int .i64 a.2.2], .agg #[.int .i64 b.1, .int .i64 b.2.1, .int .i64 b.2.2]] w fun e w' => e = .returned (.int .i64 (cmpA a b)) ∧ Below w.heap.size w w' := by
  obtain ⟨a0, a1, a2⟩ := a
  obtain ⟨b0, b1, b2⟩ := b
  have H := Lib.hid (show cmpA (a0, a1, a2) (b0, b1, b2) = orL [cmpI a0 b0, cmpI a2 b2, cmpI a1 b1] from rfl)
  generalize cmpA (a0, a1, a2) (b0, b1, b2) = T at H ⊢
  have H0 := Lib.hid (fun w => Compare_c a0 b0 w)
  have H2 := Lib.hid (fun w => Compare_c a2 b2 w)
  have H1 := Lib.hid (fun w => Compare_c a1 b1 w)
  generalize cmpI a0 b0 = c0 at *
  generalize cmpI a2 b2 = c2 at *
  generalize cmpI a1 b1 = c1 at *
  go_enter Tryd.func71, Tryd.ntmps71
  go_wp2
  obtain ⟨w1, e1, hb1, p0, p1, p2, m1⟩ := boxA3_ex w 80 (.int .i64 a0) (.int .i64 a1) (.int .i64 a2)
  have z1 : w1.heap.size = w.heap.size + 1 := by rw [← e1]; simp
  obtain ⟨w2, e2, hb2, q0, q1, q2, m2⟩ := boxA3_ex w1 80 (.int .i64 b0) (.int .i64 b1) (.int .i64 b2)
  have z2 : w2.heap.size = w.heap.size + 1 + 1 := by rw [← e2]; simp [z1]
  rw [e1, e2]
  rw [z1] at q0 q1 q2
  have hb3 := hb1.trans (hb2.mono (by omega))
  replace p0 := (hb2.cell (p := ⟨w.heap.size, 0, none⟩) m1).trans p0
  replace p1 := (hb2.cell (p := ⟨w.heap.size, 1, none⟩) m1).trans p1
  replace p2 := (hb2.cell (p := ⟨w.heap.size, 2, none⟩) m1).trans p2
  clear e1 e2 hb1 hb2 m1 m2 z1 w1
  have hS0 : w2.cell? ⟨w.heap.size, 0, none⟩ = some (.int .i64 a0) ∧ w2.cell? ⟨w.heap.size, 1, none⟩ = some (.int .i64 a1) ∧ w2.cell? ⟨w.heap.size, 2, none⟩ = some (.int .i64 a2) ∧ w2.cell? ⟨w.heap.size + 1, 0, none⟩ = some (.int .i64 b0) ∧ w2.cell? ⟨w.heap.size + 1, 1, none⟩ = some (.int .i64 b1) ∧ w2.cell? ⟨w.heap.size + 1, 2, none⟩ = some (.int .i64 b2) := ⟨p0, p1, p2, q0, q1, q2⟩
  have hSd : w2.drew.cell? ⟨w.heap.size, 0, none⟩ = some (.int .i64 a0) ∧ w2.drew.cell? ⟨w.heap.size, 1, none⟩ = some (.int .i64 a1) ∧ w2.drew.cell? ⟨w.heap.size, 2, none⟩ = some (.int .i64 a2) ∧ w2.drew.cell? ⟨w.heap.size + 1, 0, none⟩ = some (.int .i64 b0) ∧ w2.drew.cell? ⟨w.heap.size + 1, 1, none⟩ = some (.int .i64 b1) ∧ w2.drew.cell? ⟨w.heap.size + 1, 2, none⟩ = some (.int .i64 b2) := hS0
  have hSa : (w2.drew.alloc (.cells #[.int .i64 c0, .int .i64 c2, .int .i64 c1] 3)).cell? ⟨w.heap.size, 0, none⟩ = some (.int .i64 a0) ∧ (w2.drew.alloc (.cells #[.int .i64 c0, .int .i64 c2, .int .i64 c1] 3)).cell? ⟨w.heap.size, 1, none⟩ = some (.int .i64 a1) ∧ (w2.drew.alloc (.cells #[.int .i64 c0, .int .i64 c2, .int .i64 c1] 3)).cell? ⟨w.heap.size, 2, none⟩ = some (.int .i64 a2) ∧ (w2.drew.alloc (.cells #[.int .i64 c0, .int .i64 c2, .int .i64 c1] 3)).cell? ⟨w.heap.size + 1, 0, none⟩ = some (.int .i64 b0) ∧ (w2.drew.alloc (.cells #[.int .i64 c0, .int .i64 c2, .int .i64 c1] 3)).cell? ⟨w.heap.size + 1, 1, none⟩ = some (.int .i64 b1) ∧ (w2.drew.alloc (.cells #[.int .i64 c0, .int .i64 c2, .int .i64 c1] 3)).cell? ⟨w.heap.size + 1, 2, none⟩ = some (.int .i64 b2) := ⟨(World.cell?_alloc_past _ _ _ (show w.heap.size < w2.heap.size by omega)).trans p0, (World.cell?_alloc_past _ _ _ (show w.heap.size < w2.heap.size by omega)).trans p1, (World.cell?_alloc_past _ _ _ (show w.heap.size < w2.heap.size by omega)).trans p2, (World.cell?_alloc_past _ _ _ (show w.heap.size + 1 < w2.heap.size by omega)).trans q0, (World.cell?_alloc_past _ _ _ (show w.heap.size + 1 < w2.heap.size by omega)).trans q1, (World.cell?_alloc_past _ _ _ (show w.heap.size + 1 < w2.heap.size by omega)).trans q2⟩
  have hSb : (w2.alloc (.cells #[.int .i64 c0, .int .i64 c2, .int .i64 c1] 3)).drew.cell? ⟨w.heap.size, 0, none⟩ = some (.int .i64 a0) ∧ (w2.alloc (.cells #[.int .i64 c0, .int .i64 c2, .int .i64 c1] 3)).drew.cell? ⟨w.heap.size, 1, none⟩ = some (.int .i64 a1) ∧ (w2.alloc (.cells #[.int .i64 c0, .int .i64 c2, .int .i64 c1] 3)).drew.cell? ⟨w.heap.size, 2, none⟩ = some (.int .i64 a2) ∧ (w2.alloc (.cells #[.int .i64 c0, .int .i64 c2, .int .i64 c1] 3)).drew.cell? ⟨w.heap.size + 1, 0, none⟩ = some (.int .i64 b0) ∧ (w2.alloc (.cells #[.int .i64 c0, .int .i64 c2, .int .i64 c1] 3)).drew.cell? ⟨w.heap.size + 1, 1, none⟩ = some (.int .i64 b1) ∧ (w2.alloc (.cells #[.int .i64 c0, .int .i64 c2, .int .i64 c1] 3)).drew.cell? ⟨w.heap.size + 1, 2, none⟩ = some (.int .i64 b2) := ⟨(World.cell?_alloc_past _ _ _ (show w.heap.size < w2.heap.size by omega)).trans p0, (World.cell?_alloc_past _ _ _ (show w.heap.size < w2.heap.size by omega)).trans p1, (World.cell?_alloc_past _ _ _ (show w.heap.size < w2.heap.size by omega)).trans p2, (World.cell?_alloc_past _ _ _ (show w.heap.size + 1 < w2.heap.size by omega)).trans q0, (World.cell?_alloc_past _ _ _ (show w.heap.size + 1 < w2.heap.size by omega)).trans q1, (World.cell?_alloc_past _ _ _ (show w.heap.size + 1 < w2.heap.size by omega)).trans q2⟩
  have HI := Lib.hid (Ints.three (w := w2.drew.alloc (.cells #[.int .i64 c0, .int .i64 c2, .int .i64 c1] 3)) (b := w2.heap.size) (x := c0) (y := c2) (z := c1) (by simp) (World.cell?_alloc_at _ _ _ 0 rfl) (World.cell?_alloc_at _ _ _ 1 rfl) (World.cell?_alloc_at _ _ _ 2 rfl))
  have HI2 := Lib.hid (Ints.three (w := (w2.alloc (.cells #[.int .i64 c0, .int .i64 c2, .int .i64 c1] 3)).drew) (b := w2.heap.size) (x := c0) (y := c2) (z := c1) (by simp) (World.cell?_alloc_at _ _ _ 0 rfl) (World.cell?_alloc_at _ _ _ 1 rfl) (World.cell?_alloc_at _ _ _ 2 rfl))
  have Hbf2 := Lib.hid ((hb3.alloc (show w.heap.size ≤ w2.heap.size by omega) (.cells #[.int .i64 c0, .int .i64 c2, .int .i64 c1] 3)).drew)
  have Hbf := Lib.hid ((hb3.drew).alloc (show w.heap.size ≤ w2.heap.size by omega) (.cells #[.int .i64 c0, .int .i64 c2, .int .i64 c1] 3))
  clear hb3 z2 p0 p1 p2 q0 q1 q2
  go_region_held3 (fun w' => w'.cell? ⟨w.heap.size, 0, none⟩ = some (.int .i64 a0) ∧ w'.cell? ⟨w.heap.size, 1, none⟩ = some (.int .i64 a1) ∧ w'.cell? ⟨w.heap.size, 2, none⟩ = some (.int .i64 a2) ∧ w'.cell? ⟨w.heap.size + 1, 0, none⟩ = some (.int .i64 b0) ∧ w'.cell? ⟨w.heap.size + 1, 1, none⟩ = some (.int .i64 b1) ∧ w'.cell? ⟨w.heap.size + 1, 2, none⟩ = some (.int .i64 b2))
    (first | with_reducible exact hSd | with_reducible exact hSa | with_reducible exact hSb | with_reducible exact hS0 | go_keep)
    ((first
      | (go_at_call 80; with_reducible refine (H0.out _).mono ?_; rintro e w' ⟨rfl, rfl⟩)
      | (go_at_call 80; with_reducible refine (H2.out _).mono ?_; rintro e w' ⟨rfl, rfl⟩)
      | (go_at_call 80; with_reducible refine (H1.out _).mono ?_; rintro e w' ⟨rfl, rfl⟩)
      | (go_at_call 79; with_reducible refine (Or_c HI.out).mono ?_; rintro e w' ⟨rfl, rfl⟩; have Hbz := Hbf)
      | (go_at_call 79; with_reducible refine (Or_c HI2.out).mono ?_; rintro e w' ⟨rfl, rfl⟩; have Hbz := Hbf2)
      | fail))
  all_goals (go_wp2; go_ret; exact ⟨by rw [H.out]; rfl, Hbz.out⟩)
end Go.Proofs.YtcilgihmaaobeaaDoor
end

section
namespace Go.Proofs.YtcilgihmaaobeaaDoor
open Go.RowKit Go.Deep Go.Sd
/-- All of the next g numbers from k on. -/
def allF (h : Nat → Bool) : Nat → Nat → Bool
  | 0, _ => true
  | g + 1, k => if h k = true then allF h g (k + 1) else false
end Go.Proofs.YtcilgihmaaobeaaDoor
end

section
namespace Go.Proofs.YtcilgihmaaobeaaDoor
open Go.RowKit Go.Deep Go.Sd

def at3 (xs : List Arc3) (k : Nat) : Arc3 := xs.getD k (0, 0, 0)
theorem at3_of {xs : List Arc3} {k : Nat} {x : Arc3} (h : xs[k]? = some x) : at3 xs k = x := by simp [at3, List.getD, h]
def arcOk (L S : Int) (x : Arc3) : Bool := decide (0 ≤ x.1 ∧ x.1 < S ∧ 0 ≤ x.2.1 ∧ x.2.1 < S ∧ 0 ≤ x.2.2 ∧ x.2.2 < L)
def arcB (L S : Int) (xs : List Arc3) (k : Nat) : Bool := arcOk L S (at3 xs k) && (decide (k = 0) || before (at3 xs (k - 1)) (at3 xs k))
def isLab (l : Lb) : Bool := decide (1 ≤ l.1 ∧ l.1 ≤ 3) && (decide (1 ≤ l.2.1 ∧ l.2.1 ≤ 12) && allF (arcB l.1 l.2.1 l.2.2) l.2.2.length 0)

end Go.Proofs.YtcilgihmaaobeaaDoor
end

section
namespace Go.Proofs.YtcilgihmaaobeaaDoor
open Go.RowKit Go.Deep Go.Sd

theorem i64_and1 (n : Int) : bits .and .i64 n 1 = n % 2 := by
  have h1 : (BitVec.ofInt 64 1).toNat = 2 ^ 1 - 1 := by decide
  have key : (BitVec.ofInt 64 n &&& BitVec.ofInt 64 1).toNat = (n % ((2 ^ 64 : Nat) : Int)).toNat % 2 ^ 1 := by
    rw [BitVec.toNat_and, BitVec.toNat_ofInt, h1, Nat.and_two_pow_sub_one_eq_mod]
  show IntKind.i64.wrap ((BitVec.ofInt 64 n &&& BitVec.ofInt 64 1).toNat : Nat) = n % 2
  rw [key, IntKind.wrap_i64]
  omega
theorem ofInt_i64 (a : Nat) (ha : a < 9223372036854775808) : (BitVec.ofInt 64 (a : Int)).toNat = a := by
  rw [BitVec.ofInt_natCast, BitVec.toNat_ofNat]; exact Nat.mod_eq_of_lt (by omega)
theorem i64_or (a b : Nat) (ha : a < 9223372036854775808) (hb : b < 9223372036854775808) : bits .or .i64 (a : Int) (b : Int) = ((a ||| b : Nat) : Int) := by
  have hx : a ||| b < 2 ^ 63 := Nat.or_lt_two_pow (by omega) (by omega)
  show IntKind.i64.wrap ((BitVec.ofInt 64 (a : Int) ||| BitVec.ofInt 64 (b : Int)).toNat : Nat) = _
  rw [BitVec.toNat_or, ofInt_i64 a ha, ofInt_i64 b hb, IntKind.wrap_i64]
  omega

/-- An arc leads on from a set, with a letter. -/
def hit (s : Nat) (x : Int) (a : Arc3) : Bool := decide (a.2.2 = x) && s.testBit a.1.toNat
def stepL (s : Nat) (x : Int) : List Arc3 → Nat → Nat
  | [], out => out
  | a :: ys, out => stepL s x ys (if hit s x a = true then out ||| 2 ^ a.2.1.toNat else out)
def stepN (xs : List Arc3) (s : Nat) (x : Int) : Nat := stepL s x xs 0
def okArcs (S : Int) (xs : List Arc3) : Prop := ∀ a, a ∈ xs → 0 ≤ a.1 ∧ a.1 < S ∧ 0 ≤ a.2.1 ∧ a.2.1 < S
theorem allF_at {f : Nat → Bool} : ∀ {m k : Nat}, allF f m k = true → ∀ j, j < m → f (k + j) = true
  | 0, _, _, j, hj => by omega
  | m + 1, k, h, j, hj => by
    have h1 : (if f k = true then allF f m (k + 1) else false) = true := h
    by_cases hk : f k = true
    · rw [if_pos hk] at h1
      cases j with
      | zero => exact hk
      | succ j => rw [show k + (j + 1) = k + 1 + j by omega]; exact allF_at h1 j (by omega)
    · rw [if_neg hk] at h1; cases h1
theorem isLab_ok {l : Lb} (h : isLab l = true) : okArcs l.2.1 l.2.2 ∧ 1 ≤ l.2.1 ∧ l.2.1 ≤ 12 ∧ 1 ≤ l.1 ∧ l.1 ≤ 3 := by
  unfold isLab at h
  rw [Bool.and_eq_true, Bool.and_eq_true, decide_eq_true_eq, decide_eq_true_eq] at h
  refine ⟨fun a ha => ?_, h.2.1.1, h.2.1.2, h.1.1, h.1.2⟩
  obtain ⟨k, hk⟩ := List.getElem?_of_mem ha
  have h1 := allF_at h.2.2 k (List.getElem?_eq_some_iff.1 hk).1
  rw [Nat.zero_add] at h1
  unfold arcB at h1
  rw [Bool.and_eq_true, at3_of hk] at h1
  have h2 := h1.1
  unfold arcOk at h2
  rw [decide_eq_true_eq] at h2
  exact ⟨h2.1, h2.2.1, h2.2.2.1, h2.2.2.2.1⟩
theorem stepL_lt {S : Int} {N : Nat} (hN : S.toNat ≤ N) : ∀ {xs : List Arc3}, okArcs S xs → ∀ (s : Nat) (x : Int) (out : Nat), out < 2 ^ N → stepL s x xs out < 2 ^ N
  | [], _, _, _, _, h => h
  | a :: ys, ha, s, x, out, h => by
    unfold stepL
    refine stepL_lt hN (fun b hb => ha b (List.mem_cons_of_mem _ hb)) s x _ ?_
    split
    · have := ha a (by simp)
      exact Nat.or_lt_two_pow h (Nat.pow_lt_pow_right (by omega) (by omega))
    · exact h
theorem stepN_lt {S : Int} {xs : List Arc3} (h : okArcs S xs) (hS : S ≤ 12) (s : Nat) (x : Int) : stepN xs s x < 4096 :=
  stepL_lt (N := 12) (by omega) h s x 0 (by decide)
theorem okArcs_at {S : Int} {xs : List Arc3} (h : okArcs S xs) {k : Nat} {x : Arc3} (hx : xs[k]? = some x) : 0 ≤ x.1 ∧ x.1 < S ∧ 0 ≤ x.2.1 ∧ x.2.1 < S := h x (List.mem_of_getElem? hx)

end Go.Proofs.YtcilgihmaaobeaaDoor
end
