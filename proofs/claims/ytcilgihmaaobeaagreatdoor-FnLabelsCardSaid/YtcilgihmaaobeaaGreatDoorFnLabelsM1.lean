/-
  Laws for this claim's walks, contracts of the functions that it reaches.
-/
import Derived.WalkKit
import Derived.Maps.AppendAt
import Derived.Deep.OwnRows
import Derived.Deep.LoopGhost
import Derived.Deep.QuietTactic
import Derived.BigQuiet
import Derived.Lib.Hide
import Derived.Outline
import Derived.WalkSmall
set_option linter.unusedVariables false
set_option linter.unusedSimpArgs false
section
namespace Go.Sd
open Go.RowKit Go.Deep

/-! ### Reading -/

/-- v is a slice of one-cell elements whose cells hold 'us'. -/
def Sl (w : World) (v : Value) (us : List Value) : Prop :=
  us.length ≤ 9223372036854775807 ∧ ∃ a c, v = .slice a us.length c ∧ us.length ≤ c ∧ c ≤ 9223372036854775807 ∧ (a = none → c = 0) ∧
    (us = [] ∨ ∃ b o, a = some ⟨b, o, none⟩ ∧ b < w.heap.size ∧ ∀ (i : Nat) (u : Value), us[i]? = some u → w.cell? ⟨b, o + i, none⟩ = some u)

/-- v is a slice whose elements read as 'xs' by R. -/
def SlOf {α : Type} (R : World → Value → α → Prop) (w : World) (v : Value) (xs : List α) : Prop :=
  ∃ us : List Value, Sl w v us ∧ us.length = xs.length ∧ ∀ (i : Nat) (u : Value) (x : α), us[i]? = some u → xs[i]? = some x → R w u x

def ValR {α : Type} (f : α → Value) (_ : World) (v : Value) (x : α) : Prop := v = f x
abbrev IntR : World → Value → Int → Prop := ValR (Value.int .i64)
def Ints : World → Value → List Int → Prop := SlOf IntR
def Tab : World → Value → List (List Int) → Prop := SlOf Ints
/-- What was there reads as it did. -/
def Framed {α : Type} (R : World → Value → α → Prop) : Prop := ∀ w w' v x, R w v x → Below w.heap.size w w' → R w' v x

theorem Sl.frame {w w' : World} {v : Value} {us : List Value} (h : Sl w v us) (hb : Below w.heap.size w w') : Sl w' v us := by
  obtain ⟨h0, a, c, hv, hc, hc', hn, h1⟩ := h
  refine ⟨h0, a, c, hv, hc, hc', hn, h1.imp id ?_⟩
  rintro ⟨b, o, ha, hlt, hcell⟩
  exact ⟨b, o, ha, Nat.lt_of_lt_of_le hlt hb.size, fun i u hi => (hb.cell (p := ⟨b, o + i, none⟩) hlt).trans (hcell i u hi)⟩

theorem SlOf.frame {α : Type} {R : World → Value → α → Prop} (hR : Framed R) : Framed (SlOf R) := by
  intro w w' v xs ⟨us, h, hl, hr⟩ hb
  exact ⟨us, h.frame hb, hl, fun i u x hu hx => hR _ _ _ _ (hr i u x hu hx) hb⟩

theorem IntR.frame : Framed IntR := fun _ _ _ _ h _ => h
theorem Ints.frame : Framed Ints := SlOf.frame IntR.frame
theorem Tab.frame : Framed Tab := SlOf.frame Ints.frame
/-- The value's shape. -/
theorem SlOf.shape {α : Type} {R : World → Value → α → Prop} {w : World} {v : Value} {xs : List α} (h : SlOf R w v xs) :
    ∃ a c, v = .slice a xs.length c ∧ xs.length ≤ c ∧ c ≤ 9223372036854775807 ∧ (0 < xs.length → ∃ b o, a = some ⟨b, o, none⟩ ∧ b < w.heap.size ∧ ∀ i x, xs[i]? = some x → ∃ u, w.cell? ⟨b, o + i, none⟩ = some u ∧ R w u x) := by
  obtain ⟨us, ⟨h0, a, c, hv, hc, hc', _, h1⟩, hl, hr⟩ := h
  refine ⟨a, c, by rw [← hl]; exact hv, by omega, hc', fun hpos => ?_⟩
  rcases h1 with rfl | ⟨b, o, ha, hlt, hcell⟩
  · simp at hl; omega
  · refine ⟨b, o, ha, hlt, fun i x hx => ?_⟩
    have hi : i < us.length := by rw [hl]; exact (List.getElem?_eq_some_iff.1 hx).1
    exact ⟨us[i], hcell i _ (List.getElem?_eq_getElem hi), hr i _ x (List.getElem?_eq_getElem hi) hx⟩

theorem SlOf.len {α : Type} {R : World → Value → α → Prop} {w : World} {v : Value} {xs : List α} (h : SlOf R w v xs) : xs.length ≤ 9223372036854775807 := by
  obtain ⟨us, ⟨h0, _⟩, hl, _⟩ := h; omega

/-- A list with an element at k. -/
theorem at_lt {α : Type} {xs : List α} {k : Nat} (h : k < xs.length) : ∃ x, xs[k]? = some x ∧ xs.drop k = x :: xs.drop (k + 1) :=
  ⟨xs[k], List.getElem?_eq_getElem h, List.drop_eq_getElem_cons h⟩

theorem drop_len {α : Type} {xs : List α} {k : Nat} (h : ¬ k < xs.length) : xs.drop k = [] := List.drop_eq_nil_of_le (by omega)

/-! ### Owning -/

/-- What the own element says: its cell, what it reads as, the blocks that it owns. -/
abbrev OwnRel (α : Type) := World → Value → α → List Nat → Prop

def OwnOf {α : Type} (e : TypeId) (R : OwnRel α) : OwnRel (List α) := fun w v xs F =>
  ∃ (us : List Value) (Fs : List (List Nat)), w.ownsRow 0 e 1 v xs.length us ∧ Fs.length = xs.length ∧ (∀ (i : Nat) (u : Value) (x : α) (G : List Nat), us[i]? = some u → xs[i]? = some x → Fs[i]? = some G → R w u x G) ∧ F = v.ownBlock.toList ++ Fs.flatten

/-- An element that is a plain value. -/
def OValR {α : Type} (f : α → Value) : OwnRel α := fun _ v x F => v = f x ∧ F = []
abbrev OIntR : OwnRel Int := OValR (Value.int .i64)

/-- The element is kept where its own blocks are; its blocks exist. -/
structure Kept {α : Type} (R : OwnRel α) : Prop where
  keep : ∀ w w' v x F, R w v x F → (∀ b, b ∈ F → w'.heap[b]? = w.heap[b]?) → R w' v x F
  lt : ∀ w v x F, R w v x F → ∀ b, b ∈ F → b < w.heap.size
  one : ∀ w v x F, R w v x F → v.oneCell' = true

theorem OIntR.kept : Kept OIntR := ⟨fun _ _ _ _ _ h _ => h, fun _ _ _ _ h b hb => by rw [h.2] at hb; simp at hb, fun _ _ _ _ h => by rw [h.1]; rfl⟩

theorem ownsRow_keep {w w' : World} {base : Nat} {e : TypeId} {size : Nat} {v : Value} {n : Nat} {us : List Value} (h : w.ownsRow base e size v n us) (hk : ∀ b, v.ownBlock = some b → w'.heap[b]? = w.heap[b]?) : w'.ownsRow base e size v n us := by
  obtain ⟨h1, h2⟩ := h
  refine ⟨h1, h2.imp id ?_⟩
  rintro ⟨g, cap, cur, rfl, hg, hh, r⟩
  exact ⟨g, cap, cur, rfl, hg, (hk g rfl).trans hh, r⟩

theorem OwnOf.kept {α : Type} {e : TypeId} {R : OwnRel α} (hR : Kept R) : Kept (OwnOf e R) := by
  refine ⟨?_, ?_, ?_⟩
  · rintro w w' v xs F ⟨us, Fs, ho, hl, hr, rfl⟩ hk
    refine ⟨us, Fs, ownsRow_keep ho fun b hb => hk b (by simp [hb]), hl, fun i u x G hu hx hG => hR.keep _ _ _ _ _ (hr i u x G hu hx hG) fun b hb => hk b ?_, rfl⟩
    exact List.mem_append_right _ (List.mem_flatten_of_mem (List.mem_of_getElem? hG) hb)
  · rintro w v xs F ⟨us, Fs, ho, hl, hr, rfl⟩ b hb
    rcases List.mem_append.1 hb with hb | hb
    · simp at hb
      exact (ho.lt b hb).2
    · obtain ⟨G, hG, hb⟩ := List.mem_flatten.1 hb
      obtain ⟨i, hi⟩ := List.getElem?_of_mem hG
      have hi1 : i < Fs.length := (List.getElem?_eq_some_iff.1 hi).1
      have hul : us.length = xs.length := by simpa using ho.1
      exact hR.lt _ _ _ _ (hr i us[i] xs[i] G (List.getElem?_eq_getElem (by omega)) (List.getElem?_eq_getElem (by omega)) hi) b hb
  · rintro w v xs F ⟨us, Fs, ho, hl, hr, rfl⟩
    rcases ho.2 with ⟨rfl, _⟩ | ⟨g, cap, cur, rfl, _⟩ <;> rfl

/-- Blocks of the call's own, each once. -/
def Fresh (lo : Nat) (F : List Nat) : Prop := F.Nodup ∧ ∀ b, b ∈ F → lo ≤ b

def New {α : Type} (R : OwnRel α) (lo : Nat) (w : World) (v : Value) (x : α) : Prop := ∃ F, R w v x F ∧ Fresh lo F

theorem New.keep {α : Type} {R : OwnRel α} (hR : Kept R) {lo B : Nat} {w w' : World} {v : Value} {x : α} (h : New R lo w v x) (hb : Below B w w') (hB : w.heap.size ≤ B) : New R lo w' v x := by
  obtain ⟨F, hF, hf⟩ := h
  exact ⟨F, hR.keep _ _ _ _ _ hF fun b hb' => hb.block b (Nat.lt_of_lt_of_le (hR.lt _ _ _ _ hF b hb') hB), hf⟩

theorem New.mono {α : Type} {R : OwnRel α} {lo lo' : Nat} {w : World} {v : Value} {x : α} (h : New R lo w v x) (hl : lo' ≤ lo) : New R lo' w v x := by
  obtain ⟨F, hF, h1, h2⟩ := h
  exact ⟨F, hF, h1, fun b hb => Nat.le_trans hl (h2 b hb)⟩

abbrev OInts (e : TypeId) : OwnRel (List Int) := OwnOf e OIntR
abbrev OTab (eI eR : TypeId) : OwnRel (List (List Int)) := OwnOf eR (OInts eI)
theorem OInts.kept (e : TypeId) : Kept (OInts e) := OwnOf.kept OIntR.kept
theorem OTab.kept (eI eR : TypeId) : Kept (OTab eI eR) := OwnOf.kept (OInts.kept eI)
/-- What is owned reads. -/
theorem OwnOf.reads {α : Type} {e : TypeId} {R : OwnRel α} {R' : World → Value → α → Prop} (hR : ∀ w v x F, R w v x F → R' w v x) {w : World} {v : Value} {xs : List α} {F : List Nat} (h : OwnOf e R w v xs F) : SlOf R' w v xs := by
  obtain ⟨us, Fs, ho, hl, hr, rfl⟩ := h
  have hul : us.length = xs.length := by simpa using ho.1
  refine ⟨us, ?_, hul, fun i u x hu hx => ?_⟩
  · rcases ho.2 with ⟨rfl, h0⟩ | ⟨g, cap, cur, rfl, _, hg, hnc, hcm, hcs, htake⟩
    · exact ⟨by omega, none, 0, by rw [hul, h0], by omega, by omega, fun _ => rfl, Or.inl (List.eq_nil_of_length_eq_zero (by omega))⟩
    · have hcm' : cap ≤ 9223372036854775807 := hcm
      refine ⟨by omega, _, cap, by rw [hul], by omega, hcm', by simp, Or.inr ⟨g, 0, rfl, ?_, fun i u hu => ?_⟩⟩
      · exact (ho.lt g rfl).2
      · have := ho.cells (g := g) rfl i u hu
        cases i <;> simpa [Addr.add] using this
  · have hi : i < Fs.length := by rw [hl]; exact (List.getElem?_eq_some_iff.1 hx).1
    exact hR _ _ _ _ (hr i u x Fs[i] hu hx (List.getElem?_eq_getElem hi))

theorem OInts.reads {e : TypeId} {w : World} {v : Value} {xs : List Int} {F : List Nat} (h : OInts e w v xs F) : Ints w v xs := OwnOf.reads (fun _ _ _ _ h => h.1) h
theorem OTab.reads {eI eR : TypeId} {w : World} {v : Value} {xs : List (List Int)} {F : List Nat} (h : OTab eI eR w v xs F) : Tab w v xs := OwnOf.reads (fun _ _ _ _ h => OInts.reads h) h
theorem New.ints {e : TypeId} {lo : Nat} {w : World} {v : Value} {xs : List Int} (h : New (OInts e) lo w v xs) : Ints w v xs := by obtain ⟨F, h, _⟩ := h; exact h.reads
theorem New.tab {eI eR : TypeId} {lo : Nat} {w : World} {v : Value} {xs : List (List Int)} (h : New (OTab eI eR) lo w v xs) : Tab w v xs := by obtain ⟨F, h, _⟩ := h; exact h.reads
/-- An append at the operation, its run known; a guard that says yes does no harm. -/
theorem wpl_append_run {P : Program} {w : World} {ops : Array Oper} {rest : List Oper} {o : Oper} {a : Act} {Q : Exit → Act → World → Prop} (hw : Region.wanted o (yielded ops a.tmps) = true) (s x : Operand) (t : TypeId)
    (ho : o.op = .call { callee := .builtin .append, args := #[s, x], argTypes := #[t, t] }) {v v2 v' : Value} {w' : World} (hs : a.eval s = v) (hx : a.eval x = v2)
    (hr : (Builtin.append_ #[t, t] o.type #[v, v2]).run P w = .ok v' w') (h : wpList P ops Q rest (a.put o.dst v') w') : wpList P ops Q (o :: rest) a w := by
  refine BigFrame.wpList_want hw fun K hK => ?_
  unfold Oper.wp execOp
  simp only [ho, resolve, invoke, builtin, Sem.run_bind, Sem.run_pure, Result.andThen_ok, List.map_toArray, List.map_cons, List.map_nil, hs, hx, hr]
  exact hK _ _ h

/-! ### append of one element -/

theorem New.nil {α : Type} {e : TypeId} {R : OwnRel α} (lo : Nat) (w : World) : New (OwnOf e R) lo w (.slice none 0 0) [] :=
  ⟨[], ⟨[], [], World.ownsRow_nil _ _ _ _, rfl, by simp, by simp [Value.ownBlock]⟩, by simp [Fresh]⟩

/-- The empty slice literal: a new block without cells. -/
theorem New.empty {α : Type} {e : TypeId} {R : OwnRel α} {lo : Nat} (w : World) (h : lo ≤ w.heap.size) : New (OwnOf e R) lo (w.alloc (.cells #[] e)) (.slice (some ⟨w.heap.size, 0, none⟩) 0 0) [] :=
  ⟨[w.heap.size], ⟨[], [], World.ownsRow_made (base := 0) (size := 1) w #[] 0 (Nat.zero_le _) (by simp [maxLen]) (by simp), rfl, by simp, by simp [Value.ownBlock]⟩, by simp [Fresh]; omega⟩

theorem _root_.Go.RowKit.Below.of_grown {lo : Nat} {w w' : World} {row : Option Nat} (h : w.grownBy w' row) (hl : lo ≤ w.heap.size) (hr : ∀ k, row = some k → lo ≤ k) : Below lo w w' := (Below.refl lo w).grown h hl hr

section
variable {P : Program} {w : World} {ops : Array Oper} {rest : List Oper} {o : Oper} {a : Act} {Q : Exit → Act → World → Prop}

/-- 'append(v, u)' where v is a slice of the call's own, as it stood in an earlier world w0, and u is an element made since. -/
theorem wpl_push {α : Type} {R : OwnRel α} (hR : Kept R) (hgd : Region.wanted o (yielded ops a.tmps) = true) (s x : Operand) (t : TypeId)
    (ho : o.op = .call { callee := .builtin .append, args := #[s, x], argTypes := #[t, t] })
    (e : TypeId) (z : Value) (bytes : Nat) (ht : P.underlying t = some (.slice e)) (hinfo : (P.info? e).map (fun i => (i.zero, i.size, i.bytes)) = some (some z, 1, bytes)) (hz1 : z.cells = #[z])
    {w0 : World} {lo : Nat} {v : Value} {xs : List α} (h0 : New (OwnOf e R) lo w0 v xs) (hlo : lo ≤ w0.heap.size) (hb : Below w0.heap.size w0 w)
    {u : Value} {y : α} (hu : New R w0.heap.size w u y) {bb : Nat} {c : Nat} (hcell : w.cell? ⟨bb, 0, none⟩ = some u)
    (hs : a.eval s = v) (hx : a.eval x = .slice (some ⟨bb, 0, none⟩) 1 c)
    (hbytes : (xs.length + 1) * bytes ≤ 140737488355328) (h63 : xs.length + 1 ≤ 9223372036854775807)
    (h : ∀ v' w', New (OwnOf e R) lo w' v' (xs ++ [y]) → w.grownBy w' v.ownBlock → (∀ k, v.ownBlock = some k → lo ≤ k ∧ k < w0.heap.size) → Below lo w0 w' → wpList P ops Q rest (a.put o.dst v') w') :
    wpList P ops Q (o :: rest) a w := by
  obtain ⟨i, hi, hzz⟩ := Option.map_eq_some_iff.1 hinfo
  simp only [Prod.mk.injEq] at hzz
  obtain ⟨hz, hsz, hby⟩ := hzz
  obtain ⟨F, ⟨us, Fs, how, hl, hr, rfl⟩, hnd, hge⟩ := h0
  obtain ⟨G, hG, hGn, hGe⟩ := hu
  have hul : us.length = xs.length := by simpa using how.1
  have hvlt : ∀ k, v.ownBlock = some k → lo ≤ k ∧ k < w0.heap.size := fun k hk => ⟨hge k (by simp [hk]), (how.lt k hk).2⟩
  have how1 : w.ownsRow 0 e 1 v xs.length us := ownsRow_keep how fun b hb' => hb.block b (hvlt b hb').2
  obtain ⟨v', w', hrun, how', hg, _, hat⟩ := run_append_own_at (P := P) w 0 t o.type e i z 1 bytes ht hi hz hsz hby (by rw [hz1]; rfl) (by decide) v xs.length us how1 ⟨bb, 0, none⟩ 1 c [u] (by simp)
    (by
      intro j u' hj
      match j, hj with
      | 0, hj =>
        simp at hj
        subst hj
        simpa [Addr.add] using hcell)
    (by
      intro u' hu'
      simp at hu'
      subst hu'
      exact hR.one _ _ _ _ hG) h63 hbytes (Nat.zero_le _)
  refine wpl_append_run hgd s x t ho hs hx hrun ?_
  have hlt0 : ∀ b, b ∈ Fs.flatten → b < w0.heap.size := fun b hb' => by
    obtain ⟨H, hH, hb2⟩ := List.mem_flatten.1 hb'
    obtain ⟨j, hj⟩ := List.getElem?_of_mem hH
    have hj1 : j < Fs.length := (List.getElem?_eq_some_iff.1 hj).1
    exact hR.lt _ _ _ _ (hr j us[j] xs[j] H (List.getElem?_eq_getElem (by omega)) (List.getElem?_eq_getElem (by omega)) hj) b hb2
  have hsize := hb.size
  have hGlt : ∀ b, b ∈ G → b < w.heap.size := hR.lt _ _ _ _ hG
  have hnd' := List.nodup_append.1 hnd
  have hnv : ∀ k, v.ownBlock = some k → k ∉ Fs.flatten := fun k hk hm => hnd'.2.2 k (by simp [hk]) k hm rfl
  refine h v' w' ⟨v'.ownBlock.toList ++ (Fs ++ [G]).flatten, ⟨us ++ [u], Fs ++ [G], by simpa using how', by simp [hl], ?_, rfl⟩, ?_, ?_⟩ hg hvlt ?_
  · intro j u' x' G' hu' hx' hG'
    by_cases hj : j < xs.length
    · rw [List.getElem?_append_left (by omega)] at hu' hx' hG'
      refine hR.keep _ _ _ _ _ (hr j u' x' G' hu' hx' hG') fun b hb' => ?_
      have hm : b ∈ Fs.flatten := List.mem_flatten_of_mem (List.mem_of_getElem? hG') hb'
      have h1 := hlt0 b hm
      rw [hg.block b (by omega) (fun e => hnv b e.symm hm), hb.block b h1]
    · have hj2 : j = xs.length := by
        have := (List.getElem?_eq_some_iff.1 hx').1
        simp at this; omega
      subst hj2
      rw [List.getElem?_append_right (by omega)] at hu' hx' hG'
      simp [hul, hl] at hu' hx' hG'
      subst hu' hx' hG'
      refine hR.keep _ _ _ _ _ hG fun b hb' => hg.block b (hGlt b hb') fun e => ?_
      have := hvlt b e.symm
      have := hGe b hb'
      omega
  · simp only [List.flatten_append, List.flatten_cons, List.flatten_nil, List.append_nil]
    refine List.nodup_append.2 ⟨by cases v'.ownBlock <;> simp, List.nodup_append.2 ⟨hnd'.2.1, hGn, ?_⟩, ?_⟩
    · intro p hp q hq e
      subst e
      have := hlt0 p hp
      have := hGe p hq
      omega
    · intro p hp q hq e
      subst e
      simp at hp
      rcases hat with hat | hat
      · rw [hat] at hp
        rcases List.mem_append.1 hq with hq | hq
        · exact hnv p hp hq
        · have := hvlt p hp
          have := hGe p hq
          omega
      · rw [hat] at hp
        simp at hp
        rcases List.mem_append.1 hq with hq | hq
        · have := hlt0 p hq; omega
        · have := hGlt p hq; omega
  · intro b hb'
    rcases List.mem_append.1 hb' with hb' | hb'
    · simp at hb'
      rcases hat with hat | hat
      · rw [hat] at hb'; exact (hvlt b hb').1
      · rw [hat] at hb'; simp at hb'; omega
    · simp at hb'
      rcases hb' with ⟨H, hH, hb'⟩ | hb'
      · exact hge b (by simp; exact Or.inr ⟨H, hH, hb'⟩)
      · have := hGe b hb'; omega
  · exact (hb.mono hlo).grown hg (by omega) (fun k hk => (hvlt k hk).1)
end

/-! ### append of a whole slice of plain values -/

section
variable {P : Program} {w : World} {ops : Array Oper} {rest : List Oper} {o : Oper} {a : Act} {Q : Exit → Act → World → Prop}

theorem wpList_append_none (hgd : Region.wanted o (yielded ops a.tmps) = true) (s x : Operand) (t : TypeId)
    (ho : o.op = .call { callee := .builtin .append, args := #[s, x], argTypes := #[t, t] })
    (base : Nat) (e : TypeId) (i : TypeInfo) (size : Nat) (ht : P.underlying t = some (.slice e)) (hi : P.info? e = some i)
    (v : Value) (n : Nat) (xs : List Value) (hs : a.eval s = v) (hown : w.ownsRow base e size v n xs) (hx : a.eval x = .slice none 0 0)
    (h : wpList P ops Q rest (a.put o.dst v) w) : wpList P ops Q (o :: rest) a w :=
  wpl_append_run hgd s x t ho hs hx (run_append_owned_none (P := P) w base t o.type e i size ht hi v n xs hown) h

theorem wpl_append_vals {α : Type} {f : α → Value} (hf : ∀ x, (f x).oneCell' = true) (hgd : Region.wanted o (yielded ops a.tmps) = true) (s x : Operand) (t : TypeId)
    (ho : o.op = .call { callee := .builtin .append, args := #[s, x], argTypes := #[t, t] })
    (e : TypeId) (z : Value) (bytes : Nat) (ht : P.underlying t = some (.slice e)) (hinfo : (P.info? e).map (fun i => (i.zero, i.size, i.bytes)) = some (some z, 1, bytes)) (hz1 : z.cells = #[z])
    {lo : Nat} {v : Value} {ys : List α} (h0 : New (OwnOf e (OValR f)) lo w v ys) (hlo : lo ≤ w.heap.size)
    {v2 : Value} {xs : List α} (h2 : SlOf (ValR f) w v2 xs)
    (hs : a.eval s = v) (hx : a.eval x = v2)
    (hbytes : (ys.length + xs.length) * bytes ≤ 140737488355328) (h63 : ys.length + xs.length ≤ 9223372036854775807)
    (h : ∀ v' w', New (OwnOf e (OValR f)) lo w' v' (ys ++ xs) → w.grownBy w' v.ownBlock → (∀ k, v.ownBlock = some k → lo ≤ k ∧ k < w.heap.size) → Below lo w w' → wpList P ops Q rest (a.put o.dst v') w') :
    wpList P ops Q (o :: rest) a w := by
  obtain ⟨i, hi, hzz⟩ := Option.map_eq_some_iff.1 hinfo
  simp only [Prod.mk.injEq] at hzz
  obtain ⟨hz, hsz, hby⟩ := hzz
  have h0' := h0
  obtain ⟨F, ⟨us, Fs, how, hl, hr, rfl⟩, hnd, hge⟩ := h0
  have hul : us.length = ys.length := by simpa using how.1
  have hvlt : ∀ k, v.ownBlock = some k → lo ≤ k ∧ k < w.heap.size := fun k hk => ⟨hge k (by simp [hk]), (how.lt k hk).2⟩
  obtain ⟨vs, hsl, hvl, hvr⟩ := h2
  have hvs : vs = xs.map f := by
    apply List.ext_getElem?
    intro j
    by_cases hj : j < xs.length
    · rw [List.getElem?_map, List.getElem?_eq_getElem hj, List.getElem?_eq_getElem (by omega)]
      exact congrArg some (hvr j _ _ (List.getElem?_eq_getElem (by omega)) (List.getElem?_eq_getElem hj))
    · rw [List.getElem?_eq_none (by omega), List.getElem?_eq_none (by simp; omega)]
  subst hvs
  obtain ⟨_, ad, c, hv2, _, _, hn, hcells⟩ := hsl
  simp only [List.length_map] at hv2
  have key : ∀ (ad : Addr), (∀ (j : Nat) (u : Value), (xs.map f)[j]? = some u → w.cell? (ad.add j) = some u) → v2 = .slice (some ad) xs.length c → wpList P ops Q (o :: rest) a w := by
    intro ad had hv2'
    obtain ⟨v', w', hrun, how', hg, _, hat⟩ := run_append_own_at (P := P) w 0 t o.type e i z 1 bytes ht hi hz hsz hby (by rw [hz1]; rfl) (by decide) v ys.length us how ad xs.length c (xs.map f) (by simp) had
      (by
        intro u hu
        obtain ⟨y, _, rfl⟩ := List.mem_map.1 hu
        exact hf y) h63 hbytes (Nat.zero_le _)
    refine wpl_append_run hgd s x t ho hs (by rw [hx, hv2']) hrun ?_
    have hFs : ∀ G, G ∈ Fs → G = [] := fun G hG => by
      obtain ⟨j, hj⟩ := List.getElem?_of_mem hG
      have hj1 : j < Fs.length := (List.getElem?_eq_some_iff.1 hj).1
      exact (hr j us[j] ys[j] G (List.getElem?_eq_getElem (by omega)) (List.getElem?_eq_getElem (by omega)) hj).2
    have hfl : (Fs ++ List.replicate xs.length []).flatten = [] := by
      rw [List.flatten_eq_nil_iff]
      intro G hG
      rcases List.mem_append.1 hG with hG | hG
      · exact hFs G hG
      · exact (List.mem_replicate.1 hG).2
    refine h v' w' ⟨_, ⟨us ++ xs.map f, Fs ++ List.replicate xs.length [], by simpa using how', by simp [hl], ?_, rfl⟩, ?_, ?_⟩ hg hvlt (Below.of_grown hg hlo fun k hk => (hvlt k hk).1)
    · intro j u' x' G' hu' hx' hG'
      by_cases hj : j < ys.length
      · rw [List.getElem?_append_left (by omega)] at hu' hx' hG'
        exact hr j u' x' G' hu' hx' hG'
      · rw [List.getElem?_append_right (by omega)] at hu' hx' hG'
        rw [hul, List.getElem?_map, hx'] at hu'
        simp at hu'
        exact ⟨hu'.symm, (List.mem_replicate.1 (List.mem_of_getElem? hG')).2⟩
    · rw [hfl]
      cases v'.ownBlock <;> simp
    · intro b hb
      rw [hfl] at hb
      simp at hb
      rcases hat with hat | hat
      · rw [hat] at hb; exact (hvlt b hb).1
      · rw [hat] at hb; simp at hb; omega
  cases ad with
  | none =>
    have hx0 : xs = [] := by
      rcases hcells with h | ⟨b, o, h, _⟩
      · simpa using h
      · cases h
    subst hx0
    have := hn rfl
    subst this
    refine wpList_append_none hgd s x t ho 0 e i 1 ht hi v _ us hs how (by rw [hx, hv2]; rfl) ?_
    exact h v w (by rw [List.append_nil]; exact h0') ⟨rfl, rfl, rfl, Nat.le_refl _, fun _ _ _ => rfl⟩ hvlt (Below.refl _ _)
  | some ad =>
    rcases hcells with hnil | ⟨b, o, had, _, hc⟩
    · exact key ad (by rw [hnil]; simp) hv2
    · cases had
      refine key _ (fun j u hj => ?_) hv2
      have := hc j u hj
      cases j <;> simpa [Addr.add] using this
end

/-! ### make -/

theorem New.made {α : Type} {R : OwnRel α} {lo : Nat} (e : TypeId) (w : World) (z : Value) (d : α) (n : Nat) (h : lo ≤ w.heap.size) (hn : n ≤ 9223372036854775807) (hz : ∀ w, R w z d []) :
    New (OwnOf e R) lo (w.alloc (.cells (madeCells #[z] n) e)) (.slice (some ⟨w.heap.size, 0, none⟩) n n) (List.replicate n d) := by
  have ho := World.ownsRow_lit (base := 0) (e := e) (size := 1) w (madeCells #[z] n) n (Nat.zero_le _) hn (by simp [size_madeCells])
  rw [toList_madeCells_one] at ho
  refine ⟨[w.heap.size], ⟨_, List.replicate n [], by simpa using ho, by simp, ?_, by simp [Value.ownBlock]⟩, by simp [Fresh]; omega⟩
  intro i u x G hu hx hG
  simp [List.getElem?_replicate] at hu hx hG
  obtain ⟨_, rfl⟩ := hu
  obtain ⟨_, rfl⟩ := hx
  obtain ⟨_, rfl⟩ := hG
  exact hz _

theorem OIntR.zero (w : World) : OIntR w (.int .i64 0) 0 [] := ⟨rfl, rfl⟩
theorem nodup_flatten {L : List (List Nat)} : L.flatten.Nodup ↔ (∀ l, l ∈ L → l.Nodup) ∧ L.Pairwise (fun l₁ l₂ => ∀ x, x ∈ l₁ → ∀ y, y ∈ l₂ → x ≠ y) := List.pairwise_flatten

/-! ### one element of what is owned -/

/-- Only the blocks F may hold something else. -/
structure Off (F : List Nat) (w w' : World) : Prop where
  os : w'.os = w.os
  tape : w'.tape = w.tape
  output : w'.output = w.output
  size : w.heap.size ≤ w'.heap.size
  block : ∀ b, b < w.heap.size → b ∉ F → w'.heap[b]? = w.heap[b]?

theorem Off.trans {F : List Nat} {a b c : World} (h : Off F a b) (k : Off F b c) : Off F a c :=
  ⟨k.os.trans h.os, k.tape.trans h.tape, k.output.trans h.output, Nat.le_trans h.size k.size, fun i hi hf => (k.block i (Nat.lt_of_lt_of_le hi h.size) hf).trans (h.block i hi hf)⟩
theorem Off.setCell {F : List Nat} {w : World} {p : Addr} (hp : p.block ∈ F) (u : Value) : Off F w (w.setCell p u) :=
  ⟨rfl, rfl, rfl, by simp [World.setCell], fun b _ hf => Below.heap_setCell _ _ _ _ (fun e => hf (e ▸ hp))⟩
/-- The value of an own slice that has an element; its element's cell. -/
theorem OwnOf.focus {α : Type} {e : TypeId} {R : OwnRel α} (hR : Kept R) {w : World} {v : Value} {xs : List α} {F : List Nat} (h : OwnOf e R w v xs F) (hn : F.Nodup) {i : Nat} {x : α} (hx : xs[i]? = some x) :
    ∃ b c u G, v = .slice (some ⟨b, 0, none⟩) xs.length c ∧ xs.length ≤ c ∧ b ∈ F ∧ b ∉ G ∧ w.cell? ⟨b, i, none⟩ = some u ∧ w.frozen? ⟨b, i, none⟩ = false ∧ R w u x G ∧ (∀ q, q ∈ G → q ∈ F) ∧ G.Nodup ∧
      (∀ w' y, R w' u y G → (∀ q, q ∈ F → q ∉ G → w'.heap[q]? = w.heap[q]?) → OwnOf e R w' v (xs.set i y) F) ∧
      (∀ w' u' y G', R w' u' y G' → b ∉ G' → (∀ q, q ∈ F → q ∉ G → w'.heap[q]? = w.heap[q]?) → ∃ F', OwnOf e R (w'.setCell ⟨b, i, none⟩ u') v (xs.set i y) F' ∧ (∀ q, q ∈ F' → q ∈ F ∨ q ∈ G') ∧ (G'.Nodup → (∀ q, q ∈ G' → q ∈ F → q ∈ G) → F'.Nodup) ∧ (G' = G → F' = F)) := by
  obtain ⟨us, Fs, ho, hl, hr, rfl⟩ := h
  have hul : us.length = xs.length := by simpa using ho.1
  have hi : i < xs.length := (List.getElem?_eq_some_iff.1 hx).1
  rcases ho.2 with ⟨rfl, h0⟩ | ⟨b, cap, cur, rfl, _, hg, hnc, hcm, hcs, htake⟩
  · omega
  have hFi : Fs[i]? = some Fs[i] := List.getElem?_eq_getElem (by omega)
  have hui : us[i]? = some us[i] := List.getElem?_eq_getElem (by omega)
  have hmemG : ∀ q, q ∈ Fs[i] → q ∈ Fs.flatten := fun q hq => List.mem_flatten_of_mem (List.mem_of_getElem? hFi) hq
  have hnd := List.nodup_append.1 hn
  have hb : ∀ q, q ∈ Fs.flatten → q ≠ b := fun q hq e => hnd.2.2 b (by simp [Value.ownBlock]) q hq e.symm
  have hdisj : ∀ (j : Nat) (G : List Nat) (q : Nat), Fs[j]? = some G → q ∈ G → q ∈ Fs[i] → j = i := by
    intro j G q hG hq hq'
    have hp := (nodup_flatten.1 hnd.2.1).2
    rcases Nat.lt_trichotomy j i with hlt | he | hgt
    · have hj : j < Fs.length := by omega
      have := List.pairwise_iff_getElem.1 hp j i hj (by omega) hlt
      have e : Fs[j] = G := by rw [List.getElem?_eq_getElem hj] at hG; exact Option.some.inj hG
      exact absurd rfl (this q (e ▸ hq) q hq')
    · exact he
    · have hj : j < Fs.length := (List.getElem?_eq_some_iff.1 hG).1
      have := List.pairwise_iff_getElem.1 hp i j (by omega) hj hgt
      have e : Fs[j] = G := by rw [List.getElem?_eq_getElem hj] at hG; exact Option.some.inj hG
      exact absurd rfl (this q hq' q (e ▸ hq))
  refine ⟨b, cap, us[i], Fs[i], rfl, hnc, by simp [Value.ownBlock], fun hm => hb b (hmemG b hm) rfl, ?_, ?_, hr i _ x _ hui hx hFi, fun q hq => by simp; exact Or.inr (List.mem_flatten.1 (hmemG q hq)), (nodup_flatten.1 hnd.2.1).1 _ (List.mem_of_getElem? hFi), ?_, ?_⟩
  · rw [ho.cellAt i (by omega), hui]
  · exact ho.frozenAt i
  · intro w' y hy hk
    refine ⟨us, Fs, by simpa using ownsRow_keep ho fun q hq => hk q (by simp [hq]) fun hm => hb q (hmemG q hm) (by simp [Value.ownBlock] at hq; exact hq.symm), by simpa using hl, ?_, rfl⟩
    intro j u' x' G' hu' hx' hG'
    by_cases hj : j = i
    · subst hj
      rw [hui] at hu'
      rw [hFi] at hG'
      simp [hi] at hx'
      rw [← Option.some.inj hu', ← Option.some.inj hG', ← hx']
      exact hy
    · rw [List.getElem?_set_ne (Ne.symm hj)] at hx'
      refine hR.keep _ _ _ _ _ (hr j u' x' G' hu' hx' hG') fun q hq => hk q ?_ fun hm => hj (hdisj j G' q hG' hq hm)
      exact List.mem_append_right _ (List.mem_flatten_of_mem (List.mem_of_getElem? hG') hq)
  · intro w' u' y G' hy hbG hk
    have ho' : w'.ownsRow 0 e 1 (.slice (some ⟨b, 0, none⟩) xs.length cap) xs.length us := ownsRow_keep ho fun q hq => hk q (by simp [hq]) fun hm => hb q (hmemG q hm) (by simp [Value.ownBlock] at hq; exact hq.symm)
    have hst := (ho'.stored i u').1
    have hmem : ∀ q, q ∈ (Fs.set i G').flatten → q ∈ Fs.flatten ∨ q ∈ G' := by
      intro q hq
      obtain ⟨G, hG, hq⟩ := List.mem_flatten.1 hq
      rcases List.mem_or_eq_of_mem_set hG with hG | e
      · exact Or.inl (List.mem_flatten_of_mem hG hq)
      · exact Or.inr (e ▸ hq)
    refine ⟨_, ⟨us.set i u', Fs.set i G', by simpa using hst, by simpa using hl, ?_, rfl⟩, ?_, ?_, fun e => by rw [e, List.set_getElem_self]⟩
    · intro j u2 x2 G2 hu2 hx2 hG2
      by_cases hj : j = i
      · subst hj
        simp [hi, hul, hl] at hu2 hx2 hG2
        subst hu2 hx2 hG2
        exact hR.keep _ _ _ _ _ hy fun q hq => Below.heap_setCell _ _ _ _ (fun e => hbG (by have e2 : q = b := e; exact e2 ▸ hq))
      · rw [List.getElem?_set_ne (Ne.symm hj)] at hu2 hx2 hG2
        have hm : ∀ q, q ∈ G2 → q ∈ Fs.flatten := fun q hq => List.mem_flatten_of_mem (List.mem_of_getElem? hG2) hq
        refine hR.keep _ _ _ _ _ (hr j u2 x2 G2 hu2 hx2 hG2) fun q hq => ?_
        rw [Below.heap_setCell _ _ _ _ (hb q (hm q hq)), hk q (by simp; exact Or.inr (List.mem_flatten.1 (hm q hq))) fun hm' => hj (hdisj j G2 q hG2 hq hm')]
    · intro q hq
      simp only [Value.ownBlock, Option.toList, List.cons_append, List.nil_append, List.mem_cons] at hq ⊢
      rcases hq with hq | hq
      · exact Or.inl (Or.inl hq)
      · exact (hmem q hq).imp Or.inr id
    · intro hGn hGd
      simp only [Value.ownBlock, Option.toList, List.cons_append, List.nil_append, List.nodup_cons]
      refine ⟨fun hm => (hmem b hm).elim (fun h => hb b h rfl) hbG, nodup_flatten.2 ⟨fun l hl2 => ?_, ?_⟩⟩
      · rcases List.mem_or_eq_of_mem_set hl2 with h | e
        · exact (nodup_flatten.1 hnd.2.1).1 l h
        · exact e ▸ hGn
      · have hp := (nodup_flatten.1 hnd.2.1).2
        rw [List.pairwise_iff_getElem] at hp ⊢
        intro j k hj hk' hjk p hp1 q hq1 e
        subst e
        simp at hj hk'
        by_cases hji : j = i
        · subst hji
          rw [List.getElem_set_self] at hp1
          rw [List.getElem_set_ne (by omega)] at hq1
          have := hGd p hp1 (by simp only [Value.ownBlock, Option.toList, List.cons_append, List.nil_append, List.mem_cons]; exact Or.inr (List.mem_flatten_of_mem (List.getElem_mem _) hq1))
          have := hdisj k _ p (List.getElem?_eq_getElem (by simpa using hk')) hq1 this
          omega
        · rw [List.getElem_set_ne (by omega)] at hp1
          by_cases hki : k = i
          · subst hki
            rw [List.getElem_set_self] at hq1
            have := hGd p hq1 (by simp only [Value.ownBlock, Option.toList, List.cons_append, List.nil_append, List.mem_cons]; exact Or.inr (List.mem_flatten_of_mem (List.getElem_mem _) hp1))
            have := hdisj j _ p (List.getElem?_eq_getElem (by simpa using hj)) hp1 this
            omega
          · rw [List.getElem_set_ne (by omega)] at hq1
            exact hp j k hj hk' hjk p hp1 p hq1 rfl

/-- A number of an own slice of numbers: its cell, and what a store leaves. -/
theorem New.int_at {e : TypeId} {lo : Nat} {w : World} {v : Value} {xs : List Int} (h : New (OInts e) lo w v xs) {i : Nat} {x : Int} (hx : xs[i]? = some x) :
    ∃ b c, v = .slice (some ⟨b, 0, none⟩) xs.length c ∧ xs.length ≤ c ∧ lo ≤ b ∧ b < w.heap.size ∧ w.cell? ⟨b, i, none⟩ = some (.int .i64 x) ∧ w.frozen? ⟨b, i, none⟩ = false ∧
      ∀ y, New (OInts e) lo (w.setCell ⟨b, i, none⟩ (.int .i64 y)) v (xs.set i y) := by
  obtain ⟨F, hF, hn, hge⟩ := h
  obtain ⟨b, c, u, G, hv, hc, hbF, hbG, hcell, hfr, ⟨rfl, rfl⟩, _, _, _, hst⟩ := hF.focus OIntR.kept hn hx
  refine ⟨b, c, hv, hc, hge b hbF, (OInts.kept e).lt _ _ _ _ hF b hbF, hcell, hfr, fun y => ?_⟩
  obtain ⟨F', hF', hsub, hn', _⟩ := hst w (.int .i64 y) y [] ⟨rfl, rfl⟩ (by simp) (fun _ _ _ => rfl)
  exact ⟨F', hF', hn' (by simp) (by simp), fun q hq => (hsub q hq).elim (hge q) (by simp)⟩

/-- An entry of an own table: its row's cell, its own cell, and what a store leaves. -/
theorem New.tab_at {eI eR : TypeId} {lo : Nat} {w : World} {v : Value} {m : List (List Int)} (h : New (OTab eI eR) lo w v m) {i j : Nat} {r : List Int} {x : Int} (hr : m[i]? = some r) (hx : r[j]? = some x) :
    ∃ b c rb rc, v = .slice (some ⟨b, 0, none⟩) m.length c ∧ m.length ≤ c ∧ lo ≤ b ∧ b < w.heap.size ∧ w.cell? ⟨b, i, none⟩ = some (.slice (some ⟨rb, 0, none⟩) r.length rc) ∧ r.length ≤ rc ∧ lo ≤ rb ∧ rb < w.heap.size ∧
      w.cell? ⟨rb, j, none⟩ = some (.int .i64 x) ∧ w.frozen? ⟨rb, j, none⟩ = false ∧ ∀ y, New (OTab eI eR) lo (w.setCell ⟨rb, j, none⟩ (.int .i64 y)) v (m.set i (r.set j y)) := by
  obtain ⟨F, hF, hn, hge⟩ := h
  have hlt := (OTab.kept eI eR).lt _ _ _ _ hF
  obtain ⟨b, c, u, G, hv, hc, hbF, hbG, hcell, _, hu, hGF, hGn, hst, _⟩ := hF.focus (OInts.kept eI) hn hr
  obtain ⟨rb, rc, u2, G2, rfl, hrc, hrb, _, hcell2, hfr2, ⟨rfl, rfl⟩, _, _, _, hst2⟩ := hu.focus OIntR.kept hGn hx
  refine ⟨b, c, rb, rc, hv, hc, hge b hbF, hlt b hbF, hcell, hrc, hge rb (hGF rb hrb), hlt rb (hGF rb hrb), hcell2, hfr2, fun y => ?_⟩
  obtain ⟨F', hF', _, _, e⟩ := hst2 w (.int .i64 y) y [] ⟨rfl, rfl⟩ (by simp) (fun _ _ _ => rfl)
  rw [e rfl] at hF'
  exact ⟨F, hst _ _ hF' (fun q hq hqG => Below.heap_setCell _ _ _ _ (fun e => hqG (by have e2 : q = rb := e; exact e2 ▸ hrb))), hn, hge⟩

/-- A call that makes memory and answers a bool besides. -/
def Makes2 {α : Type} (R : OwnRel α) (w : World) (x : α) (ok : Bool) (e : Ending) (w' : World) : Prop := ∃ r, e = .returned (.tuple #[r, .bool ok]) ∧ New R w.heap.size w' r x ∧ Below w.heap.size w w'

/-- A table's entry, by its indexes. -/
def ent (m : List (List Int)) (i j : Nat) : Int := (m.getD i []).getD j 0

/-- n rows of n numbers. -/
def Sq (n : Nat) (m : List (List Int)) : Prop := m.length = n ∧ ∀ r, r ∈ m → r.length = n

/-- A table of rows of one length that is not empty: where its entries lie. -/
theorem Tab.entries {w : World} {v : Value} {m : List (List Int)} {n l : Nat} (h : Tab w v m) (hn : m.length = n) (hr : ∀ r, r ∈ m → r.length = l) (h0 : 0 < n) :
    ∃ b o c, v = .slice (some ⟨b, o, none⟩) n c ∧ b < w.heap.size ∧ ∀ i, i < n → ∃ a' c', w.cell? ⟨b, o + i, none⟩ = some (.slice a' l c') ∧ Ints w (.slice a' l c') (m.getD i []) ∧ (0 < l → ∃ b' o', a' = some ⟨b', o', none⟩ ∧ b' < w.heap.size ∧ ∀ j, j < l → w.cell? ⟨b', o' + j, none⟩ = some (.int .i64 (ent m i j))) := by
  subst hn
  obtain ⟨a, c, rfl, _, _, hc⟩ := h.shape
  obtain ⟨b, o, rfl, hb, hx⟩ := hc h0
  refine ⟨b, o, c, rfl, hb, fun i hi => ?_⟩
  obtain ⟨r, hri, _⟩ := at_lt hi
  obtain ⟨u, hu, hru⟩ := hx i r hri
  have hrl := hr r (List.mem_of_getElem? hri)
  have hru' := hru
  have hg : m.getD i [] = r := by simp [List.getD, hri]
  obtain ⟨a', c', rfl, _, _, hc'⟩ := hru.shape
  rw [hrl] at hu hru'
  refine ⟨a', c', hu, by rw [hg]; exact hru', fun hl => ?_⟩
  obtain ⟨b', o', rfl, hb', hx'⟩ := hc' (by omega)
  refine ⟨b', o', rfl, hb', fun j hj => ?_⟩
  obtain ⟨x, hxj, _⟩ := at_lt (xs := r) (k := j) (by omega)
  obtain ⟨u2, hu2, rfl⟩ := hx' j x hxj
  rw [hu2, ent, hg]
  simp [List.getD, hxj]

/-- Where a table's entries lie, its address known. -/
def EntAt (w : World) (b o n l : Nat) (m : List (List Int)) : Prop :=
  ∀ i, i < n → ∃ a' c', w.cell? ⟨b, o + i, none⟩ = some (.slice a' l c') ∧ Ints w (.slice a' l c') (m.getD i []) ∧ (0 < l → ∃ b' o', a' = some ⟨b', o', none⟩ ∧ b' < w.heap.size ∧ ∀ j, j < l → w.cell? ⟨b', o' + j, none⟩ = some (.int .i64 (ent m i j)))

theorem Tab.entAt {w : World} {v : Value} {m : List (List Int)} {n l : Nat} (h : Tab w v m) (hn : m.length = n) (hr : ∀ r, r ∈ m → r.length = l) (h0 : 0 < n) :
    ∃ b o c, v = .slice (some ⟨b, o, none⟩) n c ∧ b < w.heap.size ∧ EntAt w b o n l m := Tab.entries h hn hr h0

/-- Row i, column j. -/
theorem EntAt.at {w : World} {b o n l : Nat} {m : List (List Int)} (h : EntAt w b o n l m) {i : Nat} (hi : i < n) (hl : 0 < l) :
    ∃ b' o' c', w.cell? ⟨b, o + i, none⟩ = some (.slice (some ⟨b', o', none⟩) l c') ∧ b' < w.heap.size ∧ Ints w (.slice (some ⟨b', o', none⟩) l c') (m.getD i []) ∧ ∀ j, j < l → w.cell? ⟨b', o' + j, none⟩ = some (.int .i64 (ent m i j)) := by
  obtain ⟨a', c', h1, h2, h3⟩ := h i hi
  obtain ⟨b', o', rfl, h4, h5⟩ := h3 hl
  exact ⟨b', o', c', h1, h4, h2, h5⟩

theorem Ints.dn {w : World} {v : Value} {xs : List Int} (h : Ints w v xs) (n : Nat) : Ints (w.drewN n) v xs := Ints.frame _ _ _ _ h (below_drewN (Below.refl _ _) n)
theorem Tab.dn {w : World} {v : Value} {xs : List (List Int)} (h : Tab w v xs) (n : Nat) : Tab (w.drewN n) v xs := Tab.frame _ _ _ _ h (below_drewN (Below.refl _ _) n)
/-- What a call that only makes memory leaves. -/
def Makes {α : Type} (R : OwnRel α) (w : World) (x : α) (e : Ending) (w' : World) : Prop := ∃ r, e = .returned r ∧ New R w.heap.size w' r x ∧ Below w.heap.size w w'

theorem New.slice {α : Type} {e : TypeId} {R : OwnRel α} {lo : Nat} {w : World} {v : Value} {xs : List α} (h : New (OwnOf e R) lo w v xs) : ∃ a n c, v = .slice a n c := by
  obtain ⟨F, ⟨us, Fs, ho, _⟩, _⟩ := h
  rcases ho.2 with ⟨rfl, _⟩ | ⟨g, cap, cur, rfl, _⟩
  · exact ⟨_, _, _, rfl⟩
  · exact ⟨_, _, _, rfl⟩

/-- The world has drawn, no more. -/
def Drawn (w w' : World) : Prop := ∃ n, w' = w.drewN n
theorem Drawn.refl (w : World) : Drawn w w := ⟨0, rfl⟩
theorem Drawn.trans {a b c : World} (h : Drawn a b) (k : Drawn b c) : Drawn a c := by
  obtain ⟨n, rfl⟩ := h
  obtain ⟨m, rfl⟩ := k
  exact ⟨_, World.drewN_drewN _ _ _⟩
theorem Drawn.drewN {a b : World} (h : Drawn a b) (n : Nat) : Drawn a (b.drewN n) := h.trans ⟨n, rfl⟩
theorem Drawn.cell {w w' : World} (h : Drawn w w') (p : Addr) : w'.cell? p = w.cell? p := by obtain ⟨n, rfl⟩ := h; rfl
theorem Drawn.below {w w' : World} (h : Drawn w w') (B : Nat) : Below B w w' := by obtain ⟨n, rfl⟩ := h; exact below_drewN (Below.refl _ _) n
theorem Drawn.read {α : Type} {R : World → Value → α → Prop} (hR : Framed R) {w w' : World} {v : Value} {x : α} (h : Drawn w w') (hr : R w v x) : R w' v x := hR _ _ _ _ hr (h.below _)

/-- A call that only reads, and may draw. -/
def Reads (w : World) (r : Value) (e : Ending) (w' : World) : Prop := e = .returned r ∧ Drawn w w'

theorem Reads.quiet {P : Program} {f : FuncId} {args : Array Value} {w : World} {n : Nat} {r : Value} (h : Calls P f args (w.drewN n) (Reads (w.drewN n) r)) : Calls P f args (w.drewN n) fun e w'' => e = .returned r ∧ ∃ m, w'' = w.drewN m :=
  Calls.quiet_of h

end Go.Sd
end
