/-
  Texts of this claim joined: laws for its walks, contracts of the functions that the law reaches.
-/
import Derived.Test.YtcilgihmaaobeaaDoorFnSyncM1
import Derived.Test.YtcilgihmaaobeaaDoorFnSyncM3
import Derived.Test.YtcilgihmaaobeaaDoorRows
import Derived.Test.YtcilgihmaaobeaaDoorFnSyncM2
import Derived.IntWalk
import Derived.Deep.RegionHeld3
import Derived.Deep.DeepCutAuto
set_option linter.unusedVariables false
set_option linter.unusedSimpArgs false
section
namespace Go.Proofs.YtcilgihmaaobeaaDoor
open Go.RowKit Go.Deep Go.Sd

def OkS (sets : List Nat) : Prop := sets.Nodup ∧ ∀ s, s ∈ sets → 0 < s ∧ s < 4096
theorem OkS.len {sets : List Nat} (h : OkS sets) : sets.length ≤ 4095 := by
  have h1 : (sets.map (· - 1)).Nodup := by
    rw [List.Nodup, List.pairwise_map]
    refine List.Pairwise.imp_of_mem (fun {a b} ha hb hne e => hne ?_) h.1
    have := h.2 a ha
    have := h.2 b hb
    omega
  have h2 := nodup_below 4095 _ h1 fun x hx => by
    obtain ⟨s, hs, rfl⟩ := List.mem_map.1 hx
    have := h.2 s hs
    omega
  simpa using h2
def addS (sets : List Nat) (t : Nat) : List Nat := if t = 0 ∨ t ∈ sets then sets else sets ++ [t]
def posS (sets : List Nat) (t : Nat) : Int := if t = 0 then -1 else (sets.idxOf t : Int)
theorem OkS.add {sets : List Nat} (h : OkS sets) {t : Nat} (ht : t < 4096) : OkS (addS sets t) := by
  unfold addS
  by_cases e : t = 0 ∨ t ∈ sets
  · rw [if_pos e]; exact h
  · rw [if_neg e]
    rw [not_or] at e
    refine ⟨List.nodup_append.2 ⟨h.1, by simp, fun a ha b hb => ?_⟩, fun s hs => ?_⟩
    · simp at hb; subst hb; exact fun e2 => e.2 (e2 ▸ ha)
    · rcases List.mem_append.1 hs with hs | hs
      · exact h.2 s hs
      · simp at hs; subst hs; omega
theorem addS_pre (sets : List Nat) (t : Nat) : ∃ u, addS sets t = sets ++ u := by
  unfold addS
  split
  · exact ⟨[], by simp⟩
  · exact ⟨[t], rfl⟩
/-- One row: where each letter leads from s. -/
def rowS (A : List Arc3) (s : Nat) : Nat → Nat → List Nat → List Int → List Nat × List Int
  | 0, _, sets, row => (sets, row)
  | n + 1, x, sets, row => rowS A s n (x + 1) (addS sets (stepN A s (x : Int))) (row ++ [posS sets (stepN A s (x : Int))])
def bfsS (A : List Arc3) (L : Nat) : Nat → List Nat → Nat → List (List Int) → List Nat × List (List Int)
  | 0, sets, _, next => (sets, next)
  | f + 1, sets, k, next => match sets[k]? with
    | none => (sets, next)
    | some s => bfsS A L f (rowS A s L 0 sets []).1 (k + 1) (next ++ [(rowS A s L 0 sets []).2])
section
variable {A : List Arc3}
theorem rowS_ok (hA : ∀ s x, stepN A s x < 4096) (s : Nat) : ∀ (n x : Nat) (sets : List Nat) (row : List Int), OkS sets → OkS (rowS A s n x sets row).1
  | 0, _, _, _, h => h
  | n + 1, x, sets, row, h => rowS_ok hA s n (x + 1) _ _ (h.add (hA _ _))
theorem rowS_pre (s : Nat) : ∀ (n x : Nat) (sets : List Nat) (row : List Int), ∃ u, (rowS A s n x sets row).1 = sets ++ u
  | 0, _, sets, _ => ⟨[], by simp [rowS]⟩
  | n + 1, x, sets, row => by
    obtain ⟨u, hu⟩ := addS_pre sets (stepN A s (x : Int))
    obtain ⟨v, hv⟩ := rowS_pre s n (x + 1) (addS sets (stepN A s (x : Int))) (row ++ [posS sets (stepN A s (x : Int))])
    exact ⟨u ++ v, by simp only [rowS]; rw [hv, hu, List.append_assoc]⟩
end
/-! The search with words. -/
abbrev Ent := Nat × List Nat
def addE (es : List Ent) (t : Nat) (w : List Nat) : List Ent := if t = 0 ∨ t ∈ es.map (·.1) then es else es ++ [(t, w)]
def rowE (A : List Arc3) (s : Nat) (w : List Nat) : Nat → Nat → List Ent → List Ent
  | 0, _, es => es
  | n + 1, x, es => rowE A s w n (x + 1) (addE es (stepN A s (x : Int)) (w ++ [x]))
def nextE (A : List Arc3) (L most : Nat) (es : List Ent) (e : Ent) : List Ent := if e.2.length = most then es else rowE A e.1 e.2 L 0 es
def reachE {σ : Type} (A : List Arc3) (L most : Nat) (cb : σ → Ent → σ × Bool) : Nat → List Ent → Nat → σ → σ
  | 0, _, _, st => st
  | f + 1, es, k, st => match es[k]? with
    | none => st
    | some e => if (cb st e).2 = true then (cb st e).1 else reachE A L most cb f (nextE A L most es e) (k + 1) (cb st e).1
def OkE (es : List Ent) : Prop := OkS (es.map (·.1))
theorem OkE.len {es : List Ent} (h : OkE es) : es.length ≤ 4095 := by simpa using OkS.len h
theorem addE_fst (es : List Ent) (t : Nat) (w : List Nat) : (addE es t w).map (·.1) = addS (es.map (·.1)) t := by
  unfold addE addS
  split
  · rfl
  · simp
theorem OkE.add {es : List Ent} (h : OkE es) {t : Nat} (ht : t < 4096) (w : List Nat) : OkE (addE es t w) := by
  unfold OkE
  rw [addE_fst]
  exact OkS.add h ht
theorem rowE_fst (A : List Arc3) (s : Nat) (w : List Nat) : ∀ (n x : Nat) (es : List Ent) (r : List Int), (rowE A s w n x es).map (·.1) = (rowS A s n x (es.map (·.1)) r).1
  | 0, _, _, _ => rfl
  | n + 1, x, es, r => by
    simp only [rowE, rowS]
    rw [rowE_fst A s w n (x + 1) _ (r ++ [posS (es.map (·.1)) (stepN A s (x : Int))]), addE_fst]
theorem rowE_ok {A : List Arc3} (hA : ∀ s x, stepN A s x < 4096) (s : Nat) (w : List Nat) (n x : Nat) {es : List Ent} (h : OkE es) : OkE (rowE A s w n x es) := by
  unfold OkE
  rw [rowE_fst A s w n x es []]
  exact rowS_ok hA s n x _ _ h
theorem nextE_ok {A : List Arc3} (hA : ∀ s x, stepN A s x < 4096) (L most : Nat) {es : List Ent} (h : OkE es) (e : Ent) : OkE (nextE A L most es e) := by
  unfold nextE
  split
  · exact h
  · exact rowE_ok hA _ _ _ _ h
/-- The words' lengths: at most the place; at most a bound. -/
def Short (es : List Ent) : Prop := ∀ (i : Nat) (e : Ent), es[i]? = some e → e.2.length ≤ i
def Capped (m : Nat) (es : List Ent) : Prop := ∀ e, e ∈ es → e.2.length ≤ m
theorem addE_short {es : List Ent} (h : Short es) {t : Nat} {w : List Nat} (hw : w.length ≤ es.length) : Short (addE es t w) := by
  unfold addE
  split
  · exact h
  · intro i e hi
    by_cases hl : i < es.length
    · rw [List.getElem?_append_left hl] at hi; exact h i e hi
    · have h1 := (List.getElem?_eq_some_iff.1 hi).1
      simp at h1
      have e1 : i = es.length := by omega
      subst e1
      rw [List.getElem?_append_right (by omega)] at hi
      simp at hi
      subst hi
      exact hw
theorem addE_len (es : List Ent) (t : Nat) (w : List Nat) : es.length ≤ (addE es t w).length := by
  unfold addE
  split <;> simp
theorem rowE_short (A : List Arc3) (s : Nat) (w : List Nat) : ∀ (n x : Nat) (es : List Ent), Short es → w.length + 1 ≤ es.length → Short (rowE A s w n x es)
  | 0, _, _, h, _ => h
  | n + 1, x, es, h, hw => rowE_short A s w n (x + 1) _ (addE_short h (by simpa using hw)) (Nat.le_trans hw (addE_len _ _ _))
theorem addE_capped {m : Nat} {es : List Ent} (h : Capped m es) {t : Nat} {w : List Nat} (hw : w.length ≤ m) : Capped m (addE es t w) := by
  unfold addE
  split
  · exact h
  · intro e he
    rcases List.mem_append.1 he with he | he
    · exact h e he
    · simp at he; subst he; exact hw
/-! The least of numbers that belong to the sets. -/
def minF (f : Nat → Int) (a : Int) (s : Nat) : Int := if f s < a then f s else a
def cbMin (f : Nat → Int) (a : Int) (e : Ent) : Int × Bool := (minF f a e.1, false)
theorem reach_min (A : List Arc3) (L : Nat) (f : Nat → Int) (hA : ∀ s x, stepN A s x < 4096) : ∀ (g : Nat) (es : List Ent) (k : Nat) (next : List (List Int)) (a0 : Int),
    OkE es → Short es → 4096 ≤ g + k → reachE A L 4096 (cbMin f) g es k (((es.map (·.1)).take k).foldl (minF f) a0) = (bfsS A L g (es.map (·.1)) k next).1.foldl (minF f) a0
  | 0, es, k, next, a0, ho, _, hg => by
    have := ho.len
    simp only [reachE, bfsS]
    rw [List.take_of_length_le (by simp; omega)]
  | g + 1, es, k, next, a0, ho, hs, hg => by
    unfold reachE bfsS
    rw [List.getElem?_map]
    cases hk : es[k]? with
    | none =>
      simp only [Option.map_none]
      rw [List.take_of_length_le (by simp; exact List.getElem?_eq_none_iff.1 hk)]
    | some e =>
      simp only [Option.map_some]
      have hkl := (List.getElem?_eq_some_iff.1 hk).1
      have hl := ho.len
      have hse := hs k e hk
      have e1 : nextE A L 4096 es e = rowE A e.1 e.2 L 0 es := by unfold nextE; rw [if_neg (by omega)]
      have e2 := rowE_fst A e.1 e.2 L 0 es []
      obtain ⟨u, hu⟩ := rowS_pre (A := A) e.1 L 0 (es.map (·.1)) []
      have ih := reach_min A L f hA g (rowE A e.1 e.2 L 0 es) (k + 1) (next ++ [(rowS A e.1 L 0 (es.map (·.1)) []).2]) a0 (rowE_ok hA _ _ _ _ ho) (rowE_short _ _ _ _ _ _ hs (by omega)) (by omega)
      have hpre := hu
      rw [← e2] at hpre
      rw [e1]
      rw [show (cbMin f (((es.map (·.1)).take k).foldl (minF f) a0) e).2 = false from rfl, if_neg (by simp)]
      rw [show (cbMin f (((es.map (·.1)).take k).foldl (minF f) a0) e).1 = (((rowE A e.1 e.2 L 0 es).map (·.1)).take (k + 1)).foldl (minF f) a0 from by
        rw [hpre, List.take_append_of_le_length (by simp; omega), List.take_add_one, List.getElem?_map, hk, List.foldl_append]
        rfl]
      rw [ih, e2]
end Go.Proofs.YtcilgihmaaobeaaDoor
end

section
namespace Go.Sd
open Go.RowKit Go.Deep
/-- A letter as a byte. -/
def letV (x : Nat) : Value := .int .u8 (97 + (x : Int))
abbrev OWord (e : TypeId) : OwnRel (List Nat) := OwnOf e (OValR letV)
theorem OLet.kept : Kept (OValR letV) := ⟨fun _ _ _ _ _ h _ => h, fun _ _ _ _ h b hb => by rw [h.2] at hb; simp at hb, fun _ _ _ _ h => by rw [h.1]; rfl⟩
theorem OWord.reads {e : TypeId} {w : World} {v : Value} {xs : List Nat} {F : List Nat} (h : OWord e w v xs F) : SlOf (ValR letV) w v xs := OwnOf.reads (fun _ _ _ _ h => h.1) h
/-- A set with its word: two cells. -/
def EntR (e : TypeId) : OwnCells (Nat × List Nat) := fun w u x F => ∃ vw, u = [.int .i64 (x.1 : Int), vw] ∧ OWord e w vw x.2 F
theorem EntR.kept (e : TypeId) : KeptC 2 (EntR e) := by
  refine ⟨?_, ?_, ?_, ?_⟩
  · rintro w w' u x F ⟨vw, rfl, h⟩ hk
    exact ⟨vw, rfl, (OwnOf.kept OLet.kept).keep _ _ _ _ _ h hk⟩
  · rintro w u x F ⟨vw, rfl, h⟩ b hb
    exact (OwnOf.kept OLet.kept).lt _ _ _ _ h b hb
  · rintro w u x F ⟨vw, rfl, h⟩ y hy
    simp at hy
    rcases hy with rfl | rfl
    · rfl
    · exact (OwnOf.kept OLet.kept).one _ _ _ _ h
  · rintro w u x F ⟨vw, rfl, h⟩; rfl
end Go.Sd
namespace Go.Proofs.YtcilgihmaaobeaaDoor
open Go.RowKit Go.Deep Go.Sd Go.Maps
def memS (ss : List Nat) : Nat → Option Bool := fun s => if s ∈ ss then some true else none
theorem memS_add (ss : List Nat) (x : Nat) {d : ∀ x' : Nat, Decidable (x' = x)} : (fun x' => @ite _ (x' = x) (d x') (some true) (memS ss x')) = memS (ss ++ [x]) := by
  funext x'
  unfold memS
  by_cases e : x' = x
  · simp [e]
  · simp [e]
theorem memS_nil : (fun _ : Nat => (none : Option Bool)) = memS [] := by funext x; simp [memS]
theorem mapK_set : MapK Tryd.prog 3 4 domS (fun s : Nat => .int .i64 (s : Int)) (fun s => .int .i64 (s : Int)) (fun y : Bool => .bool y) (fun y => .lit (.bool y)) := mapK_bool Tryd.underlying3 Tryd.underlying4
noncomputable abbrev Res.sets (b n : Nat) (ss : List Nat) : Res := Res.map Tryd.prog 3 4 domS (fun s : Nat => .int .i64 (s : Int)) (fun y => .lit (.bool y)) b n (memS ss)
theorem zeroBo (w : World) : (zeroValue 4).run Tryd.prog w = .ok (.bool false) w := by kernel_rfl
theorem _root_.Go.Sd.Sep.setAdd {lo : Nat} {w : World} {rs : List Res} {b n : Nat} {ss : List Nat} (h : Sep lo w (Res.sets b n ss :: rs)) (hlo : lo ≤ w.heap.size) (hn : n ≤ 16777216) (x : Nat) (hx : domS x) :
    ∃ w', (Instr.mapUpdate 74 (.map (some b)) (.int .i64 (x : Int)) (.bool true)).run Tryd.prog w = .ok () w' ∧ Sep lo w' (Res.sets b (n + 1) (ss ++ [x]) :: rs) ∧ Below lo w w' ∧ ∀ p : Addr, p.block < w.heap.size → p.block ≠ b → w'.cell? p = w.cell? p := by
  obtain ⟨w', hr, hs, hb, hk⟩ := h.mapStore mapK_set hlo Tryd.underlying74 (by unfold maxLen; omega) x hx true
  refine ⟨w', hr, ?_, hb, hk⟩
  show Sep lo w' (Res.map Tryd.prog 3 4 domS (fun s : Nat => .int .i64 (s : Int)) (fun y => .lit (.bool y)) b (n + 1) (memS (ss ++ [x])) :: rs)
  rw [← memS_add ss x (d := fun _ => Classical.propDecidable _)]
  exact hs
theorem _root_.Go.Sd.Sep.setLook {lo : Nat} {w : World} {rs : List Res} {b n : Nat} {ss : List Nat} (h : Sep lo w (Res.sets b n ss :: rs)) (x : Nat) (hx : domS x) :
    (Instr.lookup 74 (.map (some b)) (.int .i64 (x : Int)) false).run Tryd.prog w = .ok (.bool (decide (x ∈ ss))) w := by
  have h1 := h.mapLook mapK_set Tryd.underlying74 (zeroBo w) (plainElem_bool Tryd.underlying4 false) (fun v ps h => boolElem_inv Tryd.underlying4 h) x hx
  rw [h1]
  unfold memS
  by_cases e : x ∈ ss
  · simp [e]
  · simp [e]
theorem infoB8 : (Tryd.prog.info? 5).map (fun i => (i.zero, i.size, i.bytes)) = some (some (.int .u8 0), 1, 1) := by kernel_rfl
theorem infoSt : (Tryd.prog.info? 72).map (fun i => (i.zero, i.size, i.bytes)) = some (some (.agg #[.int .i64 0, .slice none 0 0]), 2, 32) := by kernel_rfl
abbrev Res.ents (v : Value) (es : List Ent) : Res := Res.of (OwnG 72 2 (EntR 5)) (OwnG.held (EntR.kept _)) v es
end Go.Proofs.YtcilgihmaaobeaaDoor
end

section
namespace Go.Proofs.YtcilgihmaaobeaaDoor
open Go.RowKit Go.Deep Go.Sd

theorem bit_shr (s p : Nat) : bits BinOp.and IntKind.i64 ((s : Int) / 2 ^ p) 1 = if s.testBit p = true then 1 else 0 := by
  rw [i64_and1, Nat.testBit_eq_decide_div_mod_eq]
  have h : (s : Int) / 2 ^ p = ((s / 2 ^ p : Nat) : Int) := by
    rw [show ((2 : Int) ^ p) = ((2 ^ p : Nat) : Int) by simp]; rfl
  rw [h]
  generalize s / 2 ^ p = t
  split
  · rename_i h1; simp at h1; omega
  · rename_i h1; simp at h1; omega
theorem bit_or (q p : Nat) (hq : q < 4096) (hp : p < 12) : bits BinOp.or IntKind.i64 (q : Int) (wrap64 (2 ^ p)) = ((q ||| 2 ^ p : Nat) : Int) := by
  have h1 : 2 ^ p < 4096 := Nat.pow_lt_pow_right (n := 12) (by decide) hp
  have h2 : ((2 : Int) ^ p) = ((2 ^ p : Nat) : Int) := by simp
  rw [h2]
  clear h2
  generalize 2 ^ p = r at h1 ⊢
  rw [IntWalk.wrap64_in _ (by omega), i64_or _ _ (by omega) (by omega)]
theorem or_lt (q p : Nat) (hq : q < 4096) (hp : p < 12) : q ||| 2 ^ p < 4096 := Nat.or_lt_two_pow (n := 12) hq (Nat.pow_lt_pow_right (by decide) hp)
set_option maxHeartbeats 2000000 in
set_option maxRecDepth 10000 in
theorem impl_step_c {w : World} {v : Value} {l : Lb} (h : LabR w v l) (hv : okArcs l.2.1 l.2.2) (hS : l.2.1 ≤ 12) {s : Nat} (_hs : s < 4096) (x : Int) :
    Calls Tryd.prog 57 #[v, .int .i64 s, .int .i64 x] w fun e w' => e = .returned (.int .i64 (stepN l.2.2 s x)) ∧ Below w.heap.size w w' := by
  obtain ⟨L, S, xs⟩ := l
  obtain ⟨va, rfl, hlen, a, c, rfl, _, _, _, hcell⟩ := h
  simp only at hcell hlen hv hS
  simp only
  have H0 := Lib.hid (show stepN xs s x = stepL s x (xs.drop 0) 0 from rfl)
  generalize stepN xs s x = T at H0 ⊢
  obtain ⟨n, hn⟩ : ∃ n, n = xs.length := ⟨_, rfl⟩
  have Hn := Lib.hid hn
  rw [← hn] at hcell hlen ⊢
  clear hn
  have Hv := Lib.hid hv
  clear hv
  go_enter Tryd.func57, Tryd.ntmps57
  have q2 : (w.alloc (.cells #[.int .i64 L, .int .i64 S, .slice a n c] 26)).cell? ⟨w.heap.size, 2, none⟩ = some (.slice a n c) := by simp
  have hb1 : Below w.heap.size w (w.alloc (.cells #[.int .i64 L, .int .i64 S, .slice a n c] 26)) := (Below.refl _ _).alloc (Nat.le_refl _) _
  have m1 : w.heap.size < (w.alloc (.cells #[.int .i64 L, .int .i64 S, .slice a n c] 26)).heap.size := by simp
  go_wp2
  generalize w.alloc (.cells #[.int .i64 L, .int .i64 S, .slice a n c] 26) = w1 at *
  have Hb1 := Lib.hid hb1
  have hz := hb1.size
  go_loopg [7, 13] n (fun g u i wr => ∃ (k q : Nat), i = .int .i64 k ∧ u = .int .i64 q ∧ q < 4096 ∧ k + g = n ∧ Hid (T = stepL s x (xs.drop k) q) ∧ Below w1.heap.size w1 wr)
  case atStart => exact ⟨0, 0, rfl, rfl, by decide, by omega, H0, Below.refl _ _⟩
  case round =>
    obtain ⟨k, q, rfl, rfl, hq, hk, HK, hbel⟩ := hrel
    by_cases hlt : k < n
    · obtain ⟨b, o, rfl, hb, hx0⟩ := hcell (by omega)
      obtain ⟨y, hy, hd⟩ := at_lt (xs := xs) (k := k) (by have := Hn.out; omega)
      obtain ⟨f0, f1, f2⟩ := hx0 k y hy
      obtain ⟨i0, i1, i2, i3⟩ := okArcs_at Hv.out hy
      have g0 : wr.cell? ⟨b, o + k * 3, none⟩ = some (.int .i64 y.1) := (hbel.cell (p := ⟨b, o + k * 3, none⟩) (by simp; omega)).trans ((hb1.cell (p := ⟨b, o + k * 3, none⟩) hb).trans f0)
      have g1 : wr.cell? ⟨b, o + k * 3 + 1, none⟩ = some (.int .i64 y.2.1) := (hbel.cell (p := ⟨b, o + k * 3 + 1, none⟩) (by simp; omega)).trans ((hb1.cell (p := ⟨b, o + k * 3 + 1, none⟩) hb).trans f1)
      have g2 : wr.cell? ⟨b, o + k * 3 + 2, none⟩ = some (.int .i64 y.2.2) := (hbel.cell (p := ⟨b, o + k * 3 + 2, none⟩) (by simp; omega)).trans ((hb1.cell (p := ⟨b, o + k * 3 + 2, none⟩) hb).trans f2)
      have r2 : wr.cell? ⟨w.heap.size, 2, none⟩ = some (.slice (some ⟨b, o, none⟩) n c) := (hbel.cell (p := ⟨w.heap.size, 2, none⟩) m1).trans q2
      have hz2 := hbel.size
      have hbr : b < wr.heap.size := by omega
      have hwr : w.heap.size < wr.heap.size := by omega
      have Hbel := Lib.hid hbel
      have HK1 := Lib.hid (show T = stepL s x (xs.drop (k + 1)) (if hit s x y = true then q ||| 2 ^ y.2.1.toNat else q) from by rw [HK.out, hd]; rfl)
      obtain ⟨y0, y1, y2⟩ := y
      simp only at g0 g1 g2 i0 i1 i2 i3 HK1
      obtain ⟨p0, rfl⟩ := Int.eq_ofNat_of_zero_le i0
      obtain ⟨p1, rfl⟩ := Int.eq_ofNat_of_zero_le i2
      clear HK hx0 hcell hy hd f0 f1 f2 hbel hb1 q2 H0 Hv
      have HT := Lib.hid (show (p1 : Nat) < 12 from by omega)
      have Hbs := Lib.hid (bit_shr s p0)
      have Hh := Lib.hid (show hit s x ((p0 : Int), (p1 : Int), y2) = (decide (y2 = x) && s.testBit p0) from rfl)
      generalize s.testBit p0 = tb at Hbs Hh
      cases tb with
      | false =>
        have HK2 := Lib.hid (show T = stepL s x (xs.drop (k + 1)) q from by rw [HK1.out, if_neg (by rw [Hh.out]; simp)])
        have hbs : bits BinOp.and IntKind.i64 ((s : Int) / 2 ^ p0) 1 = 0 := by rw [Hbs.out]; rfl
        clear HK1 Hh Hbs
        go_wp2
        go_roundg (n - (k + 1))
        case measure => omega
        case rel => exact ⟨k + 1, q, by go_num, rfl, hq, by omega, HK2, Hbel.out.alloc hz2 _⟩
      | true =>
      have hbs : bits BinOp.and IntKind.i64 ((s : Int) / 2 ^ p0) 1 = 1 := by rw [Hbs.out]; rfl
      by_cases he : y2 = x
      · have HK2 := Lib.hid (show T = stepL s x (xs.drop (k + 1)) (q ||| 2 ^ p1) from by rw [HK1.out, if_pos (by rw [Hh.out]; simp [he])]; rfl)
        have t1 : (y2 == x) = true := by simp [he]
        have hor := bit_or q p1 hq HT.out
        have Hlt := Lib.hid (or_lt q p1 hq HT.out)
        clear HK1 Hh Hbs he
        generalize q ||| 2 ^ p1 = q' at hor HK2 Hlt
        go_wp2
        go_roundg (n - (k + 1))
        case measure => omega
        case rel => exact ⟨k + 1, q', by go_num, rfl, Hlt.out, by omega, HK2, Hbel.out.alloc hz2 _⟩
      · have HK2 := Lib.hid (show T = stepL s x (xs.drop (k + 1)) q from by rw [HK1.out, if_neg (by rw [Hh.out]; simp [he])])
        have t1 : (y2 == x) = false := by simp [he]
        clear HK1 Hh Hbs he
        go_wp2
        go_roundg (n - (k + 1))
        case measure => omega
        case rel => exact ⟨k + 1, q, by go_num, rfl, hq, by omega, HK2, Hbel.out.alloc hz2 _⟩
    · have HF := Lib.hid (show T = q from by rw [HK.out, drop_len (by have := Hn.out; omega)]; rfl)
      have Hbz := Lib.hid (Hb1.out.trans (hbel.mono hz))
      clear HK hbel hb1 hcell H0 Hv
      go_wp2
      go_ret
      exact ⟨by rw [HF.out]; rfl, Hbz.out⟩
set_option maxHeartbeats 2000000 in
set_option maxRecDepth 10000 in
theorem spec_step_c {w : World} {v : Value} {l : Lb} (h : LabR w v l) (hv : okArcs l.2.1 l.2.2) (hS : l.2.1 ≤ 12) {s : Nat} (_hs : s < 4096) (x : Int) :
    Calls Tryd.prog 33 #[v, .int .i64 s, .int .i64 x] w fun e w' => e = .returned (.int .i64 (stepN l.2.2 s x)) ∧ Below w.heap.size w w' := by
  obtain ⟨L, S, xs⟩ := l
  obtain ⟨va, rfl, hlen, a, c, rfl, _, _, _, hcell⟩ := h
  simp only at hcell hlen hv hS
  simp only
  have H0 := Lib.hid (show stepN xs s x = stepL s x (xs.drop 0) 0 from rfl)
  generalize stepN xs s x = T at H0 ⊢
  obtain ⟨n, hn⟩ : ∃ n, n = xs.length := ⟨_, rfl⟩
  have Hn := Lib.hid hn
  rw [← hn] at hcell hlen ⊢
  clear hn
  have Hv := Lib.hid hv
  clear hv
  go_enter Tryd.func33, Tryd.ntmps33
  have q2 : (w.alloc (.cells #[.int .i64 L, .int .i64 S, .slice a n c] 26)).cell? ⟨w.heap.size, 2, none⟩ = some (.slice a n c) := by simp
  have hb1 : Below w.heap.size w (w.alloc (.cells #[.int .i64 L, .int .i64 S, .slice a n c] 26)) := (Below.refl _ _).alloc (Nat.le_refl _) _
  have m1 : w.heap.size < (w.alloc (.cells #[.int .i64 L, .int .i64 S, .slice a n c] 26)).heap.size := by simp
  go_wp2
  generalize w.alloc (.cells #[.int .i64 L, .int .i64 S, .slice a n c] 26) = w1 at *
  have Hb1 := Lib.hid hb1
  have hz := hb1.size
  go_loopg [7, 8] n (fun g u i wr => ∃ (k q : Nat), i = .int .i64 k ∧ u = .int .i64 q ∧ q < 4096 ∧ k + g = n ∧ Hid (T = stepL s x (xs.drop k) q) ∧ Below w1.heap.size w1 wr)
  case atStart => exact ⟨0, 0, rfl, rfl, by decide, by omega, H0, Below.refl _ _⟩
  case round =>
    obtain ⟨k, q, rfl, rfl, hq, hk, HK, hbel⟩ := hrel
    by_cases hlt : k < n
    · obtain ⟨b, o, rfl, hb, hx0⟩ := hcell (by omega)
      obtain ⟨y, hy, hd⟩ := at_lt (xs := xs) (k := k) (by have := Hn.out; omega)
      obtain ⟨f0, f1, f2⟩ := hx0 k y hy
      obtain ⟨i0, i1, i2, i3⟩ := okArcs_at Hv.out hy
      have g0 : wr.cell? ⟨b, o + k * 3, none⟩ = some (.int .i64 y.1) := (hbel.cell (p := ⟨b, o + k * 3, none⟩) (by simp; omega)).trans ((hb1.cell (p := ⟨b, o + k * 3, none⟩) hb).trans f0)
      have g1 : wr.cell? ⟨b, o + k * 3 + 1, none⟩ = some (.int .i64 y.2.1) := (hbel.cell (p := ⟨b, o + k * 3 + 1, none⟩) (by simp; omega)).trans ((hb1.cell (p := ⟨b, o + k * 3 + 1, none⟩) hb).trans f1)
      have g2 : wr.cell? ⟨b, o + k * 3 + 2, none⟩ = some (.int .i64 y.2.2) := (hbel.cell (p := ⟨b, o + k * 3 + 2, none⟩) (by simp; omega)).trans ((hb1.cell (p := ⟨b, o + k * 3 + 2, none⟩) hb).trans f2)
      have r2 : wr.cell? ⟨w.heap.size, 2, none⟩ = some (.slice (some ⟨b, o, none⟩) n c) := (hbel.cell (p := ⟨w.heap.size, 2, none⟩) m1).trans q2
      have hz2 := hbel.size
      have hbr : b < wr.heap.size := by omega
      have hwr : w.heap.size < wr.heap.size := by omega
      have Hbel := Lib.hid hbel
      have HK1 := Lib.hid (show T = stepL s x (xs.drop (k + 1)) (if hit s x y = true then q ||| 2 ^ y.2.1.toNat else q) from by rw [HK.out, hd]; rfl)
      obtain ⟨y0, y1, y2⟩ := y
      simp only at g0 g1 g2 i0 i1 i2 i3 HK1
      obtain ⟨p0, rfl⟩ := Int.eq_ofNat_of_zero_le i0
      obtain ⟨p1, rfl⟩ := Int.eq_ofNat_of_zero_le i2
      clear HK hx0 hcell hy hd f0 f1 f2 hbel hb1 q2 H0 Hv
      have HT := Lib.hid (show (p1 : Nat) < 12 from by omega)
      have Hbs := Lib.hid (bit_shr s p0)
      have Hh := Lib.hid (show hit s x ((p0 : Int), (p1 : Int), y2) = (decide (y2 = x) && s.testBit p0) from rfl)
      generalize s.testBit p0 = tb at Hbs Hh
      cases tb with
      | false =>
        have HK2 := Lib.hid (show T = stepL s x (xs.drop (k + 1)) q from by rw [HK1.out, if_neg (by rw [Hh.out]; simp)])
        have hbs : bits BinOp.and IntKind.i64 ((s : Int) / 2 ^ p0) 1 = 0 := by rw [Hbs.out]; rfl
        clear HK1 Hh Hbs
        by_cases he : y2 = x
        · have t1 : (y2 == x) = true := by simp [he]
          clear he
          go_wp2
          go_roundg (n - (k + 1))
          case measure => omega
          case rel => exact ⟨k + 1, q, by go_num, rfl, hq, by omega, HK2, Hbel.out.alloc hz2 _⟩
        · have t1 : (y2 == x) = false := by simp [he]
          clear he
          go_wp2
          go_roundg (n - (k + 1))
          case measure => omega
          case rel => exact ⟨k + 1, q, by go_num, rfl, hq, by omega, HK2, Hbel.out.alloc hz2 _⟩
      | true =>
      have hbs : bits BinOp.and IntKind.i64 ((s : Int) / 2 ^ p0) 1 = 1 := by rw [Hbs.out]; rfl
      by_cases he : y2 = x
      · have HK2 := Lib.hid (show T = stepL s x (xs.drop (k + 1)) (q ||| 2 ^ p1) from by rw [HK1.out, if_pos (by rw [Hh.out]; simp [he])]; rfl)
        have t1 : (y2 == x) = true := by simp [he]
        have hor := bit_or q p1 hq HT.out
        have Hlt := Lib.hid (or_lt q p1 hq HT.out)
        clear HK1 Hh Hbs he
        generalize q ||| 2 ^ p1 = q' at hor HK2 Hlt
        go_wp2
        go_roundg (n - (k + 1))
        case measure => omega
        case rel => exact ⟨k + 1, q', by go_num, rfl, Hlt.out, by omega, HK2, Hbel.out.alloc hz2 _⟩
      · have HK2 := Lib.hid (show T = stepL s x (xs.drop (k + 1)) q from by rw [HK1.out, if_neg (by rw [Hh.out]; simp [he])])
        have t1 : (y2 == x) = false := by simp [he]
        clear HK1 Hh Hbs he
        go_wp2
        go_roundg (n - (k + 1))
        case measure => omega
        case rel => exact ⟨k + 1, q, by go_num, rfl, hq, by omega, HK2, Hbel.out.alloc hz2 _⟩
    · have HF := Lib.hid (show T = q from by rw [HK.out, drop_len (by have := Hn.out; omega)]; rfl)
      have Hbz := Lib.hid (Hb1.out.trans (hbel.mono hz))
      have r2 : wr.cell? ⟨w.heap.size, 2, none⟩ = some (.slice a n c) := (hbel.cell (p := ⟨w.heap.size, 2, none⟩) m1).trans q2
      clear HK hbel hb1 hcell H0 Hv
      go_wp2
      go_ret
      exact ⟨by rw [HF.out]; rfl, Hbz.out⟩
end Go.Proofs.YtcilgihmaaobeaaDoor
end

section
namespace Go.Proofs.YtcilgihmaaobeaaDoor
open Go.RowKit Go.Deep Go.Sd

theorem isLetters_c (k : Int) (w : World) : Calls Tryd.prog 62 #[.int .i64 k] w fun e w' => e = .returned (.bool (decide (1 ≤ k ∧ k ≤ 3))) ∧ w = w' := by
  by_cases h1 : 1 ≤ k
  · by_cases h2 : k ≤ 3
    · have H := Lib.hid (show decide (1 ≤ k ∧ k ≤ 3) = true from decide_eq_true ⟨h1, h2⟩)
      generalize decide (1 ≤ k ∧ k ≤ 3) = T at H ⊢
      go_enter Tryd.func62, Tryd.ntmps62
      go_wp2
      go_ret
      exact ⟨by rw [H.out]; rfl, rfl⟩
    · have H := Lib.hid (show decide (1 ≤ k ∧ k ≤ 3) = false from decide_eq_false (by omega))
      generalize decide (1 ≤ k ∧ k ≤ 3) = T at H ⊢
      go_enter Tryd.func62, Tryd.ntmps62
      go_wp2
      go_ret
      exact ⟨by rw [H.out]; rfl, rfl⟩
  · have H := Lib.hid (show decide (1 ≤ k ∧ k ≤ 3) = false from decide_eq_false (by omega))
    generalize decide (1 ≤ k ∧ k ≤ 3) = T at H ⊢
    go_enter Tryd.func62, Tryd.ntmps62
    go_wp2
    go_ret
    exact ⟨by rw [H.out]; rfl, rfl⟩
set_option maxHeartbeats 8000000 in
set_option maxRecDepth 10000 in
theorem impl_IsLabels_c {w : World} {v : Value} {l : Lb} (h : LabR w v l) :
    Calls Tryd.prog 55 #[v] w fun e w' => e = .returned (.bool (isLab l)) ∧ Below w.heap.size w w' := by
  obtain ⟨L, S, xs⟩ := l
  obtain ⟨va, rfl, hlen, a, c, rfl, _, _, _, hcell⟩ := h
  have H := Lib.hid (show isLab (L, S, xs) = (decide (1 ≤ L ∧ L ≤ 3) && (decide (1 ≤ S ∧ S ≤ 12) && allF (arcB L S xs) xs.length 0)) from rfl)
  generalize isLab (L, S, xs) = T at H ⊢
  have Hl := Lib.hid (fun w => isLetters_c L w)
  obtain ⟨n, hn⟩ : ∃ n, n = xs.length := ⟨_, rfl⟩
  have Hn := Lib.hid hn
  simp only at hcell hlen
  simp only
  rw [← hn] at hcell hlen H ⊢
  clear hn
  by_cases hL : 1 ≤ L ∧ L ≤ 3
  rotate_left
  · have HT := Lib.hid (show T = false from by rw [H.out, decide_eq_false hL]; rfl)
    rw [decide_eq_false hL] at Hl
    clear H hL
    go_enter Tryd.func55, Tryd.ntmps55
    go_wp2_with fail
    refine (Hl.out _).mono ?_
    rintro e w' ⟨rfl, rfl⟩
    go_wp2
    go_ret
    exact ⟨by rw [HT.out]; rfl, (Below.refl _ _).alloc (Nat.le_refl _) _⟩
  rw [decide_eq_true hL] at Hl H
  by_cases hS : 1 ≤ S ∧ S ≤ 12
  rotate_left
  · have HT := Lib.hid (show T = false from by rw [H.out, decide_eq_false hS]; rfl)
    clear H hL
    by_cases h1 : S < 1
    · clear hS
      go_enter Tryd.func55, Tryd.ntmps55
      go_wp2_with fail
      refine (Hl.out _).mono ?_
      rintro e w' ⟨rfl, rfl⟩
      go_wp2
      go_ret
      exact ⟨by rw [HT.out]; rfl, (Below.refl _ _).alloc (Nat.le_refl _) _⟩
    · have h2 : 12 < S := by omega
      clear hS
      go_enter Tryd.func55, Tryd.ntmps55
      go_wp2_with fail
      refine (Hl.out _).mono ?_
      rintro e w' ⟨rfl, rfl⟩
      go_wp2
      go_ret
      exact ⟨by rw [HT.out]; rfl, (Below.refl _ _).alloc (Nat.le_refl _) _⟩
  have HT := Lib.hid (show T = allF (arcB L S xs) n 0 from by rw [H.out, decide_eq_true hS]; rfl)
  obtain ⟨hS1, hS2⟩ := hS
  obtain ⟨hL1, hL2⟩ := hL
  clear H
  go_enter Tryd.func55, Tryd.ntmps55
  go_wp2_with fail
  obtain ⟨w1, ex, hb1, q0, q1, q2, m1⟩ := boxA3_ex w 26 (.int .i64 L) (.int .i64 S) (.slice a n c)
  change Calls Tryd.prog _ _ (w.alloc (.cells #[.int .i64 L, .int .i64 S, .slice a n c] 26)) _
  rw [ex]
  clear ex
  refine (Hl.out _).mono ?_
  rintro e w' ⟨rfl, rfl⟩
  have Hb1 := Lib.hid hb1
  have hz := hb1.size
  go_wp2
  go_loopg [22] n (fun g i wr => ∃ (k : Nat), i = .int .i64 k ∧ k + g = n ∧ Hid (T = allF (arcB L S xs) g k) ∧ Below w1.heap.size w1 wr)
  case atStart => exact ⟨0, rfl, by omega, HT, Below.refl _ _⟩
  case round =>
    obtain ⟨k, rfl, hk, HK, hbel⟩ := hrel
    obtain ⟨g, hg⟩ : ∃ g, g = gk := ⟨_, rfl⟩
    rw [← hg] at HK hk
    by_cases hlt : k < n
    · obtain ⟨g', rfl⟩ : ∃ t, g = t + 1 := ⟨g - 1, by omega⟩
      have HK1 := Lib.hid (show T = if arcB L S xs k = true then allF (arcB L S xs) g' (k + 1) else false from HK.out)
      obtain ⟨b, o, rfl, hb, hx0⟩ := hcell (by omega)
      obtain ⟨x, hx, _⟩ := at_lt (xs := xs) (k := k) (by have := Hn.out; omega)
      obtain ⟨f0, f1, f2⟩ := hx0 k x hx
      have g0 : wr.cell? ⟨b, o + k * 3, none⟩ = some (.int .i64 x.1) := (hbel.cell (p := ⟨b, o + k * 3, none⟩) (by simp; omega)).trans ((hb1.cell (p := ⟨b, o + k * 3, none⟩) hb).trans f0)
      have g1 : wr.cell? ⟨b, o + k * 3 + 1, none⟩ = some (.int .i64 x.2.1) := (hbel.cell (p := ⟨b, o + k * 3 + 1, none⟩) (by simp; omega)).trans ((hb1.cell (p := ⟨b, o + k * 3 + 1, none⟩) hb).trans f1)
      have g2 : wr.cell? ⟨b, o + k * 3 + 2, none⟩ = some (.int .i64 x.2.2) := (hbel.cell (p := ⟨b, o + k * 3 + 2, none⟩) (by simp; omega)).trans ((hb1.cell (p := ⟨b, o + k * 3 + 2, none⟩) hb).trans f2)
      have r0 : wr.cell? ⟨w.heap.size, 0, none⟩ = some (.int .i64 L) := (hbel.cell (p := ⟨w.heap.size, 0, none⟩) m1).trans q0
      have r1 : wr.cell? ⟨w.heap.size, 1, none⟩ = some (.int .i64 S) := (hbel.cell (p := ⟨w.heap.size, 1, none⟩) m1).trans q1
      have r2 : wr.cell? ⟨w.heap.size, 2, none⟩ = some (.slice (some ⟨b, o, none⟩) n c) := (hbel.cell (p := ⟨w.heap.size, 2, none⟩) m1).trans q2
      have hz2 := hbel.size
      have hbr : b < wr.heap.size := by omega
      have hwr : w.heap.size < wr.heap.size := by omega
      have Hbel := Lib.hid hbel
      have HA := Lib.hid (at3_of hx)
      have Hcase := Lib.hid (show x.1 < 0 ∨ (0 ≤ x.1 ∧ S ≤ x.1) ∨ (0 ≤ x.1 ∧ x.1 < S ∧ x.2.1 < 0) ∨ (0 ≤ x.1 ∧ x.1 < S ∧ 0 ≤ x.2.1 ∧ S ≤ x.2.1) ∨ (0 ≤ x.1 ∧ x.1 < S ∧ 0 ≤ x.2.1 ∧ x.2.1 < S ∧ x.2.2 < 0) ∨ (0 ≤ x.1 ∧ x.1 < S ∧ 0 ≤ x.2.1 ∧ x.2.1 < S ∧ 0 ≤ x.2.2 ∧ L ≤ x.2.2) ∨ (0 ≤ x.1 ∧ x.1 < S ∧ 0 ≤ x.2.1 ∧ x.2.1 < S ∧ 0 ≤ x.2.2 ∧ x.2.2 < L) from by omega)
      by_cases hok : arcOk L S x = true
      rotate_left
      · have HF := Lib.hid (show T = false from by rw [HK1.out, if_neg (by unfold arcB; rw [HA.out, Bool.eq_false_iff.2 hok]; simp)])
        have hok2 := hok
        unfold arcOk at hok2
        rw [decide_eq_true_eq] at hok2
        have hcs := Hcase.out
        clear HK HK1 hx0 hcell hx f0 f1 f2 Hcase hok
        obtain ⟨x0, x1, x2⟩ := x
        simp only at g0 g1 g2 hok2 hcs
        rcases hcs with hcs | ⟨i0, i1⟩ | ⟨i0, i1, i2⟩ | ⟨i0, i1, i2, i3⟩ | ⟨i0, i1, i2, i3, i4⟩ | ⟨i0, i1, i2, i3, i4, i5⟩ | hcs
        · clear hok2
          have u0 : decide (x0 < 0) = true := decide_eq_true (by omega)
          go_wp2
          go_quiet (fail)
          go_wp2
          go_ret
          exact ⟨by rw [HF.out]; rfl, below_drewN (((Hb1.out.trans (Hbel.out.mono hz)).alloc (Nat.le_of_lt hwr) _)) _⟩
        · clear hok2
          have u0 : decide (x0 < 0) = false := decide_eq_false (by omega)
          have u1 : decide (S ≤ x0) = true := decide_eq_true (by omega)
          go_wp2
          go_quiet (fail)
          go_wp2
          go_ret
          exact ⟨by rw [HF.out]; rfl, below_drewN (((Hb1.out.trans (Hbel.out.mono hz)).alloc (Nat.le_of_lt hwr) _)) _⟩
        · clear hok2
          have u0 : decide (x0 < 0) = false := decide_eq_false (by omega)
          have u1 : decide (S ≤ x0) = false := decide_eq_false (by omega)
          have u2 : decide (x1 < 0) = true := decide_eq_true (by omega)
          go_wp2
          go_quiet (fail)
          go_wp2
          go_ret
          exact ⟨by rw [HF.out]; rfl, below_drewN (((Hb1.out.trans (Hbel.out.mono hz)).alloc (Nat.le_of_lt hwr) _)) _⟩
        · clear hok2
          have u0 : decide (x0 < 0) = false := decide_eq_false (by omega)
          have u1 : decide (S ≤ x0) = false := decide_eq_false (by omega)
          have u2 : decide (x1 < 0) = false := decide_eq_false (by omega)
          have u3 : decide (S ≤ x1) = true := decide_eq_true (by omega)
          go_wp2
          go_quiet (fail)
          go_wp2
          go_ret
          exact ⟨by rw [HF.out]; rfl, below_drewN (((Hb1.out.trans (Hbel.out.mono hz)).alloc (Nat.le_of_lt hwr) _)) _⟩
        · clear hok2
          have u0 : decide (x0 < 0) = false := decide_eq_false (by omega)
          have u1 : decide (S ≤ x0) = false := decide_eq_false (by omega)
          have u2 : decide (x1 < 0) = false := decide_eq_false (by omega)
          have u3 : decide (S ≤ x1) = false := decide_eq_false (by omega)
          have u4 : decide (x2 < 0) = true := decide_eq_true (by omega)
          go_wp2
          go_quiet (fail)
          go_wp2
          go_ret
          exact ⟨by rw [HF.out]; rfl, below_drewN (((Hb1.out.trans (Hbel.out.mono hz)).alloc (Nat.le_of_lt hwr) _)) _⟩
        · clear hok2
          have u0 : decide (x0 < 0) = false := decide_eq_false (by omega)
          have u1 : decide (S ≤ x0) = false := decide_eq_false (by omega)
          have u2 : decide (x1 < 0) = false := decide_eq_false (by omega)
          have u3 : decide (S ≤ x1) = false := decide_eq_false (by omega)
          have u4 : decide (x2 < 0) = false := decide_eq_false (by omega)
          have u5 : decide (L ≤ x2) = true := decide_eq_true (by omega)
          go_wp2
          go_quiet (fail)
          go_wp2
          go_ret
          exact ⟨by rw [HF.out]; rfl, below_drewN (((Hb1.out.trans (Hbel.out.mono hz)).alloc (Nat.le_of_lt hwr) _)) _⟩
        · exact absurd hcs hok2
      · have hok2 := hok
        unfold arcOk at hok2
        rw [decide_eq_true_eq] at hok2
        obtain ⟨i0, i1, i2, i3, i4, i5⟩ := hok2
        by_cases hk0 : k = 0
        · have HT2 := Lib.hid (show T = allF (arcB L S xs) g' (k + 1) from by rw [HK1.out, if_pos (by unfold arcB; rw [HA.out, hok]; simp [hk0])])
          clear HK HK1 hx0 hcell hx f0 f1 f2 Hcase hok HA
          subst hk0
          rw [Nat.zero_mul, Nat.add_zero] at g0 g1 g2
          obtain ⟨x0, x1, x2⟩ := x
          simp only at g0 g1 g2 i0 i1 i2 i3 i4 i5
          have u0 : decide (x0 < 0) = false := decide_eq_false (by omega)
          have u1 : decide (S ≤ x0) = false := decide_eq_false (by omega)
          have u2 : decide (x1 < 0) = false := decide_eq_false (by omega)
          have u3 : decide (S ≤ x1) = false := decide_eq_false (by omega)
          have u4 : decide (x2 < 0) = false := decide_eq_false (by omega)
          have u5 : decide (L ≤ x2) = false := decide_eq_false (by omega)
          go_wp2
          go_quiet (fail)
          go_wp2
          go_roundg g'
          case measure => omega
          case rel => exact ⟨0 + 1, by go_num, by omega, HT2, below_drewN ((Hbel.out.alloc hz2 _)) _⟩
        · obtain ⟨j, rfl⟩ : ∃ j, k = j + 1 := ⟨k - 1, by omega⟩
          obtain ⟨y, hy, _⟩ := at_lt (xs := xs) (k := j) (by have := Hn.out; omega)
          obtain ⟨e0, e1, e2⟩ := hx0 j y hy
          have p0 : wr.cell? ⟨b, o + j * 3, none⟩ = some (.int .i64 y.1) := (hbel.cell (p := ⟨b, o + j * 3, none⟩) (by simp; omega)).trans ((hb1.cell (p := ⟨b, o + j * 3, none⟩) hb).trans e0)
          have p1 : wr.cell? ⟨b, o + j * 3 + 1, none⟩ = some (.int .i64 y.2.1) := (hbel.cell (p := ⟨b, o + j * 3 + 1, none⟩) (by simp; omega)).trans ((hb1.cell (p := ⟨b, o + j * 3 + 1, none⟩) hb).trans e1)
          have p2 : wr.cell? ⟨b, o + j * 3 + 2, none⟩ = some (.int .i64 y.2.2) := (hbel.cell (p := ⟨b, o + j * 3 + 2, none⟩) (by simp; omega)).trans ((hb1.cell (p := ⟨b, o + j * 3 + 2, none⟩) hb).trans e2)
          have HB := Lib.hid (at3_of hy)
          have Hcm := Lib.hid (cmpA_nn y x)
          have Hcc := Lib.hid (fun w => compareArcs_c y x w)
          have HV := Lib.hid (show arcB L S xs (j + 1) = before y x from by unfold arcB; rw [HA.out, hok, show j + 1 - 1 = j from rfl, HB.out]; simp)
          clear HK hx0 hcell hx hy f0 f1 f2 e0 e1 e2 Hcase hok HA HB hk0
          obtain ⟨x0, x1, x2⟩ := x
          obtain ⟨y0, y1, y2⟩ := y
          simp only at g0 g1 g2 i0 i1 i2 i3 i4 i5 p0 p1 p2
          have u0 : decide (x0 < 0) = false := decide_eq_false (by omega)
          have u1 : decide (S ≤ x0) = false := decide_eq_false (by omega)
          have u2 : decide (x1 < 0) = false := decide_eq_false (by omega)
          have u3 : decide (S ≤ x1) = false := decide_eq_false (by omega)
          have u4 : decide (x2 < 0) = false := decide_eq_false (by omega)
          have u5 : decide (L ≤ x2) = false := decide_eq_false (by omega)
          generalize cmpA (y0, y1, y2) (x0, x1, x2) = cv at Hcm Hcc
          have hjn : (j : Int) < (n : Int) := by omega
          have hwj2 : IntKind.i64.wrap (j : Int) = (j : Int) := IntWalk.i64_in _ (by omega)
          have hj0 : (0 : Int) ≤ (j : Int) := by omega
          have hj1 : decide ((0 : Int) < (j : Int) + 1) = true := decide_eq_true (by omega)
          have hwj : IntKind.i64.wrap ((j : Int) + 1 - 1) = (j : Int) := by rw [show (j : Int) + 1 - 1 = j by omega]; exact IntWalk.i64_in _ (by omega)
          go_wp2
          obtain ⟨wn, ex, hbn0, c0, c1, c2, mn⟩ := boxA3_ex wr 80 (.int .i64 x0) (.int .i64 x1) (.int .i64 x2)
          rw [ex]
          clear ex g0 g1 g2
          have hwn : w.heap.size < wn.heap.size := by omega
          have hbn : b < wn.heap.size := by omega
          replace r0 := (hbn0.cell (p := ⟨w.heap.size, 0, none⟩) hwr).trans r0
          replace r1 := (hbn0.cell (p := ⟨w.heap.size, 1, none⟩) hwr).trans r1
          replace r2 := (hbn0.cell (p := ⟨w.heap.size, 2, none⟩) hwr).trans r2
          replace p0 := (hbn0.cell (p := ⟨b, o + j * 3, none⟩) hbr).trans p0
          replace p1 := (hbn0.cell (p := ⟨b, o + j * 3 + 1, none⟩) hbr).trans p1
          replace p2 := (hbn0.cell (p := ⟨b, o + j * 3 + 2, none⟩) hbr).trans p2
          have Hbn := Lib.hid (Hbel.out.trans (hbn0.mono hz2))
          have hS0 : wn.cell? ⟨wr.heap.size, 0, none⟩ = some (.int .i64 x0) ∧ wn.cell? ⟨wr.heap.size, 1, none⟩ = some (.int .i64 x1) ∧ wn.cell? ⟨wr.heap.size, 2, none⟩ = some (.int .i64 x2) ∧ wn.cell? ⟨w.heap.size, 0, none⟩ = some (.int .i64 L) ∧ wn.cell? ⟨w.heap.size, 1, none⟩ = some (.int .i64 S) ∧ wn.cell? ⟨w.heap.size, 2, none⟩ = some (.slice (some ⟨b, o, none⟩) n c) ∧ wn.cell? ⟨b, o + j * 3, none⟩ = some (.int .i64 y0) ∧ wn.cell? ⟨b, o + j * 3 + 1, none⟩ = some (.int .i64 y1) ∧ wn.cell? ⟨b, o + j * 3 + 2, none⟩ = some (.int .i64 y2) := ⟨c0, c1, c2, r0, r1, r2, p0, p1, p2⟩
          have hSd : wn.drew.cell? ⟨wr.heap.size, 0, none⟩ = some (.int .i64 x0) ∧ wn.drew.cell? ⟨wr.heap.size, 1, none⟩ = some (.int .i64 x1) ∧ wn.drew.cell? ⟨wr.heap.size, 2, none⟩ = some (.int .i64 x2) ∧ wn.drew.cell? ⟨w.heap.size, 0, none⟩ = some (.int .i64 L) ∧ wn.drew.cell? ⟨w.heap.size, 1, none⟩ = some (.int .i64 S) ∧ wn.drew.cell? ⟨w.heap.size, 2, none⟩ = some (.slice (some ⟨b, o, none⟩) n c) ∧ wn.drew.cell? ⟨b, o + j * 3, none⟩ = some (.int .i64 y0) ∧ wn.drew.cell? ⟨b, o + j * 3 + 1, none⟩ = some (.int .i64 y1) ∧ wn.drew.cell? ⟨b, o + j * 3 + 2, none⟩ = some (.int .i64 y2) := hS0
          have hzn : w1.heap.size ≤ wn.heap.size := by omega
          clear hbn0
          by_cases hbf : before (y0, y1, y2) (x0, x1, x2) = true
          · have HT2 := Lib.hid (show T = allF (arcB L S xs) g' (j + 1 + 1) from by rw [HK1.out, if_pos (by rw [HV.out]; exact hbf)])
            have hcv : cv < 0 := by
              have h1 : ¬ 0 ≤ cv := fun h2 => by have h3 := Hcm.out.1 h2; rw [hbf] at h3; cases h3
              omega
            clear HK1 HV Hcm hbf
            have HS := Lib.hid (fun (w2 : World) (hb3 : Below wn.heap.size wn w2) => (show w2.cell? ⟨wr.heap.size, 0, none⟩ = some (.int .i64 x0) ∧ w2.cell? ⟨wr.heap.size, 1, none⟩ = some (.int .i64 x1) ∧ w2.cell? ⟨wr.heap.size, 2, none⟩ = some (.int .i64 x2) ∧ w2.cell? ⟨w.heap.size, 0, none⟩ = some (.int .i64 L) ∧ w2.cell? ⟨w.heap.size, 1, none⟩ = some (.int .i64 S) ∧ w2.cell? ⟨w.heap.size, 2, none⟩ = some (.slice (some ⟨b, o, none⟩) n c) ∧ w2.cell? ⟨b, o + j * 3, none⟩ = some (.int .i64 y0) ∧ w2.cell? ⟨b, o + j * 3 + 1, none⟩ = some (.int .i64 y1) ∧ w2.cell? ⟨b, o + j * 3 + 2, none⟩ = some (.int .i64 y2) from ⟨(hb3.cell (p := ⟨wr.heap.size, 0, none⟩) mn).trans hS0.1, (hb3.cell (p := ⟨wr.heap.size, 1, none⟩) mn).trans hS0.2.1, (hb3.cell (p := ⟨wr.heap.size, 2, none⟩) mn).trans hS0.2.2.1, (hb3.cell (p := ⟨w.heap.size, 0, none⟩) hwn).trans hS0.2.2.2.1, (hb3.cell (p := ⟨w.heap.size, 1, none⟩) hwn).trans hS0.2.2.2.2.1, (hb3.cell (p := ⟨w.heap.size, 2, none⟩) hwn).trans hS0.2.2.2.2.2.1, (hb3.cell (p := ⟨b, o + j * 3, none⟩) hbn).trans hS0.2.2.2.2.2.2.1, (hb3.cell (p := ⟨b, o + j * 3 + 1, none⟩) hbn).trans hS0.2.2.2.2.2.2.2.1, (hb3.cell (p := ⟨b, o + j * 3 + 2, none⟩) hbn).trans hS0.2.2.2.2.2.2.2.2⟩))
            go_region_held3 (fun w' => w'.cell? ⟨wr.heap.size, 0, none⟩ = some (.int .i64 x0) ∧ w'.cell? ⟨wr.heap.size, 1, none⟩ = some (.int .i64 x1) ∧ w'.cell? ⟨wr.heap.size, 2, none⟩ = some (.int .i64 x2) ∧ w'.cell? ⟨w.heap.size, 0, none⟩ = some (.int .i64 L) ∧ w'.cell? ⟨w.heap.size, 1, none⟩ = some (.int .i64 S) ∧ w'.cell? ⟨w.heap.size, 2, none⟩ = some (.slice (some ⟨b, o, none⟩) n c) ∧ w'.cell? ⟨b, o + j * 3, none⟩ = some (.int .i64 y0) ∧ w'.cell? ⟨b, o + j * 3 + 1, none⟩ = some (.int .i64 y1) ∧ w'.cell? ⟨b, o + j * 3 + 2, none⟩ = some (.int .i64 y2))
              (first | with_reducible exact hS1 | with_reducible exact hSd | with_reducible exact hS0 | go_keep)
              ((first
                | (go_at_call 71; (with_reducible refine (Hcc.out _).mono ?_); rintro e w2 ⟨rfl, hb2'⟩; have hb3 := ((Below.refl wn.heap.size wn).drew).trans hb2'; have hS1 := HS.out w2 hb3; have Hb3 := Lib.hid (Hbn.out.trans (hb3.mono hzn)); clear hb2' hb3)
                | fail))
            go_wp2
            go_roundg g'
            case measure => omega
            case rel => exact ⟨j + 1 + 1, by go_num, by omega, HT2, Hb3.out⟩
          · have HF := Lib.hid (show T = false from by rw [HK1.out, if_neg (by rw [HV.out]; exact hbf)])
            have hcv : 0 ≤ cv := Hcm.out.2 (Bool.eq_false_iff.2 hbf)
            clear HK1 HV Hcm hbf
            have HS := Lib.hid (fun (w2 : World) (hb3 : Below wn.heap.size wn w2) => (show w2.cell? ⟨wr.heap.size, 0, none⟩ = some (.int .i64 x0) ∧ w2.cell? ⟨wr.heap.size, 1, none⟩ = some (.int .i64 x1) ∧ w2.cell? ⟨wr.heap.size, 2, none⟩ = some (.int .i64 x2) ∧ w2.cell? ⟨w.heap.size, 0, none⟩ = some (.int .i64 L) ∧ w2.cell? ⟨w.heap.size, 1, none⟩ = some (.int .i64 S) ∧ w2.cell? ⟨w.heap.size, 2, none⟩ = some (.slice (some ⟨b, o, none⟩) n c) ∧ w2.cell? ⟨b, o + j * 3, none⟩ = some (.int .i64 y0) ∧ w2.cell? ⟨b, o + j * 3 + 1, none⟩ = some (.int .i64 y1) ∧ w2.cell? ⟨b, o + j * 3 + 2, none⟩ = some (.int .i64 y2) from ⟨(hb3.cell (p := ⟨wr.heap.size, 0, none⟩) mn).trans hS0.1, (hb3.cell (p := ⟨wr.heap.size, 1, none⟩) mn).trans hS0.2.1, (hb3.cell (p := ⟨wr.heap.size, 2, none⟩) mn).trans hS0.2.2.1, (hb3.cell (p := ⟨w.heap.size, 0, none⟩) hwn).trans hS0.2.2.2.1, (hb3.cell (p := ⟨w.heap.size, 1, none⟩) hwn).trans hS0.2.2.2.2.1, (hb3.cell (p := ⟨w.heap.size, 2, none⟩) hwn).trans hS0.2.2.2.2.2.1, (hb3.cell (p := ⟨b, o + j * 3, none⟩) hbn).trans hS0.2.2.2.2.2.2.1, (hb3.cell (p := ⟨b, o + j * 3 + 1, none⟩) hbn).trans hS0.2.2.2.2.2.2.2.1, (hb3.cell (p := ⟨b, o + j * 3 + 2, none⟩) hbn).trans hS0.2.2.2.2.2.2.2.2⟩))
            go_region_held3 (fun w' => w'.cell? ⟨wr.heap.size, 0, none⟩ = some (.int .i64 x0) ∧ w'.cell? ⟨wr.heap.size, 1, none⟩ = some (.int .i64 x1) ∧ w'.cell? ⟨wr.heap.size, 2, none⟩ = some (.int .i64 x2) ∧ w'.cell? ⟨w.heap.size, 0, none⟩ = some (.int .i64 L) ∧ w'.cell? ⟨w.heap.size, 1, none⟩ = some (.int .i64 S) ∧ w'.cell? ⟨w.heap.size, 2, none⟩ = some (.slice (some ⟨b, o, none⟩) n c) ∧ w'.cell? ⟨b, o + j * 3, none⟩ = some (.int .i64 y0) ∧ w'.cell? ⟨b, o + j * 3 + 1, none⟩ = some (.int .i64 y1) ∧ w'.cell? ⟨b, o + j * 3 + 2, none⟩ = some (.int .i64 y2))
              (first | with_reducible exact hS1 | with_reducible exact hSd | with_reducible exact hS0 | go_keep)
              ((first
                | (go_at_call 71; (with_reducible refine (Hcc.out _).mono ?_); rintro e w2 ⟨rfl, hb2'⟩; have hb3 := ((Below.refl wn.heap.size wn).drew).trans hb2'; have hS1 := HS.out w2 hb3; have Hb3 := Lib.hid (Hbn.out.trans (hb3.mono hzn)); clear hb2' hb3)
                | fail))
            go_wp2
            go_ret
            exact ⟨by rw [HF.out]; rfl, Hb1.out.trans (Hb3.out.mono hz)⟩
    · have e : g = 0 := by omega
      subst e
      have HF := Lib.hid (show T = true from HK.out)
      have Hbz := Lib.hid (Hb1.out.trans (hbel.mono hz))
      clear HK hbel hg hb1 hcell
      go_wp2
      go_ret
      exact ⟨by rw [HF.out]; rfl, Hbz.out⟩
end Go.Proofs.YtcilgihmaaobeaaDoor
end
