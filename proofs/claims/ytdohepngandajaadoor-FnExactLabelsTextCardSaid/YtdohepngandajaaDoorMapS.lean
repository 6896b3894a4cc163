/-
  A map of the call's own, told by what it holds at each key; the walk's laws on it.
-/
import Derived.Test.YtdohepngandajaaDoorBase
import Derived.Test.YtdohepngandajaaDoorLawKit
import Derived.Test.YtdohepngandajaaDoorSep
import Derived.Maps.OwnSet
namespace Go.Sd
open Go.RowKit Go.Deep Go.Maps

/-- How keys of type k are written and read, and elements of type e. -/
structure MapK (P : Program) (k e : TypeId) {κ β : Type} (dom : κ → Prop) (kv : κ → Value) (kf : κ → Lit) (ev : β → Value) (ed : β → DataW Unit) : Prop where
  law : Keyed P k
  key : ∀ x, dom x → keyOf P k (kv x) = some (kf x)
  inj : ∀ x y, dom x → dom y → kf x = kf y → x = y
  val : ∀ y, plainElem (H := Unit) P e (ev y) = some (ed y, [])
  inv : ∀ y v ps, plainElem (H := Unit) P e v = some (ed y, ps) → v = ev y
  lit : ∀ x, dom x → WideAt.IsKeyLit (kf x)

/-- Block b is a map of at most n entries that holds g. -/
def MapAt (P : Program) (k e : TypeId) {κ β : Type} (dom : κ → Prop) (kf : κ → Lit) (ed : β → DataW Unit) (w : World) (b n : Nat) (g : κ → Option β) : Prop :=
  ∃ D, w.ownsMap P k (plainElem (H := Unit) P e) b n D ∧ ∀ x, dom x → match g x with
    | none => Maps.has D (kf x) = false
    | some y => Maps.has D (kf x) = true ∧ ∀ z, D.atKey (kf x) z = ed y

section
variable {P : Program} {k e : TypeId} {κ β : Type} {dom : κ → Prop} {kv : κ → Value} {kf : κ → Lit} {ev : β → Value} {ed : β → DataW Unit}

def Res.map (P : Program) (k e : TypeId) {κ β : Type} (dom : κ → Prop) (kf : κ → Lit) (ed : β → DataW Unit) (b n : Nat) (g : κ → Option β) : Res :=
  ⟨fun w F => F = [b] ∧ MapAt P k e dom kf ed w b n g,
   fun w w' F h hk => by
    obtain ⟨rfl, D, ⟨es, clock, hb, r⟩, hg⟩ := h
    exact ⟨rfl, D, ⟨es, clock, (hk b (by simp)).trans hb, r⟩, hg⟩,
   fun w F h c hc => by
    obtain ⟨rfl, D, ho, _⟩ := h
    simp at hc
    subst hc
    exact ho.lt⟩

theorem Sep.mapNew {lo : Nat} {w : World} {rs : List Res} (h : Sep lo w rs) (hlo : lo ≤ w.heap.size) (P : Program) (k e : TypeId) {κ β : Type} (dom : κ → Prop) (kf : κ → Lit) (ed : β → DataW Unit) :
    Sep lo (w.alloc (.map #[] 0)) (Res.map P k e dom kf ed w.heap.size 0 (fun _ => none) :: rs) :=
  h.cons ((Below.refl _ _).alloc (Nat.le_refl _) _) hlo (r := Res.map P k e dom kf ed w.heap.size 0 (fun _ => none)) (G := [w.heap.size]) ⟨rfl, .map [], World.ownsMap_made _ _ _ _, fun _ _ => rfl⟩ (by simp [Fresh])

theorem Sep.mapLt {lo : Nat} {w : World} {rs : List Res} {b n : Nat} {g : κ → Option β} (h : Sep lo w (Res.map P k e dom kf ed b n g :: rs)) : b < w.heap.size := by
  obtain ⟨G, ⟨rfl, D, ho, hg⟩, _⟩ := h.head
  exact ho.lt
theorem Sep.mapLook (M : MapK P k e dom kv kf ev ed) {lo : Nat} {w : World} {rs : List Res} {b n : Nat} {g : κ → Option β} (h : Sep lo w (Res.map P k e dom kf ed b n g :: rs)) {t : TypeId} (ht : P.underlying t = some (.map k e)) {z : Value} (hz : (zeroValue e).run P w = .ok z w) {zd : DataW Unit} (hzd : plainElem P e z = some (zd, [])) (hzi : ∀ v ps, plainElem (H := Unit) P e v = some (zd, ps) → v = z) (x : κ) (hx : dom x) :
    (Instr.lookup t (.map (some b)) (kv x) false).run P w = .ok (match g x with | some y => ev y | none => z) w := by
  obtain ⟨G, ⟨rfl, D, ho, hg⟩, _⟩ := h.head
  obtain ⟨v, ps, hr, hv⟩ := ho.lookup M.law ht hz hzd (M.key x hx)
  have h1 := hg x hx
  rw [hr]
  cases hgx : g x with
  | none =>
    rw [hgx] at h1
    rw [Maps.atKey_of_not_has h1] at hv
    rw [hzi v ps hv]
  | some y =>
    rw [hgx] at h1
    rw [h1.2 zd] at hv
    rw [M.inv y v ps hv]
theorem Sep.mapLookOk (M : MapK P k e dom kv kf ev ed) {lo : Nat} {w : World} {rs : List Res} {b n : Nat} {g : κ → Option β} (h : Sep lo w (Res.map P k e dom kf ed b n g :: rs)) {t : TypeId} (ht : P.underlying t = some (.map k e)) {z : Value} (hz : (zeroValue e).run P w = .ok z w) {zd : DataW Unit} (hzd : plainElem P e z = some (zd, [])) (hzi : ∀ v ps, plainElem (H := Unit) P e v = some (zd, ps) → v = z) (x : κ) (hx : dom x) :
    (Instr.lookup t (.map (some b)) (kv x) true).run P w = .ok (.tuple #[match g x with | some y => ev y | none => z, .bool (g x).isSome]) w := by
  obtain ⟨G, ⟨rfl, D, ho, hg⟩, _⟩ := h.head
  obtain ⟨v, ps, hr, hv⟩ := ho.look_ok M.law ht hz hzd (M.key x hx)
  have h1 := hg x hx
  rw [hr]
  cases hgx : g x with
  | none =>
    rw [hgx] at h1
    rw [Maps.atKey_of_not_has h1] at hv
    rw [hzi v ps hv, h1]
    rfl
  | some y =>
    rw [hgx] at h1
    rw [h1.2 zd] at hv
    rw [M.inv y v ps hv, h1.1]
    rfl
open Classical in
theorem Sep.mapStore (M : MapK P k e dom kv kf ev ed) {lo : Nat} {w : World} {rs : List Res} {b n : Nat} {g : κ → Option β} (h : Sep lo w (Res.map P k e dom kf ed b n g :: rs)) (hlo : lo ≤ w.heap.size) {t : TypeId} (ht : P.underlying t = some (.map k e)) (hn : n < maxLen) (x : κ) (hx : dom x) (y : β) :
    ∃ w', (Instr.mapUpdate t (.map (some b)) (kv x) (ev y)).run P w = .ok () w' ∧ Sep lo w' (Res.map P k e dom kf ed b (n + 1) (fun x' => if x' = x then some y else g x') :: rs) ∧ Below lo w w' ∧ ∀ p : Addr, p.block < w.heap.size → p.block ≠ b → w'.cell? p = w.cell? p := by
  obtain ⟨G, ⟨rfl, D, ho, hg⟩, hf, hK⟩ := h.head
  obtain ⟨w', hr, ho', hgr⟩ := ho.update M.law ht hn (M.key x hx) (M.val y)
  have hD := ho.isMap
  refine ⟨w', hr, hK w' (Res.map P k e dom kf ed b (n + 1) (fun x' => if x' = x then some y else g x')) [b] ⟨rfl, _, ho', fun x' hx' => ?_⟩ (by simp) (fun _ h => Or.inl h) hlo fun c hlt hc => hgr.block c hlt fun e2 => hc (by cases e2; simp), (Below.refl lo w).grown hgr hlo fun c hc => hf.2 c (by cases hc; simp), fun p hp hpb => by simp only [World.cell?, hgr.block p.block hp fun e2 => hpb (by cases e2; rfl)]⟩
  by_cases e : x' = x
  · subst e
    simp only [if_true]
    exact ⟨Maps.has_put_same hD (M.lit x' hx') _, fun z => Maps.atKey_put_same hD (M.lit x' hx') _ z⟩
  · simp only [e, if_false]
    have hne : kf x' ≠ kf x := fun e2 => e (M.inj x' x hx' hx e2)
    have h1 := hg x' hx'
    cases hgx : g x' with
    | none =>
      rw [hgx] at h1
      simp only [Maps.has_put_other hne]
      exact h1
    | some y' =>
      rw [hgx] at h1
      simp only [Maps.has_put_other hne, Maps.atKey_put_other hne]
      exact h1
end
section
variable {P : Program} {w : World} {ops : Array Oper} {rest : List Oper} {o : Oper} {a : Act} {Q : Exit → Act → World → Prop}
/-- 'm[k] = v' and a literal's entry at the operation, the run known. -/
theorem wpl_mapUpdate_run (hw : Region.wanted o (yielded ops a.tmps) = true) (m x v : Operand) (t : TypeId) (hop : o.op = Op.mapUpdate t m x v ∨ o.op = Op.insert t m x v) {vm vk vv : Value} {w' : World} (hm : a.eval m = vm) (hx : a.eval x = vk) (hv : a.eval v = vv)
    (hr : (Instr.mapUpdate t vm vk vv).run P w = .ok () w') (h : wpList P ops Q rest (a.put o.dst undef) w') : wpList P ops Q (o :: rest) a w := by
  refine BigFrame.wpList_want hw fun K hK => ?_
  unfold Oper.wp
  rcases hop with hop | hop <;> simp [execOp, hop, hm, hx, hv, hr, Result.andThen] <;> exact hK _ _ h
theorem wpl_lookup_run (hw : Region.wanted o (yielded ops a.tmps) = true) (m x : Operand) (t : TypeId) (c : Bool) (hop : o.op = Op.lookup t m x c) {vm vk r : Value} (hm : a.eval m = vm) (hx : a.eval x = vk)
    (hr : (Instr.lookup t vm vk c).run P w = .ok r w) (h : wpList P ops Q rest (a.put o.dst r) w) : wpList P ops Q (o :: rest) a w := by
  refine BigFrame.wpList_want hw fun K hK => ?_
  unfold Oper.wp
  simp [execOp, hop, hm, hx, hr, Result.andThen]
  exact hK _ _ h
end
/-- Sets of states, told by numbers, as keys; bools. -/
def domS (s : Nat) : Prop := s < 9223372036854775808
theorem wf_i64 {s : Nat} (h : domS s) : (Lit.int .i64 (s : Int)).wf = true := WalkArith.wf_i64 (by unfold domS at h; omega)
theorem boolElem_inv {P : Program} {e : TypeId} (he : P.underlying e = some .bool) {y : Bool} {v : Value} {ps : List MemPlace} (h : plainElem (H := Unit) P e v = some (.lit (.bool y), ps)) : v = .bool y := by
  unfold plainElem at h
  rw [he] at h
  cases v <;> simp at h
  rw [h.1]
theorem mapK_bool {P : Program} {k e : TypeId} (hk : P.underlying k = some (.int .i64)) (he : P.underlying e = some .bool) : MapK P k e domS (fun s : Nat => .int .i64 (s : Int)) (fun s => .int .i64 (s : Int)) (fun y : Bool => .bool y) (fun y => .lit (.bool y)) where
  law := int_keyed hk
  key := fun x hx => keyOf_int_mk hk (wf_i64 hx)
  inj := fun x y _ _ h => by simp at h; omega
  val := fun y => plainElem_bool he y
  inv := fun y v ps h => by
    unfold plainElem at h
    rw [he] at h
    cases v <;> simp at h
    rw [h.1]
  lit := fun x _ => by simp [WideAt.IsKeyLit]
theorem mapK_int {P : Program} {k e : TypeId} (hk : P.underlying k = some (.int .i64)) (he : P.underlying e = some (.int .i64)) : MapK P k e domS (fun s : Nat => .int .i64 (s : Int)) (fun s => .int .i64 (s : Int)) (fun y : {s : Nat // domS s} => .int .i64 (y.1 : Int)) (fun y => .lit (.int .i64 (y.1 : Int))) where
  law := int_keyed hk
  key := fun x hx => keyOf_int_mk hk (wf_i64 hx)
  inj := fun x y _ _ h => by simp at h; omega
  val := fun y => plainElem_int he (wf_i64 y.2)
  inv := fun y v ps h => by
    obtain ⟨a, rfl, h2, _⟩ := plainElem_int_inv he h
    simp at h2
    rw [h2.1]
  lit := fun x _ => by simp [WideAt.IsKeyLit]
end Go.Sd
