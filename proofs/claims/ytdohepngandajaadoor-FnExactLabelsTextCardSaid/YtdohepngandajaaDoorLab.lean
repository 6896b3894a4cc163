/-
  Labelled graphs by value: two numbers and a slice of structs of three numbers: how they read; how the laws' arguments are opened.
-/
import Derived.Test.YtdohepngandajaaDoorBase
import Derived.Test.YtdohepngandajaaDoorOpen
import Derived.Deep.Slices
import Derived.OwnWalk
import Derived.Lib.SmallJoins
namespace Go.Sd
open Go.RowKit Go.Deep Go.Joins Go.ChangeShapes Go.WideShapes Go.ChangeAt

abbrev Arc3 := Int × Int × Int
abbrev Lb := Int × Int × List Arc3
/-- v is a slice of structs of three numbers. -/
def ArcsR (w : World) (v : Value) (xs : List Arc3) : Prop :=
  xs.length ≤ 9223372036854775807 ∧ ∃ a c, v = .slice a xs.length c ∧ xs.length ≤ c ∧ c ≤ 9223372036854775807 ∧ (a = none → c = 0) ∧
    (0 < xs.length → ∃ b o, a = some ⟨b, o, none⟩ ∧ b < w.heap.size ∧ ∀ i x, xs[i]? = some x → w.cell? ⟨b, o + i * 3, none⟩ = some (.int .i64 x.1) ∧ w.cell? ⟨b, o + i * 3 + 1, none⟩ = some (.int .i64 x.2.1) ∧ w.cell? ⟨b, o + i * 3 + 2, none⟩ = some (.int .i64 x.2.2))
theorem ArcsR.frame : Framed ArcsR := by
  intro w w' v xs h hb
  obtain ⟨h1, a, c, rfl, h2, h3, h4, h5⟩ := h
  refine ⟨h1, a, c, rfl, h2, h3, h4, fun h0 => ?_⟩
  obtain ⟨b, o, rfl, hlt, hx⟩ := h5 h0
  refine ⟨b, o, rfl, Nat.lt_of_lt_of_le hlt hb.size, fun i x hi => ?_⟩
  obtain ⟨c0, c1, c2⟩ := hx i x hi
  exact ⟨(hb.cell (p := ⟨b, o + i * 3, none⟩) hlt).trans c0, (hb.cell (p := ⟨b, o + i * 3 + 1, none⟩) hlt).trans c1, (hb.cell (p := ⟨b, o + i * 3 + 2, none⟩) hlt).trans c2⟩
theorem ArcsR.store_off {w : World} {B n c : Nat} {xs : List Arc3} (h : ArcsR w (.slice (some ⟨B, 0, none⟩) n c) xs) {p : Addr} (hp : p.block ≠ B) (u : Value) : ArcsR (w.setCell p u) (.slice (some ⟨B, 0, none⟩) n c) xs := by
  obtain ⟨h1, a, c', hv, h2, h3, h4, h5⟩ := h
  refine ⟨h1, a, c', hv, h2, h3, h4, fun h0 => ?_⟩
  obtain ⟨b, o, rfl, hlt, hx⟩ := h5 h0
  have hb : b = B := by simp at hv; exact hv.1.1.symm
  refine ⟨b, o, rfl, by rw [World.size_setCell]; exact hlt, fun i x hi => ?_⟩
  obtain ⟨c0, c1, c2⟩ := hx i x hi
  have hne : ∀ j : Nat, p ≠ ⟨b, j, none⟩ := fun j e => hp (by rw [e]; exact hb)
  exact ⟨(World.cell?_setCell_other _ _ _ _ (hne _)).trans c0, (World.cell?_setCell_other _ _ _ _ (hne _)).trans c1, (World.cell?_setCell_other _ _ _ _ (hne _)).trans c2⟩
def LabR (w : World) (v : Value) (l : Lb) : Prop := ∃ va, v = .agg #[.int .i64 l.1, .int .i64 l.2.1, va] ∧ ArcsR w va l.2.2
theorem LabR.frame : Framed LabR := fun _ _ _ _ ⟨va, e, h⟩ hb => ⟨va, e, ArcsR.frame _ _ _ _ h hb⟩

/-- n numbers in a block, as a function gives them. -/
def CellsI (w : World) (B m : Nat) (f : Nat → Int) : Prop := ∀ j, j < m → w.cell? ⟨B, j, none⟩ = some (.int .i64 (f j)) ∧ w.frozen? ⟨B, j, none⟩ = false
theorem CellsI.set {w : World} {B m : Nat} {f : Nat → Int} (h : CellsI w B m f) {j : Nat} (hj : j < m) (y : Int) : CellsI (w.setCell ⟨B, j, none⟩ (.int .i64 y)) B m (fun i => if i = j then y else f i) := by
  intro i hi
  refine ⟨?_, (World.frozen?_setCell _ _ _ _).trans (h i hi).2⟩
  by_cases e : i = j
  · subst e
    show _ = some (Value.int .i64 (if i = i then y else f i))
    rw [if_pos rfl]
    exact World.cell?_setCell_same _ _ _ (h i hi).1
  · show _ = some (Value.int .i64 (if i = j then y else f i))
    rw [if_neg e]
    exact (World.cell?_setCell_other _ _ _ _ (by simp <;> omega)).trans (h i hi).1
theorem CellsI.congr {w : World} {B m : Nat} {f g : Nat → Int} (h : CellsI w B m f) (e : ∀ j, j < m → f j = g j) : CellsI w B m g := fun j hj => by rw [← e j hj]; exact h j hj
theorem CellsI.keep {w w' : World} {B m : Nat} {f : Nat → Int} (h : CellsI w B m f) {lo : Nat} (hb : Below lo w w') (hlt : B < lo) : CellsI w' B m f := fun j hj =>
  ⟨(hb.cell (p := ⟨B, j, none⟩) hlt).trans (h j hj).1, (hb.frozen (p := ⟨B, j, none⟩) hlt).trans (h j hj).2⟩

def comp (j : Nat) (x : Arc3) : Int := if j = 0 then x.1 else if j = 1 then x.2.1 else x.2.2
/-- The first k arcs laid out, zeros behind them. -/
def arcF (xs : List Arc3) (k j : Nat) : Int := if j / 3 < k then comp (j % 3) (xs.getD (j / 3) (0, 0, 0)) else 0
theorem arcF_next {xs : List Arc3} {k : Nat} {x : Arc3} (hx : xs[k]? = some x) (j : Nat) :
    (if j = k * 3 + 2 then x.2.2 else if j = k * 3 + 1 then x.2.1 else if j = k * 3 then x.1 else arcF xs k j) = arcF xs (k + 1) j := by
  have hg : xs.getD k (0, 0, 0) = x := by simp [List.getD, hx]
  unfold arcF
  by_cases e2 : j = k * 3 + 2
  · rw [if_pos e2, if_pos (by omega), show j / 3 = k by omega, hg, show j % 3 = 2 by omega]; rfl
  rw [if_neg e2]
  by_cases e1 : j = k * 3 + 1
  · rw [if_pos e1, if_pos (by omega), show j / 3 = k by omega, hg, show j % 3 = 1 by omega]; rfl
  rw [if_neg e1]
  by_cases e0 : j = k * 3
  · rw [if_pos e0, if_pos (by omega), show j / 3 = k by omega, hg, show j % 3 = 0 by omega]; rfl
  rw [if_neg e0]
  by_cases h : j / 3 < k
  · rw [if_pos h, if_pos (by omega)]
  · rw [if_neg h, if_neg (by omega)]
theorem ArcsR.of_cells {w : World} {B : Nat} {xs : List Arc3} (hB : B < w.heap.size) (hl : xs.length ≤ 9223372036854775807) (h : CellsI w B (xs.length * 3) (arcF xs xs.length)) : ArcsR w (.slice (some ⟨B, 0, none⟩) xs.length xs.length) xs := by
  refine ⟨hl, _, _, rfl, Nat.le_refl _, hl, by simp, fun _ => ⟨B, 0, rfl, hB, fun i x hi => ?_⟩⟩
  have hi2 := (List.getElem?_eq_some_iff.1 hi).1
  have hg : xs.getD i (0, 0, 0) = x := by simp [List.getD, hi]
  have key : ∀ c, c < 3 → arcF xs xs.length (i * 3 + c) = comp c x := fun c hc => by
    unfold arcF
    rw [if_pos (by omega), show (i * 3 + c) / 3 = i by omega, hg, show (i * 3 + c) % 3 = c by omega]
  have k0 := (h (i * 3 + 0) (by omega)).1
  have k1 := (h (i * 3 + 1) (by omega)).1
  have k2 := (h (i * 3 + 2) (by omega)).1
  rw [key _ (by omega)] at k0 k1 k2
  rw [Nat.zero_add]
  exact ⟨k0, k1, k2⟩

/-- 'make([]T, n)', T a struct of three numbers; the world is hidden. -/
theorem wpl_make3 {P : Program} {w : World} {ops : Array Oper} {rest : List Oper} {o : Oper} {a : Act} {Q : Exit → Act → World → Prop}
    (hg : o.guard = none) (l c : Operand) (t : TypeId) (hop : o.op = Op.makeSlice t l c)
    (e : TypeId) (bytes : Nat) (ht : P.underlying t = some (.slice e)) (hinfo : (P.info? e).map (fun i => (i.zero, i.size, i.bytes)) = some (some (.agg #[.int .i64 0, .int .i64 0, .int .i64 0]), 3, bytes))
    (n : Nat) (hl : a.eval l = .int .i64 (n : Int)) (hc : a.eval c = .int .i64 (n : Int)) (hbytes : bytes * n ≤ 281474976710656) (h63 : n ≤ 9223372036854775807)
    (hK : ∀ w', w.heap.size < w'.heap.size → CellsI w' w.heap.size (n * 3) (fun _ => 0) → Below w.heap.size w w' → wpList P ops Q rest (a.put o.dst (.slice (some ⟨w.heap.size, 0, none⟩) n n)) w') :
    wpList P ops Q (o :: rest) a w := by
  obtain ⟨i, hi, hzz⟩ := Option.map_eq_some_iff.1 hinfo
  simp only [Prod.mk.injEq] at hzz
  obtain ⟨hz, hs, hb⟩ := hzz
  refine wpList_make_full w hg l c t hop 0 e i _ 3 ht hi hz hs .i64 .i64 _ _ n hl hc rfl rfl (by rw [hb]; exact hbytes) h63 (Nat.zero_le _) fun w' ho hgr => ?_
  rcases ho.2 with ⟨h, _⟩ | ⟨g, cap, cur, hv, _, hgp, hnc, _, hsz, hcur⟩
  · simp at h
  · simp at hv
    obtain ⟨rfl, rfl⟩ := hv
    have hlt : w.heap.size < w'.heap.size := by
      have := (Array.getElem?_eq_some_iff.1 hgp).1
      exact this
    refine hK w' hlt (fun j hj => ?_) ((Below.refl w.heap.size w).grown hgr (Nat.le_refl _) (by simp))
    have hj2 : cur[j]? = some (.int .i64 0) := by
      have h1 : (cur.toList.take (n * 3))[j]? = some (.int .i64 0) := by
        rw [hcur]
        simp [madeCells, Value.cells, hj]
        have h3 : j % 3 = 0 ∨ j % 3 = 1 ∨ j % 3 = 2 := by omega
        rcases h3 with h | h | h <;> rw [h] <;> rfl
      rw [List.getElem?_take, if_pos hj] at h1
      simpa using h1
    constructor
    · simp [World.cell?, hgp, hj2]
    · simp [World.frozen?, hgp]

section
variable {H : Type} {enc : TypeId × Value → H} {P : Program} {W : World} {base : Nat}
theorem open_Arcs_cells {t e q : TypeId} {f0 f1 f2 : Field} (ht : P.underlying t = some (.slice e)) (he : P.underlying e = some (.struct #[f0, f1, f2])) (hq : P.underlying q = some (.int .i64)) (e0 : f0.type = q) (e1 : f1.type = q) (e2 : f2.type = q)
    (o0 : f0.offset = 0) (o1 : f1.offset = 1) (o2 : f2.offset = 2) (ce : P.cellsOf e = 3) (cq : P.cellsOf q = 1) {v : Value} {fuel : Nat} {x : DataW H × List MemPlace}
    (h : DataW.trod enc P W base (fun _ => true) true fuel t [v] = some x) : ∃ xs, ArcsR W v xs := by
  rcases open_slice ht h with ⟨hcs, _⟩ | ⟨a, len, cap, m, n, D, Pl, hcs, hb, hl, hm, hmm, _, hx⟩
  · simp at hcs
    subst hcs
    exact ⟨[], by simp, none, 0, rfl, by simp, by simp, by simp, by simp⟩
  · simp at hcs
    subst hcs
    simp only [if_true] at hmm
    obtain rfl : m = cap := hmm
    have each : ∀ i, i < m → ∃ y : Arc3, W.cell? (a.add (i * 3)) = some (.int .i64 y.1) ∧ W.cell? (a.add (i * 3 + 1)) = some (.int .i64 y.2.1) ∧ W.cell? (a.add (i * 3 + 2)) = some (.int .i64 y.2.2) := by
      intro i hi
      obtain ⟨cs', h1, h2⟩ := hx i hi
      rw [ce] at h1
      obtain ⟨_, hlen, hcell⟩ := World.cells?_some h1
      obtain ⟨xs, k, hk, hxy, _, hxl, hf⟩ := DataW.trod_struct he h2
      match xs, hxl, cs', hlen with
      | [y0, y1, y2], _, [v0, v1, v2], _ =>
        have g0 := hf 0 f0 rfl
        have g1 := hf 1 f1 rfl
        have g2 := hf 2 f2 rfl
        rw [e0] at g0
        rw [e1] at g1
        rw [e2] at g2
        simp [o0, o1, o2, cq] at g0 g1 g2
        obtain ⟨a0, z0, _, _⟩ := DataW.trod_int hq g0
        obtain ⟨a1, z1, _, _⟩ := DataW.trod_int hq g1
        obtain ⟨a2, z2, _, _⟩ := DataW.trod_int hq g2
        simp at z0 z1 z2
        subst z0 z1 z2
        have c0 := hcell 0 (by omega)
        have c1 := hcell 1 (by omega)
        have c2 := hcell 2 (by omega)
        rw [add_add] at c0 c1 c2
        exact ⟨(a0, a1, a2), by simpa using c0, by simpa using c1, by simpa using c2⟩
    obtain ⟨q, hqq⟩ := choose_lt each
    have hm' : m ≤ 9223372036854775807 := hm
    refine ⟨(List.range len).map q, by simp; omega, some a, m, by simp, by simp; exact hl, hm', by simp, fun h0 => ?_⟩
    simp at h0
    obtain ⟨b, o, sp⟩ := a
    have h1 := (hqq 0 (by omega)).1
    have hs : sp = none := by simpa [Addr.add] using World.cell?_spot h1
    subst hs
    refine ⟨b, o, rfl, World.block_lt_of_cell? W ⟨b, o, none⟩ (by simpa [Addr.add] using h1), fun i x hi => ?_⟩
    have hi2 : i < len := by simpa using (List.getElem?_eq_some_iff.1 hi).1
    rw [List.getElem?_map, List.getElem?_range hi2] at hi
    simp at hi
    subst hi
    have h3 := hqq i (by omega)
    rw [add_plain, add_plain, add_plain] at h3
    exact h3
theorem open_Labels {tS tA e q : TypeId} {g0 g1 g2 f0 f1 f2 : Field} (hs : P.underlying tS = some (.struct #[g0, g1, g2])) (hone : oneCellFields P #[g0, g1, g2] = true) (hC : P.cellsOf tS = 3) (k0 : g0.type = q) (k1 : g1.type = q) (k2 : g2.type = tA)
    (ht : P.underlying tA = some (.slice e)) (he : P.underlying e = some (.struct #[f0, f1, f2])) (hq : P.underlying q = some (.int .i64)) (e0 : f0.type = q) (e1 : f1.type = q) (e2 : f2.type = q)
    (o0 : f0.offset = 0) (o1 : f1.offset = 1) (o2 : f2.offset = 2) (ce : P.cellsOf e = 3) (cq : P.cellsOf q = 1) {v : Value} {d : DataW H} {p : List MemPlace}
    (hv : Value.okWide P W .any base tS v) (h : DataW.Trod enc P W 0 (fun _ => true) true tS v d p) : ∃ l, LabR W v l ∧ I64 l.1 ∧ I64 l.2.1 := by
  obtain ⟨c0, c1, c2, y0, y1, y2, m, rfl, rfl, rfl, hy0, hy1, hy2⟩ := open_agg3 hs hone hC hv h
  rw [k0] at hy0
  rw [k1] at hy1
  rw [k2] at hy2
  obtain ⟨a0, z0, _, w0⟩ := DataW.trod_int hq hy0
  obtain ⟨a1, z1, _, w1⟩ := DataW.trod_int hq hy1
  simp at z0 z1
  subst z0 z1
  obtain ⟨xs, hxs⟩ := open_Arcs_cells ht he hq e0 e1 e2 o0 o1 o2 ce cq hy2
  exact ⟨(a0, a1, xs), ⟨c2, rfl, hxs⟩, I64.of_wf w0, I64.of_wf w1⟩
end
end Go.Sd
