/-
  Texts of this claim joined: laws for its walks, contracts of the functions that the law reaches.
-/
import Derived.Test.YtcilgihmaaobeaaLabelsOfM1
import Derived.Deep.Slices
import Derived.OwnWalk
import Derived.Lib.SmallJoins
import Derived.Test.YtcilgihmaaobeaaRows
import Derived.Deep.OwnRows
import Derived.Handy
import Derived.Deep.RegionHeld3
import Derived.Deep.DeepCutAuto
section
/-
  Labelled graphs by value: two numbers and a slice of structs of three numbers: how they read; how the laws' arguments are opened.
-/
namespace Go.Sd
open Go.RowKit Go.Deep Go.Joins Go.ChangeShapes Go.WideShapes Go.ChangeAt

abbrev Arc3 := Int × Int × Int
abbrev Lb := Int × Int × List Arc3
/-- v is a slice of structs of three numbers. -/
def ArcsR (w : World) (v : Value) (xs : List Arc3) : Prop :=
  xs.length ≤ 9223372036854775807 ∧ ∃ a c, v = .slice a xs.length c ∧ xs.length ≤ c ∧ c ≤ 9223372036854775807 ∧ (a = none → c = 0) ∧
    (0 < xs.length → ∃ b o, a = some ⟨b, o, none⟩ ∧ b < w.heap.size ∧ ∀ i x, xs[i]? = some x → w.cell? ⟨b, o + i * 3, none⟩ = some (.int .i64 x.1) ∧ w.cell? ⟨b, o + i * 3 + 1, none⟩ = some (.int .i64 x.2.1) ∧ w.cell? ⟨b, o + i * 3 + 2, none⟩ = some (.int .i64 x.2.2))
theorem ArcsR.frame : Framed ArcsR := by
  intro w w' v xs h hb
  obtain ⟨h1, a, c, rfl, h2, h3, h4, h5⟩ := h
  refine ⟨h1, a, c, rfl, h2, h3, h4, fun h0 => ?_⟩
  obtain ⟨b, o, rfl, hlt, hx⟩ := h5 h0
  refine ⟨b, o, rfl, Nat.lt_of_lt_of_le hlt hb.size, fun i x hi => ?_⟩
  obtain ⟨c0, c1, c2⟩ := hx i x hi
  exact ⟨(hb.cell (p := ⟨b, o + i * 3, none⟩) hlt).trans c0, (hb.cell (p := ⟨b, o + i * 3 + 1, none⟩) hlt).trans c1, (hb.cell (p := ⟨b, o + i * 3 + 2, none⟩) hlt).trans c2⟩
theorem ArcsR.store_off {w : World} {B n c : Nat} {xs : List Arc3} (h : ArcsR w (.slice (some ⟨B, 0, none⟩) n c) xs) {p : Addr} (hp : p.block ≠ B) (u : Value) : ArcsR (w.setCell p u) (.slice (some ⟨B, 0, none⟩) n c) xs := by
  obtain ⟨h1, a, c', hv, h2, h3, h4, h5⟩ := h
  refine ⟨h1, a, c', hv, h2, h3, h4, fun h0 => ?_⟩
  obtain ⟨b, o, rfl, hlt, hx⟩ := h5 h0
  have hb : b = B := by simp at hv; exact hv.1.1.symm
  refine ⟨b, o, rfl, by rw [World.size_setCell]; exact hlt, fun i x hi => ?_⟩
  obtain ⟨c0, c1, c2⟩ := hx i x hi
  have hne : ∀ j : Nat, p ≠ ⟨b, j, none⟩ := fun j e => hp (by rw [e]; exact hb)
  exact ⟨(World.cell?_setCell_other _ _ _ _ (hne _)).trans c0, (World.cell?_setCell_other _ _ _ _ (hne _)).trans c1, (World.cell?_setCell_other _ _ _ _ (hne _)).trans c2⟩
def LabR (w : World) (v : Value) (l : Lb) : Prop := ∃ va, v = .agg #[.int .i64 l.1, .int .i64 l.2.1, va] ∧ ArcsR w va l.2.2
theorem LabR.frame : Framed LabR := fun _ _ _ _ ⟨va, e, h⟩ hb => ⟨va, e, ArcsR.frame _ _ _ _ h hb⟩

/-- n numbers in a block, as a function gives them. -/
def CellsI (w : World) (B m : Nat) (f : Nat → Int) : Prop := ∀ j, j < m → w.cell? ⟨B, j, none⟩ = some (.int .i64 (f j)) ∧ w.frozen? ⟨B, j, none⟩ = false
theorem CellsI.set {w : World} {B m : Nat} {f : Nat → Int} (h : CellsI w B m f) {j : Nat} (hj : j < m) (y : Int) : CellsI (w.setCell ⟨B, j, none⟩ (.int .i64 y)) B m (fun i => if i = j then y else f i) := by
  intro i hi
  refine ⟨?_, (World.frozen?_setCell _ _ _ _).trans (h i hi).2⟩
  by_cases e : i = j
  · subst e
    show _ = some (Value.int .i64 (if i = i then y else f i))
    rw [if_pos rfl]
    exact World.cell?_setCell_same _ _ _ (h i hi).1
  · show _ = some (Value.int .i64 (if i = j then y else f i))
    rw [if_neg e]
    exact (World.cell?_setCell_other _ _ _ _ (by simp <;> omega)).trans (h i hi).1
theorem CellsI.congr {w : World} {B m : Nat} {f g : Nat → Int} (h : CellsI w B m f) (e : ∀ j, j < m → f j = g j) : CellsI w B m g := fun j hj => by rw [← e j hj]; exact h j hj
theorem CellsI.keep {w w' : World} {B m : Nat} {f : Nat → Int} (h : CellsI w B m f) {lo : Nat} (hb : Below lo w w') (hlt : B < lo) : CellsI w' B m f := fun j hj =>
  ⟨(hb.cell (p := ⟨B, j, none⟩) hlt).trans (h j hj).1, (hb.frozen (p := ⟨B, j, none⟩) hlt).trans (h j hj).2⟩

def comp (j : Nat) (x : Arc3) : Int := if j = 0 then x.1 else if j = 1 then x.2.1 else x.2.2
/-- The first k arcs laid out, zeros behind them. -/
def arcF (xs : List Arc3) (k j : Nat) : Int := if j / 3 < k then comp (j % 3) (xs.getD (j / 3) (0, 0, 0)) else 0
theorem arcF_next {xs : List Arc3} {k : Nat} {x : Arc3} (hx : xs[k]? = some x) (j : Nat) :
    (if j = k * 3 + 2 then x.2.2 else if j = k * 3 + 1 then x.2.1 else if j = k * 3 then x.1 else arcF xs k j) = arcF xs (k + 1) j := by
  have hg : xs.getD k (0, 0, 0) = x := by simp [List.getD, hx]
  unfold arcF
  by_cases e2 : j = k * 3 + 2
  · rw [if_pos e2, if_pos (by omega), show j / 3 = k by omega, hg, show j % 3 = 2 by omega]; rfl
  rw [if_neg e2]
  by_cases e1 : j = k * 3 + 1
  · rw [if_pos e1, if_pos (by omega), show j / 3 = k by omega, hg, show j % 3 = 1 by omega]; rfl
  rw [if_neg e1]
  by_cases e0 : j = k * 3
  · rw [if_pos e0, if_pos (by omega), show j / 3 = k by omega, hg, show j % 3 = 0 by omega]; rfl
  rw [if_neg e0]
  by_cases h : j / 3 < k
  · rw [if_pos h, if_pos (by omega)]
  · rw [if_neg h, if_neg (by omega)]
theorem ArcsR.of_cells {w : World} {B : Nat} {xs : List Arc3} (hB : B < w.heap.size) (hl : xs.length ≤ 9223372036854775807) (h : CellsI w B (xs.length * 3) (arcF xs xs.length)) : ArcsR w (.slice (some ⟨B, 0, none⟩) xs.length xs.length) xs := by
  refine ⟨hl, _, _, rfl, Nat.le_refl _, hl, by simp, fun _ => ⟨B, 0, rfl, hB, fun i x hi => ?_⟩⟩
  have hi2 := (List.getElem?_eq_some_iff.1 hi).1
  have hg : xs.getD i (0, 0, 0) = x := by simp [List.getD, hi]
  have key : ∀ c, c < 3 → arcF xs xs.length (i * 3 + c) = comp c x := fun c hc => by
    unfold arcF
    rw [if_pos (by omega), show (i * 3 + c) / 3 = i by omega, hg, show (i * 3 + c) % 3 = c by omega]
  have k0 := (h (i * 3 + 0) (by omega)).1
  have k1 := (h (i * 3 + 1) (by omega)).1
  have k2 := (h (i * 3 + 2) (by omega)).1
  rw [key _ (by omega)] at k0 k1 k2
  rw [Nat.zero_add]
  exact ⟨k0, k1, k2⟩

/-- 'make([]T, n)', T a struct of three numbers; the world is hidden. -/
theorem wpl_make3 {P : Program} {w : World} {ops : Array Oper} {rest : List Oper} {o : Oper} {a : Act} {Q : Exit → Act → World → Prop}
    (hg : o.guard = none) (l c : Operand) (t : TypeId) (hop : o.op = Op.makeSlice t l c)
    (e : TypeId) (bytes : Nat) (ht : P.underlying t = some (.slice e)) (hinfo : (P.info? e).map (fun i => (i.zero, i.size, i.bytes)) = some (some (.agg #[.int .i64 0, .int .i64 0, .int .i64 0]), 3, bytes))
    (n : Nat) (hl : a.eval l = .int .i64 (n : Int)) (hc : a.eval c = .int .i64 (n : Int)) (hbytes : bytes * n ≤ 281474976710656) (h63 : n ≤ 9223372036854775807)
    (hK : ∀ w', w.heap.size < w'.heap.size → CellsI w' w.heap.size (n * 3) (fun _ => 0) → Below w.heap.size w w' → wpList P ops Q rest (a.put o.dst (.slice (some ⟨w.heap.size, 0, none⟩) n n)) w') :
    wpList P ops Q (o :: rest) a w := by
  obtain ⟨i, hi, hzz⟩ := Option.map_eq_some_iff.1 hinfo
  simp only [Prod.mk.injEq] at hzz
  obtain ⟨hz, hs, hb⟩ := hzz
  refine wpList_make_full w hg l c t hop 0 e i _ 3 ht hi hz hs .i64 .i64 _ _ n hl hc rfl rfl (by rw [hb]; exact hbytes) h63 (Nat.zero_le _) fun w' ho hgr => ?_
  rcases ho.2 with ⟨h, _⟩ | ⟨g, cap, cur, hv, _, hgp, hnc, _, hsz, hcur⟩
  · simp at h
  · simp at hv
    obtain ⟨rfl, rfl⟩ := hv
    have hlt : w.heap.size < w'.heap.size := by
      have := (Array.getElem?_eq_some_iff.1 hgp).1
      exact this
    refine hK w' hlt (fun j hj => ?_) ((Below.refl w.heap.size w).grown hgr (Nat.le_refl _) (by simp))
    have hj2 : cur[j]? = some (.int .i64 0) := by
      have h1 : (cur.toList.take (n * 3))[j]? = some (.int .i64 0) := by
        rw [hcur]
        simp [madeCells, Value.cells, hj]
        have h3 : j % 3 = 0 ∨ j % 3 = 1 ∨ j % 3 = 2 := by omega
        rcases h3 with h | h | h <;> rw [h] <;> rfl
      rw [List.getElem?_take, if_pos hj] at h1
      simpa using h1
    constructor
    · simp [World.cell?, hgp, hj2]
    · simp [World.frozen?, hgp]

section
variable {H : Type} {enc : TypeId × Value → H} {P : Program} {W : World} {base : Nat}
theorem open_Arcs_cells {t e q : TypeId} {f0 f1 f2 : Field} (ht : P.underlying t = some (.slice e)) (he : P.underlying e = some (.struct #[f0, f1, f2])) (hq : P.underlying q = some (.int .i64)) (e0 : f0.type = q) (e1 : f1.type = q) (e2 : f2.type = q)
    (o0 : f0.offset = 0) (o1 : f1.offset = 1) (o2 : f2.offset = 2) (ce : P.cellsOf e = 3) (cq : P.cellsOf q = 1) {v : Value} {fuel : Nat} {x : DataW H × List MemPlace}
    (h : DataW.trod enc P W base (fun _ => true) true fuel t [v] = some x) : ∃ xs, ArcsR W v xs := by
  rcases open_slice ht h with ⟨hcs, _⟩ | ⟨a, len, cap, m, n, D, Pl, hcs, hb, hl, hm, hmm, _, hx⟩
  · simp at hcs
    subst hcs
    exact ⟨[], by simp, none, 0, rfl, by simp, by simp, by simp, by simp⟩
  · simp at hcs
    subst hcs
    simp only [if_true] at hmm
    obtain rfl : m = cap := hmm
    have each : ∀ i, i < m → ∃ y : Arc3, W.cell? (a.add (i * 3)) = some (.int .i64 y.1) ∧ W.cell? (a.add (i * 3 + 1)) = some (.int .i64 y.2.1) ∧ W.cell? (a.add (i * 3 + 2)) = some (.int .i64 y.2.2) := by
      intro i hi
      obtain ⟨cs', h1, h2⟩ := hx i hi
      rw [ce] at h1
      obtain ⟨_, hlen, hcell⟩ := World.cells?_some h1
      obtain ⟨xs, k, hk, hxy, _, hxl, hf⟩ := DataW.trod_struct he h2
      match xs, hxl, cs', hlen with
      | [y0, y1, y2], _, [v0, v1, v2], _ =>
        have g0 := hf 0 f0 rfl
        have g1 := hf 1 f1 rfl
        have g2 := hf 2 f2 rfl
        rw [e0] at g0
        rw [e1] at g1
        rw [e2] at g2
        simp [o0, o1, o2, cq] at g0 g1 g2
        obtain ⟨a0, z0, _, _⟩ := DataW.trod_int hq g0
        obtain ⟨a1, z1, _, _⟩ := DataW.trod_int hq g1
        obtain ⟨a2, z2, _, _⟩ := DataW.trod_int hq g2
        simp at z0 z1 z2
        subst z0 z1 z2
        have c0 := hcell 0 (by omega)
        have c1 := hcell 1 (by omega)
        have c2 := hcell 2 (by omega)
        rw [add_add] at c0 c1 c2
        exact ⟨(a0, a1, a2), by simpa using c0, by simpa using c1, by simpa using c2⟩
    obtain ⟨q, hqq⟩ := choose_lt each
    have hm' : m ≤ 9223372036854775807 := hm
    refine ⟨(List.range len).map q, by simp; omega, some a, m, by simp, by simp; exact hl, hm', by simp, fun h0 => ?_⟩
    simp at h0
    obtain ⟨b, o, sp⟩ := a
    have h1 := (hqq 0 (by omega)).1
    have hs : sp = none := by simpa [Addr.add] using World.cell?_spot h1
    subst hs
    refine ⟨b, o, rfl, World.block_lt_of_cell? W ⟨b, o, none⟩ (by simpa [Addr.add] using h1), fun i x hi => ?_⟩
    have hi2 : i < len := by simpa using (List.getElem?_eq_some_iff.1 hi).1
    rw [List.getElem?_map, List.getElem?_range hi2] at hi
    simp at hi
    subst hi
    have h3 := hqq i (by omega)
    rw [add_plain, add_plain, add_plain] at h3
    exact h3
theorem open_Labels {tS tA e q : TypeId} {g0 g1 g2 f0 f1 f2 : Field} (hs : P.underlying tS = some (.struct #[g0, g1, g2])) (hone : oneCellFields P #[g0, g1, g2] = true) (hC : P.cellsOf tS = 3) (k0 : g0.type = q) (k1 : g1.type = q) (k2 : g2.type = tA)
    (ht : P.underlying tA = some (.slice e)) (he : P.underlying e = some (.struct #[f0, f1, f2])) (hq : P.underlying q = some (.int .i64)) (e0 : f0.type = q) (e1 : f1.type = q) (e2 : f2.type = q)
    (o0 : f0.offset = 0) (o1 : f1.offset = 1) (o2 : f2.offset = 2) (ce : P.cellsOf e = 3) (cq : P.cellsOf q = 1) {v : Value} {d : DataW H} {p : List MemPlace}
    (hv : Value.okWide P W .any base tS v) (h : DataW.Trod enc P W 0 (fun _ => true) true tS v d p) : ∃ l, LabR W v l ∧ I64 l.1 ∧ I64 l.2.1 := by
  obtain ⟨c0, c1, c2, y0, y1, y2, m, rfl, rfl, rfl, hy0, hy1, hy2⟩ := open_agg3 hs hone hC hv h
  rw [k0] at hy0
  rw [k1] at hy1
  rw [k2] at hy2
  obtain ⟨a0, z0, _, w0⟩ := DataW.trod_int hq hy0
  obtain ⟨a1, z1, _, w1⟩ := DataW.trod_int hq hy1
  simp at z0 z1
  subst z0 z1
  obtain ⟨xs, hxs⟩ := open_Arcs_cells ht he hq e0 e1 e2 o0 o1 o2 ce cq hy2
  exact ⟨(a0, a1, xs), ⟨c2, rfl, hxs⟩, I64.of_wf w0, I64.of_wf w1⟩
end
end Go.Sd
end

section
/-
  The laws' helpers on labelled graphs.
-/
namespace Go.Proofs.Ytcilgihmaaobeaa
open Go.RowKit Go.Deep Go.Sd

theorem infoA : (Try.prog.info? 59).map (fun i => (i.zero, i.size, i.bytes)) = some (some (.agg #[.int .i64 0, .int .i64 0, .int .i64 0]), 3, 24) := by kernel_rfl
set_option maxHeartbeats 400000 in
theorem eqArc_same {w : World} {a b c : Int} :
    Calls Try.prog 97 #[.agg #[.int .i64 a, .int .i64 b, .int .i64 c], .agg #[.int .i64 a, .int .i64 b, .int .i64 c]] w fun e w' => e = .returned (.bool true) ∧ Below w.heap.size w w' := by
  have t1 : (a != a) = false := by simp
  have t2 : (b != b) = false := by simp
  have t3 : (c != c) = false := by simp
  go_enter Try.func97, Try.ntmps97
  go_wp2
  go_ret
  exact ⟨rfl, ((Below.refl w.heap.size w).alloc (Nat.le_refl _) _).alloc (by simp) _⟩
set_option maxHeartbeats 400000 in
theorem eqArcS_same {w : World} {v1 v2 : Value} {xs : List Arc3} (h1 : ArcsR w v1 xs) (h2 : ArcsR w v2 xs) :
    Calls Try.prog 71 #[v1, v2] w fun e w' => e = .returned (.bool true) ∧ Below w.heap.size w w' := by
  obtain ⟨hlen, a1, c1, rfl, _, _, _, hc1⟩ := h1
  obtain ⟨_, a2, c2, rfl, _, _, _, hc2⟩ := h2
  have hl1 : ((xs.length : Int) != xs.length) = false := by simp
  obtain ⟨n, hn⟩ : ∃ n, n = xs.length := ⟨_, rfl⟩
  rw [← hn] at hl1 hc1 hc2 hlen ⊢
  have Hn := Lib.hid hn
  clear hn
  go_enter Try.func71, Try.ntmps71
  go_wp2
  go_loopg [5] n (fun g i wr => ∃ (k : Nat), i = .int .i64 k ∧ k + g = n ∧ Below w.heap.size w wr)
  case atStart => exact ⟨0, rfl, by omega, Below.refl _ _⟩
  case round =>
    obtain ⟨k, rfl, hk, hbel⟩ := hrel
    by_cases hlt : k < n
    · obtain ⟨b1, o1, rfl, hb1, hx1⟩ := hc1 (by omega)
      obtain ⟨b2, o2, rfl, hb2, hx2⟩ := hc2 (by omega)
      obtain ⟨x, hx, _⟩ := at_lt (xs := xs) (k := k) (by have := Hn.out; omega)
      obtain ⟨f0, f1, f2⟩ := hx1 k x hx
      obtain ⟨g0, g1, g2⟩ := hx2 k x hx
      have hF : wr.cell? ⟨b1, o1 + k * 3, none⟩ = some (.int .i64 x.1) ∧ wr.cell? ⟨b1, o1 + k * 3 + 1, none⟩ = some (.int .i64 x.2.1) ∧ wr.cell? ⟨b1, o1 + k * 3 + 2, none⟩ = some (.int .i64 x.2.2) ∧ wr.cell? ⟨b2, o2 + k * 3, none⟩ = some (.int .i64 x.1) ∧ wr.cell? ⟨b2, o2 + k * 3 + 1, none⟩ = some (.int .i64 x.2.1) ∧ wr.cell? ⟨b2, o2 + k * 3 + 2, none⟩ = some (.int .i64 x.2.2) :=
        ⟨(hbel.cell (p := ⟨b1, o1 + k * 3, none⟩) hb1).trans f0, (hbel.cell (p := ⟨b1, o1 + k * 3 + 1, none⟩) hb1).trans f1, (hbel.cell (p := ⟨b1, o1 + k * 3 + 2, none⟩) hb1).trans f2, (hbel.cell (p := ⟨b2, o2 + k * 3, none⟩) hb2).trans g0, (hbel.cell (p := ⟨b2, o2 + k * 3 + 1, none⟩) hb2).trans g1, (hbel.cell (p := ⟨b2, o2 + k * 3 + 2, none⟩) hb2).trans g2⟩
      have hz := hbel.size
      have hl1' : b1 < wr.heap.size := by omega
      have hl2' : b2 < wr.heap.size := by omega
      have hi1 : (k : Int) < (n : Int) := by omega
      have Hbel := Lib.hid hbel
      clear f0 f1 f2 g0 g1 g2 hx1 hx2 hc1 hc2 hx hbel
      go_wp2
      go_region_held3 (fun w' => w'.cell? ⟨b1, o1 + k * 3, none⟩ = some (.int .i64 x.1) ∧ w'.cell? ⟨b1, o1 + k * 3 + 1, none⟩ = some (.int .i64 x.2.1) ∧ w'.cell? ⟨b1, o1 + k * 3 + 2, none⟩ = some (.int .i64 x.2.2) ∧ w'.cell? ⟨b2, o2 + k * 3, none⟩ = some (.int .i64 x.1) ∧ w'.cell? ⟨b2, o2 + k * 3 + 1, none⟩ = some (.int .i64 x.2.1) ∧ w'.cell? ⟨b2, o2 + k * 3 + 2, none⟩ = some (.int .i64 x.2.2))
        (first | exact hS1 | exact hF | go_keep)
        ((first
          | (go_at_call 97; refine eqArc_same.mono ?_; rintro e w2 ⟨rfl, hb2'⟩; have hb3 := ((Below.refl wr.heap.size wr).drew).trans hb2'; have hS1 : w2.cell? ⟨b1, o1 + k * 3, none⟩ = some (.int .i64 x.1) ∧ w2.cell? ⟨b1, o1 + k * 3 + 1, none⟩ = some (.int .i64 x.2.1) ∧ w2.cell? ⟨b1, o1 + k * 3 + 2, none⟩ = some (.int .i64 x.2.2) ∧ w2.cell? ⟨b2, o2 + k * 3, none⟩ = some (.int .i64 x.1) ∧ w2.cell? ⟨b2, o2 + k * 3 + 1, none⟩ = some (.int .i64 x.2.1) ∧ w2.cell? ⟨b2, o2 + k * 3 + 2, none⟩ = some (.int .i64 x.2.2) := ⟨(hb3.cell (p := ⟨b1, o1 + k * 3, none⟩) hl1').trans hF.1, (hb3.cell (p := ⟨b1, o1 + k * 3 + 1, none⟩) hl1').trans hF.2.1, (hb3.cell (p := ⟨b1, o1 + k * 3 + 2, none⟩) hl1').trans hF.2.2.1, (hb3.cell (p := ⟨b2, o2 + k * 3, none⟩) hl2').trans hF.2.2.2.1, (hb3.cell (p := ⟨b2, o2 + k * 3 + 1, none⟩) hl2').trans hF.2.2.2.2.1, (hb3.cell (p := ⟨b2, o2 + k * 3 + 2, none⟩) hl2').trans hF.2.2.2.2.2⟩; have Hb3 := Lib.hid (Hbel.out.trans (hb3.mono hz)); clear hb2' hb3)
          | fail))
      go_wp2
      go_roundg (n - (k + 1))
      case measure => omega
      case rel => exact ⟨k + 1, by go_num, by omega, Hb3.out⟩
    · have e : k = n := by omega
      subst e
      clear hc1 hc2
      go_wp2
      go_ret
      exact ⟨rfl, hbel⟩
set_option maxHeartbeats 400000 in
theorem eqLabels_same {w : World} {v1 v2 : Value} {x : Lb} (h1 : LabR w v1 x) (h2 : LabR w v2 x) :
    Calls Try.prog 30 #[v1, v2] w fun e w' => e = .returned (.bool true) ∧ Below w.heap.size w w' := by
  obtain ⟨va, rfl, ha⟩ := h1
  obtain ⟨vb, rfl, hb⟩ := h2
  have Hc := Lib.hid (fun w1 (hbw : Below w.heap.size w w1) => eqArcS_same (ArcsR.frame _ _ _ _ ha hbw) (ArcsR.frame _ _ _ _ hb hbw))
  obtain ⟨_, aa, ac, rfl, _, _, _, _⟩ := ha
  obtain ⟨_, ba, bc, rfl, _, _, _, _⟩ := hb
  obtain ⟨L, S, xs⟩ := x
  have t1 : (L != L) = false := by simp
  have t2 : (S != S) = false := by simp
  have Hb := Lib.hid (fun (u u' : Obj) => ((Below.refl w.heap.size w).alloc (Nat.le_refl _) u).alloc (by simp) u')
  go_enter Try.func30, Try.ntmps30
  go_wp2_with fail
  refine (Hc.out _ (Hb.out _ _)).mono ?_
  rintro e w1 ⟨rfl, hb1⟩
  have Hb1 := Lib.hid ((Hb.out _ _).trans (hb1.mono (by simp <;> omega)))
  clear hb1
  go_wp2
  go_ret
  exact ⟨rfl, Hb1.out⟩
end Go.Proofs.Ytcilgihmaaobeaa
end

section
/-
  Labelled graphs of the call's own: what marks leave; the laws' helpers.
-/
namespace Go.Sd
open Go.RowKit Go.Deep
theorem OffIn.cell3 {lo hi : Nat} {w w' : World} (h : OffIn lo hi w w') {p : Addr} (hp : p.block < w.heap.size) (hn : ¬ (lo ≤ p.block ∧ p.block < hi)) : w'.cell? p = w.cell? p := by
  simp [World.cell?, h.block _ hp hn]
/-- Own arcs: the block that holds them. -/
def OArcs : OwnRel (List Arc3) := fun w v xs F =>
  xs.length ≤ 9223372036854775807 ∧ ((xs = [] ∧ v = .slice none 0 0 ∧ F = []) ∨ ∃ B c, v = .slice (some ⟨B, 0, none⟩) xs.length c ∧ xs.length ≤ c ∧ c ≤ 9223372036854775807 ∧ F = [B] ∧ B < w.heap.size ∧ CellsI w B (xs.length * 3) (arcF xs xs.length))
def OLab : OwnRel Lb := fun w v x F => ∃ va, v = .agg #[.int .i64 x.1, .int .i64 x.2.1, va] ∧ OArcs w va x.2.2 F
theorem CellsI.same {w w' : World} {B m : Nat} {f : Nat → Int} (h : CellsI w B m f) (e : w'.heap[B]? = w.heap[B]?) : CellsI w' B m f := by
  intro j hj
  obtain ⟨h1, h2⟩ := h j hj
  constructor
  · rw [← h1]; simp [World.cell?, e]
  · rw [← h2]; simp [World.frozen?, e]
theorem OArcs.held : Held OArcs := by
  refine ⟨?_, ?_⟩
  · rintro w w' v xs F ⟨h0, h⟩ hk
    refine ⟨h0, h.imp id ?_⟩
    rintro ⟨B, c, rfl, h1, h2, rfl, hB, hc⟩
    have e := hk B (by simp)
    have hB' : B < w'.heap.size := by
      have h3 : (w.heap[B]?).isSome = true := by simp [hB]
      rw [← e] at h3
      simpa using h3
    exact ⟨B, c, rfl, h1, h2, rfl, hB', hc.same e⟩
  · rintro w v xs F ⟨_, h⟩ b hb
    rcases h with ⟨_, _, rfl⟩ | ⟨B, c, _, _, _, rfl, hB, _⟩
    · simp at hb
    · simp at hb; subst hb; exact hB
theorem OArcs.reads {w : World} {v : Value} {xs : List Arc3} {F : List Nat} (h : OArcs w v xs F) : ArcsR w v xs := by
  obtain ⟨h0, ⟨rfl, rfl, rfl⟩ | ⟨B, c, rfl, h1, h2, rfl, hB, hc⟩⟩ := h
  · exact ⟨h0, none, 0, rfl, by simp, by simp, fun _ => rfl, by simp⟩
  · obtain ⟨a0, a1, a2, a3, a4, a5, a6, a7⟩ := ArcsR.of_cells hB h0 hc
    simp at a3
    obtain ⟨rfl, rfl⟩ := a3
    exact ⟨h0, _, c, rfl, h1, h2, by simp, a7⟩
theorem OLab.held : Held OLab :=
  ⟨fun w w' v x F ⟨va, e, h⟩ hk => ⟨va, e, OArcs.held.keep _ _ _ _ _ h hk⟩, fun w v x F ⟨_, _, h⟩ b hb => OArcs.held.lt _ _ _ _ h b hb⟩
theorem OLab.reads {w : World} {v : Value} {x : Lb} {F : List Nat} (h : OLab w v x F) : LabR w v x := by obtain ⟨va, e, h⟩ := h; exact ⟨va, e, h.reads⟩
theorem New.lab {lo : Nat} {w : World} {v : Value} {x : Lb} (h : New OLab lo w v x) : LabR w v x := by obtain ⟨F, h, _⟩ := h; exact h.reads
theorem OArcs.store_off {w : World} {B n c : Nat} {xs : List Arc3} (h : OArcs w (.slice (some ⟨B, 0, none⟩) n c) xs [B]) {p : Addr} (hp : p.block ≠ B) (u : Value) : OArcs (w.setCell p u) (.slice (some ⟨B, 0, none⟩) n c) xs [B] :=
  OArcs.held.keep _ _ _ _ _ h fun b hb => by simp at hb; subst hb; exact Below.heap_setCell _ _ _ _ (fun e => hp e.symm)
/-- Arcs marked. -/
def markA : List Arc3 → Int → List Arc3
  | [], _ => []
  | _ :: xs, k => (k, k + 1, k + 2) :: markA xs (k + 3)
theorem markA_len : ∀ (xs : List Arc3) (k : Int), (markA xs k).length = xs.length
  | [], _ => rfl
  | _ :: xs, k => by simp [markA, markA_len xs]
theorem markA_at : ∀ (xs : List Arc3) (k : Int) (i : Nat), i < xs.length → (markA xs k)[i]? = some (k + 3 * i, k + 3 * i + 1, k + 3 * i + 2)
  | [], _, i, h => by simp at h
  | _ :: xs, k, 0, _ => by simp [markA]
  | _ :: xs, k, i + 1, h => by
    simp only [markA, List.getElem?_cons_succ]
    rw [markA_at xs (k + 3) i (by simpa using h)]
    have e : k + 3 + 3 * (i : Int) = k + 3 * ((i + 1 : Nat) : Int) := by omega
    rw [e]
def markF (xs : List Arc3) (k0 : Int) (k j : Nat) : Int := if j < 3 * k then k0 + j else arcF xs xs.length j
theorem markF_next (xs : List Arc3) (k0 : Int) (k j : Nat) :
    (if j = k * 3 + 2 then k0 + 3 * (k : Int) + 1 + 1 else if j = k * 3 + 1 then k0 + 3 * (k : Int) + 1 else if j = k * 3 then k0 + 3 * (k : Int) else markF xs k0 k j) = markF xs k0 (k + 1) j := by
  unfold markF
  by_cases e2 : j = k * 3 + 2
  · rw [if_pos e2, if_pos (by omega)]; omega
  rw [if_neg e2]
  by_cases e1 : j = k * 3 + 1
  · rw [if_pos e1, if_pos (by omega)]; omega
  rw [if_neg e1]
  by_cases e0 : j = k * 3
  · rw [if_pos e0, if_pos (by omega)]; omega
  rw [if_neg e0]
  by_cases h : j < 3 * k
  · rw [if_pos h, if_pos (by omega)]
  · rw [if_neg h, if_neg (by omega)]
theorem markF_end (xs : List Arc3) (k0 : Int) (j : Nat) (hj : j < xs.length * 3) : markF xs k0 xs.length j = arcF (markA xs k0) xs.length j := by
  unfold markF arcF
  rw [if_pos (by omega), if_pos (by omega)]
  have h := markA_at xs k0 (j / 3) (by omega)
  have hg : (markA xs k0).getD (j / 3) (0, 0, 0) = (k0 + 3 * ((j / 3 : Nat) : Int), k0 + 3 * ((j / 3 : Nat) : Int) + 1, k0 + 3 * ((j / 3 : Nat) : Int) + 2) := by simp [List.getD, h]
  rw [hg]
  unfold comp
  have h3 : j % 3 = 0 ∨ j % 3 = 1 ∨ j % 3 = 2 := by omega
  rcases h3 with h3 | h3 | h3
  · rw [h3]; simp; omega
  · rw [h3]; simp; omega
  · rw [h3]; simp; omega
end Go.Sd
namespace Go.Proofs.Ytcilgihmaaobeaa
open Go.RowKit Go.Deep Go.Sd

set_option maxHeartbeats 1000000 in
theorem markArcS_c {w : World} {v : Value} {xs : List Arc3} {F : List Nat} {k0 : Int} (h : OArcs w v xs F) (h0 : 0 ≤ k0) (h1 : k0 + 3 * xs.length ≤ 4611686018427387904) :
    Calls Try.prog 74 #[v, .int .i64 k0] w (Marks OArcs F w v (markA xs k0) (k0 + 3 * xs.length)) := by
  obtain ⟨hl, ⟨rfl, rfl, rfl⟩ | ⟨B, c, rfl, hc1, hc2, rfl, hB, hcl⟩⟩ := h
  · go_enter Try.func74, Try.ntmps74
    go_wp2
    go_loopg [1, 5] 0 (fun g x i wr => i = .int .i64 0 ∧ x = .int .i64 k0 ∧ w = wr)
    case atStart => exact ⟨rfl, rfl, rfl⟩
    case round =>
      obtain ⟨rfl, rfl, rfl⟩ := hrel
      go_wp2
      go_ret
      exact ⟨by simp, ⟨by simp [markA], Or.inl ⟨rfl, rfl, rfl⟩⟩, Off.refl _ _⟩
  · obtain ⟨n, hn⟩ : ∃ n, n = xs.length := ⟨_, rfl⟩
    rw [← hn] at h1 hc1 hl ⊢
    have Hn := Lib.hid hn
    have hcl0 : CellsI w B (n * 3) (markF xs k0 0) := by
      rw [hn]; exact hcl.congr fun j _ => by unfold markF; rw [if_neg (by omega)]
    clear hn hcl
    go_enter Try.func74, Try.ntmps74
    go_wp2
    go_loopg [1, 5] n (fun g x i wr => ∃ (k : Nat), i = .int .i64 k ∧ x = .int .i64 (k0 + 3 * k) ∧ k + g = n ∧ CellsI wr B (n * 3) (markF xs k0 k) ∧ B < wr.heap.size ∧ Off [B] w wr)
    case atStart => exact ⟨0, rfl, by simp, by omega, hcl0, hB, Off.refl _ _⟩
    case round =>
      obtain ⟨k, rfl, rfl, hk, hcl, hB2, hoff⟩ := hrel
      by_cases hlt : k < n
      · obtain ⟨hA1, hA2⟩ := hcl (k * 3) (by omega)
        obtain ⟨hB1, hB2'⟩ := hcl (k * 3 + 1) (by omega)
        obtain ⟨hC1, hC2⟩ := hcl (k * 3 + 2) (by omega)
        have Hf := Lib.hid ((((hcl.set (j := k * 3) (by omega) (k0 + 3 * k)).set (j := k * 3 + 1) (by omega) (k0 + 3 * k + 1)).set (j := k * 3 + 2) (by omega) (k0 + 3 * k + 1 + 1)).congr fun j _ => markF_next xs k0 k j)
        have Ho := Lib.hid (((hoff.trans (Off.setCell (w := wr) (p := ⟨B, k * 3, none⟩) (by simp) (.int .i64 (k0 + 3 * k)))).trans (Off.setCell (p := ⟨B, k * 3 + 1, none⟩) (by simp) (.int .i64 (k0 + 3 * k + 1)))).trans (Off.setCell (p := ⟨B, k * 3 + 2, none⟩) (by simp) (.int .i64 (k0 + 3 * k + 1 + 1))))
        have Hz := Lib.hid hB2
        have hkn : (k : Int) < (n : Int) := by omega
        clear hcl hoff hcl0
        go_wp2
        go_roundg (n - (k + 1))
        case measure => omega
        case rel => exact ⟨k + 1, by go_num, by go_num, by omega, Hf.out, by simp; exact Hz.out, Ho.out⟩
      · have e : k = n := by omega
        subst e
        have Hr := Lib.hid (show OArcs wr (.slice (some ⟨B, 0, none⟩) k c) (markA xs k0) [B] from
          ⟨by rw [markA_len, ← Hn.out]; exact hl, Or.inr ⟨B, c, by rw [markA_len, ← Hn.out], by rw [markA_len, ← Hn.out]; exact hc1, hc2, rfl, hB2, by
            rw [markA_len, ← Hn.out]
            have h := hcl
            rw [Hn.out] at h ⊢
            exact h.congr fun j hj => markF_end xs k0 j hj⟩⟩)
        clear hcl hcl0
        go_wp2
        go_ret
        exact ⟨rfl, Hr.out, hoff⟩
set_option maxHeartbeats 400000 in
theorem markLabels_in {lo hi : Nat} {w : World} {v : Value} {x : Lb} {k0 : Int} (h : NewIn OLab lo hi w v x) (h0 : 0 ≤ k0) (h1 : k0 + 3 * x.2.2.length ≤ 4611686018427387904) (hhi : hi ≤ w.heap.size) :
    Calls Try.prog 33 #[v, .int .i64 k0] w (MarksIn OLab lo hi w v (x.1, x.2.1, markA x.2.2 k0) (k0 + 3 * x.2.2.length)) := by
  obtain ⟨F, hF, hn, hge⟩ := h
  obtain ⟨L, S, xs⟩ := x
  obtain ⟨va, rfl, ha⟩ := hF
  simp only at *
  have Hc := Lib.hid (fun w1 (hb : Below w.heap.size w w1) => markArcS_c (OArcs.held.keep _ w1 _ _ _ ha (fun b hb' => hb.block b (OArcs.held.lt _ _ _ _ ha b hb'))) h0 h1)
  have hvs : ∃ a n c, va = .slice a n c := by
    obtain ⟨_, ⟨_, rfl, _⟩ | ⟨B, c, rfl, _⟩⟩ := ha
    · exact ⟨_, _, _, rfl⟩
    · exact ⟨_, _, _, rfl⟩
  have hlt := OArcs.held.lt _ _ _ _ ha
  have Ha := Lib.hid ha
  obtain ⟨a, n, c, rfl⟩ := hvs
  clear ha
  go_enter Try.func33, Try.ntmps33
  have A0 : Below w.heap.size w (w.alloc (.cells #[.int .i64 L, .int .i64 S, .slice a n c] 26)) := (Below.refl _ _).alloc (Nat.le_refl _) _
  have Hb := Lib.hid hlt
  have Hg := Lib.hid hge
  have Hnn := Lib.hid hn
  clear hlt hge hn
  go_wp2_with fail
  refine (Hc.out _ A0).mono ?_
  rintro e w2 ⟨rfl, hown, hoff⟩
  have Hown := Lib.hid hown
  have Hoff := Lib.hid (show OffIn lo hi w w2 from ⟨hoff.os.trans A0.os, hoff.tape.trans A0.tape, hoff.output.trans A0.output, Nat.le_trans A0.size hoff.size, fun b hb hnb => (hoff.block b (Nat.lt_of_lt_of_le hb A0.size) (fun hm => hnb (Hg.out b hm))).trans (A0.block b hb)⟩)
  clear hown hoff A0
  go_wp2
  go_ret
  exact ⟨rfl, ⟨F, ⟨_, rfl, Hown.out⟩, Hnn.out, Hg.out⟩, Hoff.out⟩
set_option maxHeartbeats 1000000 in
theorem heldArcS_c {w : World} {v : Value} {xs : List Arc3} {k0 : Int} (h : ArcsR w v (markA xs k0)) (h0 : 0 ≤ k0) (h1 : k0 + 3 * xs.length ≤ 4611686018427387904) :
    Calls Try.prog 75 #[v, .int .i64 k0] w fun e w' => e = .returned (.int .i64 (k0 + 3 * xs.length)) ∧ w = w' := by
  obtain ⟨hl, a, c, rfl, hc1, hc2, hc3, hcell⟩ := h
  rw [markA_len] at hl hc1 hcell ⊢
  obtain ⟨n, hn⟩ : ∃ n, n = xs.length := ⟨_, rfl⟩
  have Hat := Lib.hid (fun i (hi : i < xs.length) => markA_at xs k0 i hi)
  rw [← hn] at h1 hc1 hl hcell Hat ⊢
  clear hn
  go_enter Try.func75, Try.ntmps75
  go_wp2
  go_loopg [1, 5] n (fun g x i wr => ∃ (k : Nat), i = .int .i64 k ∧ x = .int .i64 (k0 + 3 * k) ∧ k + g = n ∧ w = wr)
  case atStart => exact ⟨0, rfl, by simp, by omega, rfl⟩
  case round =>
    obtain ⟨k, rfl, rfl, hk, rfl⟩ := hrel
    by_cases hlt : k < n
    · obtain ⟨b, o, rfl, hb, hx0⟩ := hcell (by omega)
      obtain ⟨g0, g1, g2⟩ := hx0 k _ (Hat.out k hlt)
      simp only at g0 g1 g2
      have t0 : (k0 + 3 * (k : Int) != k0 + 3 * (k : Int)) = false := by simp
      have t1 : (k0 + 3 * (k : Int) + 1 != k0 + 3 * (k : Int) + 1) = false := by simp
      have t2 : (k0 + 3 * (k : Int) + 2 != k0 + 3 * (k : Int) + 2) = false := by simp
      have hkn : (k : Int) < (n : Int) := by omega
      clear hx0 hcell
      go_wp2
      go_roundg (n - (k + 1))
      case measure => omega
      case rel => exact ⟨k + 1, by go_num, by go_num, by omega, rfl⟩
    · have e : k = n := by omega
      subst e
      clear hcell
      go_wp2
      go_ret
      exact ⟨rfl, rfl⟩
set_option maxHeartbeats 400000 in
theorem heldLabels_same {w : World} {v : Value} {x : Lb} {k0 : Int} (h : LabR w v (x.1, x.2.1, markA x.2.2 k0)) (h0 : 0 ≤ k0) (h1 : k0 + 3 * x.2.2.length ≤ 4611686018427387904) :
    Calls Try.prog 34 #[v, .int .i64 k0] w fun e w' => e = .returned (.int .i64 (k0 + 3 * x.2.2.length)) ∧ Below w.heap.size w w' := by
  obtain ⟨L, S, xs⟩ := x
  obtain ⟨va, rfl, ha⟩ := h
  simp only at *
  have Hc := Lib.hid (fun w1 (hb : Below w.heap.size w w1) => heldArcS_c (ArcsR.frame _ _ _ _ ha hb) h0 h1)
  obtain ⟨_, a, c, rfl, _, _, _, _⟩ := ha
  rw [markA_len] at *
  generalize xs.length = n at *
  have A0 : Below w.heap.size w (w.alloc (.cells #[.int .i64 L, .int .i64 S, .slice a n c] 26)) := (Below.refl _ _).alloc (Nat.le_refl _) _
  have hn : ¬ (k0 + 3 * (n : Int) < 0) := by omega
  go_enter Try.func34, Try.ntmps34
  go_wp2_with fail
  refine (Hc.out _ A0).mono ?_
  rintro e w2 ⟨rfl, rfl⟩
  go_wp2
  go_ret
  exact ⟨rfl, A0⟩
end Go.Proofs.Ytcilgihmaaobeaa
end

section
/-
  The function of Moebius: the program's and the reference's both return 'moeb n'.
-/
namespace Go.Proofs.Ytcilgihmaaobeaa
open Go.RowKit Go.Deep Go.Sd

/-- The loop, by rounds that are left. -/
def moebLoop : Nat → Int → Int → Int → Int
  | 0, _, _, out => out
  | f + 1, n, p, out => if p ≤ n then (if n % p ≠ 0 then moebLoop f n (p + 1) out else if (n / p) % p = 0 then 0 else moebLoop f (n / p) (p + 1) (-out)) else out
def moeb (n : Int) : Int := if n < 1 ∨ 1000 < n then 0 else moebLoop (n.toNat + 1) n 2 1

theorem moebLoop_stop (f : Nat) (n p out : Int) (h : n < p) : moebLoop f n p out = out := by
  cases f with
  | zero => rfl
  | succ f => unfold moebLoop; rw [if_neg (by omega)]

theorem div_bd (n p : Int) (h0 : 1 ≤ n) (h1 : 2 ≤ p) (h2 : n % p = 0) : 1 ≤ n / p ∧ n / p ≤ n := by
  have h3 := Int.emod_add_mul_ediv n p
  have h4 : n = p * (n / p) := by omega
  have h5 : 0 < n / p := by
    rcases Int.lt_or_le 0 (n / p) with h | h
    · exact h
    · have : p * (n / p) ≤ 0 := Int.mul_nonpos_of_nonneg_of_nonpos (by omega) h
      omega
  have h6 : 1 * (n / p) ≤ p * (n / p) := Int.mul_le_mul_of_nonneg_right (by omega) (by omega)
  omega

theorem moeb_bd (n : Int) : -1000 ≤ moeb n ∧ moeb n ≤ 1000 := by
  have h : ∀ (f : Nat) (n p out : Int), -1 ≤ out → out ≤ 1 → -1 ≤ moebLoop f n p out ∧ moebLoop f n p out ≤ 1 := by
    intro f
    induction f with
    | zero => intro n p out h0 h1; exact ⟨h0, h1⟩
    | succ f ih =>
      intro n p out h0 h1
      unfold moebLoop
      split
      · split
        · exact ih _ _ _ h0 h1
        · split
          · omega
          · exact ih _ _ _ (by omega) (by omega)
      · omega
  unfold moeb
  split
  · omega
  · have := h (n.toNat + 1) n 2 1 (by omega) (by omega); omega

theorem l1In_c (a b c : Int) (w : World) :
    Calls Try.prog 54 #[.int .i64 a, .int .i64 b, .int .i64 c] w fun e w' => e = .returned (.bool (decide (b ≤ a) && decide (a ≤ c))) ∧ w = w' := by
  by_cases h1 : b ≤ a <;> by_cases h2 : a ≤ c
  all_goals
    go_enter Try.func54, Try.ntmps54
    go_wp2
    go_ret
    exact ⟨by simp [*], rfl⟩
theorem l1In_yes {a b c : Int} (w : World) (h1 : b ≤ a) (h2 : a ≤ c) : Calls Try.prog 54 #[.int .i64 a, .int .i64 b, .int .i64 c] w fun e w' => e = .returned (.bool true) ∧ w = w' := by
  have := l1In_c a b c w
  simpa [h1, h2] using this
theorem l1In_no {a b c : Int} (w : World) (h : a < b ∨ c < a) : Calls Try.prog 54 #[.int .i64 a, .int .i64 b, .int .i64 c] w fun e w' => e = .returned (.bool false) ∧ w = w' := by
  have e : (decide (b ≤ a) && decide (a ≤ c)) = false := by
    rcases h with h | h
    · simp; omega
    · simp; omega
  have := l1In_c a b c w
  rw [e] at this
  exact this



end Go.Proofs.Ytcilgihmaaobeaa
end

section
/-
  Arcs compared, both sides.
-/
namespace Go.Sd
open Go.RowKit Go.Deep
theorem boxA3_ex (w : World) (ty : TypeId) (v1 v2 v3 : Value) : ∃ w', w.alloc (.cells #[v1, v2, v3] ty) = w' ∧ Below w.heap.size w w' ∧ w'.cell? ⟨w.heap.size, 0, none⟩ = some v1 ∧ w'.cell? ⟨w.heap.size, 1, none⟩ = some v2 ∧ w'.cell? ⟨w.heap.size, 2, none⟩ = some v3 ∧ w.heap.size < w'.heap.size :=
  ⟨_, rfl, (Below.refl w.heap.size w).alloc (Nat.le_refl _) _, by simp, by simp, by simp, by simp⟩
theorem Ints.three {w : World} {b : Nat} {x y z : Int} (hb : b < w.heap.size) (h0 : w.cell? ⟨b, 0, none⟩ = some (.int .i64 x)) (h1 : w.cell? ⟨b, 1, none⟩ = some (.int .i64 y)) (h2 : w.cell? ⟨b, 2, none⟩ = some (.int .i64 z)) : Ints w (.slice (some ⟨b, 0, none⟩) 3 3) [x, y, z] := by
  refine ⟨[.int .i64 x, .int .i64 y, .int .i64 z], ⟨by simp, _, 3, rfl, by simp, by simp, by simp, Or.inr ⟨b, 0, rfl, hb, fun i u hu => ?_⟩⟩, rfl, fun i u v hu hv => ?_⟩
  · match i, hu with
    | 0, hu => simp at hu; subst hu; exact h0
    | 1, hu => simp at hu; subst hu; exact h1
    | 2, hu => simp at hu; subst hu; exact h2
    | i + 3, hu => simp at hu
  · match i, hu, hv with
    | 0, hu, hv => simp at hu hv; subst hu; subst hv; rfl
    | 1, hu, hv => simp at hu hv; subst hu; subst hv; rfl
    | 2, hu, hv => simp at hu hv; subst hu; subst hv; rfl
    | i + 3, hu, hv => simp at hu
end Go.Sd
namespace Go.Proofs.Ytcilgihmaaobeaa
open Go.RowKit Go.Deep Go.Sd

def cmpI (a b : Int) : Int := if a < b then -1 else if b < a then 1 else 0
def orL : List Int → Int
  | [] => 0
  | x :: xs => if x ≠ 0 then x else orL xs
def cmpA (a b : Arc3) : Int := orL [cmpI a.1 b.1, cmpI a.2.2 b.2.2, cmpI a.2.1 b.2.1]
def before (a b : Arc3) : Bool := if a.1 ≠ b.1 then decide (a.1 < b.1) else if a.2.2 ≠ b.2.2 then decide (a.2.2 < b.2.2) else decide (a.2.1 < b.2.1)
theorem cmpA_nn (a b : Arc3) : (0 ≤ cmpA a b) ↔ before a b = false := by
  obtain ⟨a0, a1, a2⟩ := a
  obtain ⟨b0, b1, b2⟩ := b
  simp only [cmpA, before, orL, cmpI]
  repeat' split
  all_goals simp
  all_goals omega

theorem isNaN_c (x : Int) (w : World) : Calls Try.prog 120 #[.int .i64 x] w fun e w' => e = .returned (.bool false) ∧ w = w' := by
  have t1 : (x != x) = false := by simp
  go_enter Try.func120, Try.ntmps120
  go_wp2
  go_ret
  exact ⟨rfl, rfl⟩
theorem Compare_c (a b : Int) (w : World) : Calls Try.prog 96 #[.int .i64 a, .int .i64 b] w fun e w' => e = .returned (.int .i64 (cmpI a b)) ∧ w = w' := by
  have H1 := Lib.hid (isNaN_c a w)
  have H2 := Lib.hid (isNaN_c b w)
  by_cases h1 : a < b
  · have H := Lib.hid (show cmpI a b = -1 from by unfold cmpI; rw [if_pos h1])
    go_enter Try.func96, Try.ntmps96
    go_wp2_with fail
    refine H1.out.mono ?_
    rintro e w' ⟨rfl, rfl⟩
    go_wp2_with fail
    refine H2.out.mono ?_
    rintro e w' ⟨rfl, rfl⟩
    go_wp2
    go_ret
    exact ⟨by rw [H.out]; rfl, rfl⟩
  by_cases h2 : b < a
  · have H := Lib.hid (show cmpI a b = 1 from by unfold cmpI; rw [if_neg h1, if_pos h2])
    go_enter Try.func96, Try.ntmps96
    go_wp2_with fail
    refine H1.out.mono ?_
    rintro e w' ⟨rfl, rfl⟩
    go_wp2_with fail
    refine H2.out.mono ?_
    rintro e w' ⟨rfl, rfl⟩
    go_wp2
    go_ret
    exact ⟨by rw [H.out]; rfl, rfl⟩
  have H := Lib.hid (show cmpI a b = 0 from by unfold cmpI; rw [if_neg h1, if_neg h2])
  go_enter Try.func96, Try.ntmps96
  go_wp2_with fail
  refine H1.out.mono ?_
  rintro e w' ⟨rfl, rfl⟩
  go_wp2_with fail
  refine H2.out.mono ?_
  rintro e w' ⟨rfl, rfl⟩
  go_wp2
  go_ret
  exact ⟨by rw [H.out]; rfl, rfl⟩
set_option maxHeartbeats 400000 in
theorem Or_c {w : World} {v : Value} {xs : List Int} (h : Ints w v xs) : Calls Try.prog 95 #[v] w fun e w' => e = .returned (.int .i64 (orL xs)) ∧ w = w' := by
  have hlen := h.len
  obtain ⟨a, c, rfl, _, _, hcell⟩ := h.shape
  clear h
  have H0 := Lib.hid (show orL xs = orL (xs.drop 0) from rfl)
  go_enter Try.func95, Try.ntmps95
  go_wp2
  go_loopg [8] (xs.length) (fun g i wr => ∃ (k : Nat), i = .int .i64 k ∧ k + g = xs.length ∧ Hid (orL xs = orL (xs.drop k)) ∧ w = wr)
  case atStart => exact ⟨0, rfl, by omega, H0, rfl⟩
  case round =>
    obtain ⟨k, rfl, hk, H, rfl⟩ := hrel
    by_cases hlt : k < xs.length
    · obtain ⟨b, o, rfl, hb, hx0⟩ := hcell (by omega)
      obtain ⟨x, hx, hd⟩ := at_lt hlt
      obtain ⟨u, hu, rfl⟩ := hx0 k x hx
      have H1 := Lib.hid (show orL xs = if x ≠ 0 then x else orL (xs.drop (k + 1)) from by rw [H.out, hd]; rfl)
      clear H hx hd hx0 hcell H0
      by_cases hz : x = 0
      · have H2 := Lib.hid (show orL xs = orL (xs.drop (k + 1)) from by rw [H1.out, if_neg (by simp [hz])])
        have t1 : (x != 0) = false := by simp [hz]
        clear H1 hz
        go_wp2
        go_roundg (xs.length - (k + 1))
        case measure => omega
        case rel => exact ⟨k + 1, by go_num, by omega, H2, rfl⟩
      · have H2 := Lib.hid (show orL xs = x from by rw [H1.out, if_pos hz])
        have t1 : (x != 0) = true := by simp [hz]
        clear H1 hz
        go_wp2
        go_ret
        exact ⟨by rw [H2.out]; rfl, rfl⟩
    · have H1 := Lib.hid (show orL xs = 0 from by rw [H.out, drop_len hlt]; rfl)
      clear H
      go_wp2
      go_ret
      exact ⟨by rw [H1.out]; rfl, rfl⟩
set_option maxHeartbeats 400000 in
theorem l14Before_c (a b : Arc3) (w : World) : Calls Try.prog 83 #[.agg #[.int .i64 a.1, .int .i64 a.2.1, .int .i64 a.2.2], .agg #[.int .i64 b.1, .int .i64 b.2.1, .int .i64 b.2.2]] w fun e w' => e = .returned (.bool (before a b)) ∧ Below w.heap.size w w' := by
  obtain ⟨a0, a1, a2⟩ := a
  obtain ⟨b0, b1, b2⟩ := b
  have Hb := Lib.hid (fun (u u' : Obj) => ((Below.refl w.heap.size w).alloc (Nat.le_refl _) u).alloc (by simp) u')
  by_cases h0 : a0 = b0
  · have t0 : (a0 != b0) = false := by simp [h0]
    by_cases h2 : a2 = b2
    · have t2 : (a2 != b2) = false := by simp [h2]
      have H := Lib.hid (show before (a0, a1, a2) (b0, b1, b2) = decide (a1 < b1) from by unfold before; rw [if_neg (by simp [h0]), if_neg (by simp [h2])])
      clear h0 h2
      go_enter Try.func83, Try.ntmps83
      go_wp2
      go_ret
      exact ⟨by rw [H.out]; rfl, Hb.out _ _⟩
    · have t2 : (a2 != b2) = true := by simp [h2]
      have H := Lib.hid (show before (a0, a1, a2) (b0, b1, b2) = decide (a2 < b2) from by unfold before; rw [if_neg (by simp [h0]), if_pos (by simp [h2])])
      clear h0 h2
      go_enter Try.func83, Try.ntmps83
      go_wp2
      go_ret
      exact ⟨by rw [H.out]; rfl, Hb.out _ _⟩
  · have t0 : (a0 != b0) = true := by simp [h0]
    have H := Lib.hid (show before (a0, a1, a2) (b0, b1, b2) = decide (a0 < b0) from by unfold before; rw [if_pos (by simp [h0])])
    clear h0
    go_enter Try.func83, Try.ntmps83
    go_wp2
    go_ret
    exact ⟨by rw [H.out]; rfl, Hb.out _ _⟩
set_option maxHeartbeats 1000000 in
theorem compareArcs_c (a b : Arc3) (w : World) : Calls Try.prog 70 #[.agg #[.int .i64 a.1, .int .i64 a.2.1, .int .i64 a.2.2], .agg #[.int .i64 b.1, .int .i64 b.2.1, .int .i64 b.2.2]] w fun e w' => e = .returned (.int .i64 (cmpA a b)) ∧ Below w.heap.size w w' := by
  obtain ⟨a0, a1, a2⟩ := a
  obtain ⟨b0, b1, b2⟩ := b
  have H := Lib.hid (show cmpA (a0, a1, a2) (b0, b1, b2) = orL [cmpI a0 b0, cmpI a2 b2, cmpI a1 b1] from rfl)
  generalize cmpA (a0, a1, a2) (b0, b1, b2) = T at H ⊢
  have H0 := Lib.hid (fun w => Compare_c a0 b0 w)
  have H2 := Lib.hid (fun w => Compare_c a2 b2 w)
  have H1 := Lib.hid (fun w => Compare_c a1 b1 w)
  generalize cmpI a0 b0 = c0 at *
  generalize cmpI a2 b2 = c2 at *
  generalize cmpI a1 b1 = c1 at *
  go_enter Try.func70, Try.ntmps70
  go_wp2
  obtain ⟨w1, e1, hb1, p0, p1, p2, m1⟩ := boxA3_ex w 59 (.int .i64 a0) (.int .i64 a1) (.int .i64 a2)
  have z1 : w1.heap.size = w.heap.size + 1 := by rw [← e1]; simp
  obtain ⟨w2, e2, hb2, q0, q1, q2, m2⟩ := boxA3_ex w1 59 (.int .i64 b0) (.int .i64 b1) (.int .i64 b2)
  have z2 : w2.heap.size = w.heap.size + 1 + 1 := by rw [← e2]; simp [z1]
  rw [e1, e2]
  rw [z1] at q0 q1 q2
  have hb3 := hb1.trans (hb2.mono (by omega))
  replace p0 := (hb2.cell (p := ⟨w.heap.size, 0, none⟩) m1).trans p0
  replace p1 := (hb2.cell (p := ⟨w.heap.size, 1, none⟩) m1).trans p1
  replace p2 := (hb2.cell (p := ⟨w.heap.size, 2, none⟩) m1).trans p2
  clear e1 e2 hb1 hb2 m1 m2 z1 w1
  have hS0 : w2.cell? ⟨w.heap.size, 0, none⟩ = some (.int .i64 a0) ∧ w2.cell? ⟨w.heap.size, 1, none⟩ = some (.int .i64 a1) ∧ w2.cell? ⟨w.heap.size, 2, none⟩ = some (.int .i64 a2) ∧ w2.cell? ⟨w.heap.size + 1, 0, none⟩ = some (.int .i64 b0) ∧ w2.cell? ⟨w.heap.size + 1, 1, none⟩ = some (.int .i64 b1) ∧ w2.cell? ⟨w.heap.size + 1, 2, none⟩ = some (.int .i64 b2) := ⟨p0, p1, p2, q0, q1, q2⟩
  have hSd : w2.drew.cell? ⟨w.heap.size, 0, none⟩ = some (.int .i64 a0) ∧ w2.drew.cell? ⟨w.heap.size, 1, none⟩ = some (.int .i64 a1) ∧ w2.drew.cell? ⟨w.heap.size, 2, none⟩ = some (.int .i64 a2) ∧ w2.drew.cell? ⟨w.heap.size + 1, 0, none⟩ = some (.int .i64 b0) ∧ w2.drew.cell? ⟨w.heap.size + 1, 1, none⟩ = some (.int .i64 b1) ∧ w2.drew.cell? ⟨w.heap.size + 1, 2, none⟩ = some (.int .i64 b2) := hS0
  have hSa : (w2.drew.alloc (.cells #[.int .i64 c0, .int .i64 c2, .int .i64 c1] 3)).cell? ⟨w.heap.size, 0, none⟩ = some (.int .i64 a0) ∧ (w2.drew.alloc (.cells #[.int .i64 c0, .int .i64 c2, .int .i64 c1] 3)).cell? ⟨w.heap.size, 1, none⟩ = some (.int .i64 a1) ∧ (w2.drew.alloc (.cells #[.int .i64 c0, .int .i64 c2, .int .i64 c1] 3)).cell? ⟨w.heap.size, 2, none⟩ = some (.int .i64 a2) ∧ (w2.drew.alloc (.cells #[.int .i64 c0, .int .i64 c2, .int .i64 c1] 3)).cell? ⟨w.heap.size + 1, 0, none⟩ = some (.int .i64 b0) ∧ (w2.drew.alloc (.cells #[.int .i64 c0, .int .i64 c2, .int .i64 c1] 3)).cell? ⟨w.heap.size + 1, 1, none⟩ = some (.int .i64 b1) ∧ (w2.drew.alloc (.cells #[.int .i64 c0, .int .i64 c2, .int .i64 c1] 3)).cell? ⟨w.heap.size + 1, 2, none⟩ = some (.int .i64 b2) := ⟨(World.cell?_alloc_past _ _ _ (show w.heap.size < w2.heap.size by omega)).trans p0, (World.cell?_alloc_past _ _ _ (show w.heap.size < w2.heap.size by omega)).trans p1, (World.cell?_alloc_past _ _ _ (show w.heap.size < w2.heap.size by omega)).trans p2, (World.cell?_alloc_past _ _ _ (show w.heap.size + 1 < w2.heap.size by omega)).trans q0, (World.cell?_alloc_past _ _ _ (show w.heap.size + 1 < w2.heap.size by omega)).trans q1, (World.cell?_alloc_past _ _ _ (show w.heap.size + 1 < w2.heap.size by omega)).trans q2⟩
  have hSb : (w2.alloc (.cells #[.int .i64 c0, .int .i64 c2, .int .i64 c1] 3)).drew.cell? ⟨w.heap.size, 0, none⟩ = some (.int .i64 a0) ∧ (w2.alloc (.cells #[.int .i64 c0, .int .i64 c2, .int .i64 c1] 3)).drew.cell? ⟨w.heap.size, 1, none⟩ = some (.int .i64 a1) ∧ (w2.alloc (.cells #[.int .i64 c0, .int .i64 c2, .int .i64 c1] 3)).drew.cell? ⟨w.heap.size, 2, none⟩ = some (.int .i64 a2) ∧ (w2.alloc (.cells #[.int .i64 c0, .int .i64 c2, .int .i64 c1] 3)).drew.cell? ⟨w.heap.size + 1, 0, none⟩ = some (.int .i64 b0) ∧ (w2.alloc (.cells #[.int .i64 c0, .int .i64 c2, .int .i64 c1] 3)).drew.cell? ⟨w.heap.size + 1, 1, none⟩ = some (.int .i64 b1) ∧ (w2.alloc (.cells #[.int .i64 c0, .int .i64 c2, .int .i64 c1] 3)).drew.cell? ⟨w.heap.size + 1, 2, none⟩ = some (.int .i64 b2) := ⟨(World.cell?_alloc_past _ _ _ (show w.heap.size < w2.heap.size by omega)).trans p0, (World.cell?_alloc_past _ _ _ (show w.heap.size < w2.heap.size by omega)).trans p1, (World.cell?_alloc_past _ _ _ (show w.heap.size < w2.heap.size by omega)).trans p2, (World.cell?_alloc_past _ _ _ (show w.heap.size + 1 < w2.heap.size by omega)).trans q0, (World.cell?_alloc_past _ _ _ (show w.heap.size + 1 < w2.heap.size by omega)).trans q1, (World.cell?_alloc_past _ _ _ (show w.heap.size + 1 < w2.heap.size by omega)).trans q2⟩
  have HI := Lib.hid (Ints.three (w := w2.drew.alloc (.cells #[.int .i64 c0, .int .i64 c2, .int .i64 c1] 3)) (b := w2.heap.size) (x := c0) (y := c2) (z := c1) (by simp) (World.cell?_alloc_at _ _ _ 0 rfl) (World.cell?_alloc_at _ _ _ 1 rfl) (World.cell?_alloc_at _ _ _ 2 rfl))
  have HI2 := Lib.hid (Ints.three (w := (w2.alloc (.cells #[.int .i64 c0, .int .i64 c2, .int .i64 c1] 3)).drew) (b := w2.heap.size) (x := c0) (y := c2) (z := c1) (by simp) (World.cell?_alloc_at _ _ _ 0 rfl) (World.cell?_alloc_at _ _ _ 1 rfl) (World.cell?_alloc_at _ _ _ 2 rfl))
  have Hbf2 := Lib.hid ((hb3.alloc (show w.heap.size ≤ w2.heap.size by omega) (.cells #[.int .i64 c0, .int .i64 c2, .int .i64 c1] 3)).drew)
  have Hbf := Lib.hid ((hb3.drew).alloc (show w.heap.size ≤ w2.heap.size by omega) (.cells #[.int .i64 c0, .int .i64 c2, .int .i64 c1] 3))
  clear hb3 z2 p0 p1 p2 q0 q1 q2
  go_region_held3 (fun w' => w'.cell? ⟨w.heap.size, 0, none⟩ = some (.int .i64 a0) ∧ w'.cell? ⟨w.heap.size, 1, none⟩ = some (.int .i64 a1) ∧ w'.cell? ⟨w.heap.size, 2, none⟩ = some (.int .i64 a2) ∧ w'.cell? ⟨w.heap.size + 1, 0, none⟩ = some (.int .i64 b0) ∧ w'.cell? ⟨w.heap.size + 1, 1, none⟩ = some (.int .i64 b1) ∧ w'.cell? ⟨w.heap.size + 1, 2, none⟩ = some (.int .i64 b2))
    (first | with_reducible exact hSd | with_reducible exact hSa | with_reducible exact hSb | with_reducible exact hS0 | go_keep)
    ((first
      | (go_at_call 96; with_reducible refine (H0.out _).mono ?_; rintro e w' ⟨rfl, rfl⟩)
      | (go_at_call 96; with_reducible refine (H2.out _).mono ?_; rintro e w' ⟨rfl, rfl⟩)
      | (go_at_call 96; with_reducible refine (H1.out _).mono ?_; rintro e w' ⟨rfl, rfl⟩)
      | (go_at_call 95; with_reducible refine (Or_c HI.out).mono ?_; rintro e w' ⟨rfl, rfl⟩; have Hbz := Hbf)
      | (go_at_call 95; with_reducible refine (Or_c HI2.out).mono ?_; rintro e w' ⟨rfl, rfl⟩; have Hbz := Hbf2)
      | fail))
  all_goals (go_wp2; go_ret; exact ⟨by rw [H.out]; rfl, Hbz.out⟩)
end Go.Proofs.Ytcilgihmaaobeaa
end

section
/-
  append by footprints: the slice and the element's own blocks named; two things of the call's own that share no block.
-/
namespace Go.Sd
open Go.RowKit Go.Deep

/-- 'append(v, u)' by footprints, as a run of the builtin. -/
theorem push_run {P : Program} {w : World} {α : Type} {R : OwnRel α} (hR : Kept R) (t ty e : TypeId) (z : Value) (bytes : Nat) (ht : P.underlying t = some (.slice e)) (hinfo : (P.info? e).map (fun i => (i.zero, i.size, i.bytes)) = some (some z, 1, bytes)) (hz1 : z.cells = #[z])
    {v : Value} {xs : List α} {F : List Nat} (h0 : OwnOf e R w v xs F) (hnd : F.Nodup) {u : Value} {y : α} {G : List Nat} (hG : R w u y G) (hGn : G.Nodup) (hd : ∀ b, b ∈ F → b ∉ G)
    {bb c : Nat} (hcell : w.cell? ⟨bb, 0, none⟩ = some u) (hbytes : (xs.length + 1) * bytes ≤ 140737488355328) (h63 : xs.length + 1 ≤ 9223372036854775807) :
    ∃ v' w' F', (Builtin.append_ #[t, t] ty #[v, .slice (some ⟨bb, 0, none⟩) 1 c]).run P w = .ok v' w' ∧ OwnOf e R w' v' (xs ++ [y]) F' ∧ F'.Nodup ∧ (∀ b, b ∈ F' → b ∈ F ∨ b ∈ G ∨ w.heap.size ≤ b) ∧ w.grownBy w' v.ownBlock ∧ (∀ k, v.ownBlock = some k → k ∈ F) := by
  obtain ⟨i, hi, hzz⟩ := Option.map_eq_some_iff.1 hinfo
  simp only [Prod.mk.injEq] at hzz
  obtain ⟨hz, hsz, hby⟩ := hzz
  have hltF := (OwnOf.kept (e := e) hR).lt _ _ _ _ h0
  obtain ⟨us, Fs, how, hl, hr, rfl⟩ := h0
  have hul : us.length = xs.length := by simpa using how.1
  have hvF : ∀ k, v.ownBlock = some k → k ∈ v.ownBlock.toList ++ Fs.flatten := fun k hk => by simp [hk]
  obtain ⟨v', w', hrun, how', hg, _, hat⟩ := run_append_own_at (P := P) w 0 t ty e i z 1 bytes ht hi hz hsz hby (by rw [hz1]; rfl) (by decide) v xs.length us how ⟨bb, 0, none⟩ 1 c [u] (by simp)
    (by
      intro j u' hj
      match j, hj with
      | 0, hj =>
        simp at hj
        subst hj
        simpa [Addr.add] using hcell)
    (by
      intro u' hu'
      simp at hu'
      subst hu'
      exact hR.one _ _ _ _ hG) h63 hbytes (Nat.zero_le _)
  have hGlt : ∀ b, b ∈ G → b < w.heap.size := hR.lt _ _ _ _ hG
  have hnd' := List.nodup_append.1 hnd
  have hnv : ∀ k, v.ownBlock = some k → k ∉ Fs.flatten := fun k hk hm => hnd'.2.2 k (by simp [hk]) k hm rfl
  have hat' : ∀ k, v'.ownBlock = some k → v.ownBlock = some k ∨ w.heap.size ≤ k := by
    intro k hk
    rcases hat with hat | hat
    · rw [hat] at hk; exact Or.inl hk
    · rw [hat] at hk; simp at hk; exact Or.inr (by omega)
  refine ⟨v', w', v'.ownBlock.toList ++ (Fs ++ [G]).flatten, hrun, ⟨us ++ [u], Fs ++ [G], by simpa using how', by simp [hl], ?_, rfl⟩, ?_, ?_, hg, hvF⟩
  · intro j u' x' G' hu' hx' hG'
    by_cases hj : j < xs.length
    · rw [List.getElem?_append_left (by omega)] at hu' hx' hG'
      refine hR.keep _ _ _ _ _ (hr j u' x' G' hu' hx' hG') fun b hb' => ?_
      have hm : b ∈ Fs.flatten := List.mem_flatten_of_mem (List.mem_of_getElem? hG') hb'
      exact hg.block b (hltF b (List.mem_append_right _ hm)) (fun e => hnv b e.symm hm)
    · have hj2 : j = xs.length := by
        have := (List.getElem?_eq_some_iff.1 hx').1
        simp at this; omega
      subst hj2
      rw [List.getElem?_append_right (by omega)] at hu' hx' hG'
      simp [hul, hl] at hu' hx' hG'
      subst hu' hx' hG'
      exact hR.keep _ _ _ _ _ hG fun b hb' => hg.block b (hGlt b hb') fun e => hd b (hvF b e.symm) hb'
  · simp only [List.flatten_append, List.flatten_cons, List.flatten_nil, List.append_nil]
    refine List.nodup_append.2 ⟨by cases v'.ownBlock <;> simp, List.nodup_append.2 ⟨hnd'.2.1, hGn, ?_⟩, ?_⟩
    · intro p hp q hq e
      subst e
      exact hd p (List.mem_append_right _ hp) hq
    · intro p hp q hq e
      subst e
      simp at hp
      rcases hat' p hp with hk | hk
      · rcases List.mem_append.1 hq with hq | hq
        · exact hnv p hk hq
        · exact hd p (hvF p hk) hq
      · rcases List.mem_append.1 hq with hq | hq
        · have := hltF p (List.mem_append_right _ hq); omega
        · have := hGlt p hq; omega
  · intro b hb'
    rcases List.mem_append.1 hb' with hb' | hb'
    · simp at hb'
      rcases hat' b hb' with hk | hk
      · exact Or.inl (hvF b hk)
      · exact Or.inr (Or.inr hk)
    · simp at hb'
      rcases hb' with ⟨H, hH, hb'⟩ | hb'
      · exact Or.inl (List.mem_append_right _ (List.mem_flatten_of_mem hH hb'))
      · exact Or.inr (Or.inl hb')

/-- Two things of the call's own that share no block. -/
def Apart {α β : Type} (R : OwnRel α) (S : OwnRel β) (lo : Nat) (w : World) (v : Value) (x : α) (u : Value) (y : β) : Prop :=
  ∃ F G, R w v x F ∧ S w u y G ∧ Fresh lo F ∧ Fresh lo G ∧ ∀ b, b ∈ F → b ∉ G

section
variable {α β : Type} {R : OwnRel α} {S : OwnRel β} {lo : Nat} {w : World} {v u : Value} {x : α} {y : β}
theorem Apart.left (h : Apart R S lo w v x u y) : New R lo w v x := by obtain ⟨F, G, h1, _, h3, _⟩ := h; exact ⟨F, h1, h3⟩
theorem Apart.right (h : Apart R S lo w v x u y) : New S lo w u y := by obtain ⟨F, G, _, h2, _, h4, _⟩ := h; exact ⟨G, h2, h4⟩
theorem Apart.symm (h : Apart R S lo w v x u y) : Apart S R lo w u y v x := by
  obtain ⟨F, G, h1, h2, h3, h4, h5⟩ := h
  exact ⟨G, F, h2, h1, h4, h3, fun b hG hF => h5 b hF hG⟩
theorem Apart.keep (hR : Kept R) (hS : Kept S) {B : Nat} {w' : World} (h : Apart R S lo w v x u y) (hb : Below B w w') (hB : w.heap.size ≤ B) : Apart R S lo w' v x u y := by
  obtain ⟨F, G, h1, h2, h3, h4, h5⟩ := h
  exact ⟨F, G, hR.keep _ _ _ _ _ h1 fun b hm => hb.block b (Nat.lt_of_lt_of_le (hR.lt _ _ _ _ h1 b hm) hB), hS.keep _ _ _ _ _ h2 fun b hm => hb.block b (Nat.lt_of_lt_of_le (hS.lt _ _ _ _ h2 b hm) hB), h3, h4, h5⟩
/-- One was made, then the other. -/
theorem Apart.of_new (hR : Kept R) {w1 : World} (h1 : New R lo w1 v x) (h2 : New S w1.heap.size w u y) (hb : Below w1.heap.size w1 w) (hlo : lo ≤ w1.heap.size) : Apart R S lo w v x u y := by
  obtain ⟨F, hF, hF2⟩ := h1
  obtain ⟨G, hG, hG2⟩ := h2
  refine ⟨F, G, hR.keep _ _ _ _ _ hF fun b hm => hb.block b (hR.lt _ _ _ _ hF b hm), hG, hF2, ⟨hG2.1, fun b hm => Nat.le_trans hlo (hG2.2 b hm)⟩, fun b hm hm2 => ?_⟩
  have := hR.lt _ _ _ _ hF b hm
  have := hG2.2 b hm2
  omega
end

section
variable {P : Program} {α β : Type} {R : OwnRel α} {S : OwnRel β} {lo : Nat} {w : World} {v u : Value} {e : TypeId}

/-- An element of the first is stored anew. -/
theorem Apart.at (hR : Kept R) (hS : Kept S) {xs : List α} {y : β} (h : Apart (OwnOf e R) S lo w v xs u y) {i : Nat} {x : α} (hx : xs[i]? = some x) :
    ∃ b c, v = .slice (some ⟨b, 0, none⟩) xs.length c ∧ xs.length ≤ c ∧ lo ≤ b ∧ b < w.heap.size ∧ (∃ u0, w.cell? ⟨b, i, none⟩ = some u0) ∧ w.frozen? ⟨b, i, none⟩ = false ∧
      ∀ w' u' x', Below w.heap.size w w' → New R w.heap.size w' u' x' → Apart (OwnOf e R) S lo (w'.setCell ⟨b, i, none⟩ u') v (xs.set i x') u y := by
  obtain ⟨F, G, hF, hG, hn, hm, hd⟩ := h
  have hlt := (OwnOf.kept (e := e) hR).lt _ _ _ _ hF
  obtain ⟨b, c, u0, H, hv, hc, hbF, hbH, hcell, hfr, hu, hHF, hHn, _, hst⟩ := hF.focus hR hn.1 hx
  refine ⟨b, c, hv, hc, hn.2 b hbF, hlt b hbF, ⟨u0, hcell⟩, hfr, fun w' u' x' hb ⟨G', hG', hn', hge'⟩ => ?_⟩
  obtain ⟨F', hF', hsub, hnd, _⟩ := hst w' u' x' G' hG' (fun hmm => by have := hge' b hmm; have := hlt b hbF; omega) (fun q hq _ => hb.block q (hlt q hq))
  have hGlt := hS.lt _ _ _ _ hG
  refine ⟨F', G, hF', hS.keep _ _ _ _ _ hG fun q hq => ?_, ⟨hnd hn' (fun q hq hqF => by have := hge' q hq; have := hlt q hqF; omega), fun q hq => (hsub q hq).elim (hn.2 q) fun hq2 => ?_⟩, hm, fun q hq hqG => ?_⟩
  · exact (Below.heap_setCell _ _ _ _ (fun e => hd b hbF (by have e2 : q = b := e; exact e2 ▸ hq))).trans (hb.block q (hGlt q hq))
  · have := hge' q hq2
    have := hlt b hbF
    have := hn.2 b hbF
    omega
  · rcases hsub q hq with h1 | h1
    · exact hd q h1 hqG
    · have := hge' q h1
      have := hGlt q hqG
      omega

/-- The second becomes the first's last element. -/
theorem Apart.push (hR : Kept R) (t ty : TypeId) (z : Value) (bytes : Nat) (ht : P.underlying t = some (.slice e)) (hinfo : (P.info? e).map (fun i => (i.zero, i.size, i.bytes)) = some (some z, 1, bytes)) (hz1 : z.cells = #[z])
    {xs : List α} {y : α} (h : Apart (OwnOf e R) R lo w v xs u y) (hlo : lo ≤ w.heap.size) {bb c : Nat} (hcell : w.cell? ⟨bb, 0, none⟩ = some u) (hbytes : (xs.length + 1) * bytes ≤ 140737488355328) (h63 : xs.length + 1 ≤ 9223372036854775807) :
    ∃ v' w', (Builtin.append_ #[t, t] ty #[v, .slice (some ⟨bb, 0, none⟩) 1 c]).run P w = .ok v' w' ∧ New (OwnOf e R) lo w' v' (xs ++ [y]) ∧ Below lo w w' := by
  obtain ⟨F, G, hF, hG, hn, hm, hd⟩ := h
  obtain ⟨v', w', F', hr, hF', hn', hs, hg, hv⟩ := push_run hR t ty e z bytes ht hinfo hz1 hF hn.1 hG hm.1 hd (c := c) hcell hbytes h63
  refine ⟨v', w', hr, ⟨F', hF', hn', fun b hb => ?_⟩, Below.of_grown hg hlo fun k hk => hn.2 k (hv k hk)⟩
  rcases hs b hb with h1 | h1 | h1
  · exact hn.2 b h1
  · exact hm.2 b h1
  · omega

/-- An element without blocks of its own is put behind the second. -/
theorem Apart.push2 (hR : Kept R) (hS : Kept S) (t ty : TypeId) (z : Value) (bytes : Nat) (ht : P.underlying t = some (.slice e)) (hinfo : (P.info? e).map (fun i => (i.zero, i.size, i.bytes)) = some (some z, 1, bytes)) (hz1 : z.cells = #[z])
    {x : α} {ys : List β} {y : β} {q : Value} (h : Apart R (OwnOf e S) lo w v x u ys) (hlo : lo ≤ w.heap.size) {bb c : Nat} (hcell : w.cell? ⟨bb, 0, none⟩ = some q) (hq : S w q y []) (hbytes : (ys.length + 1) * bytes ≤ 140737488355328) (h63 : ys.length + 1 ≤ 9223372036854775807) :
    ∃ v' w', (Builtin.append_ #[t, t] ty #[u, .slice (some ⟨bb, 0, none⟩) 1 c]).run P w = .ok v' w' ∧ Apart R (OwnOf e S) lo w' v x v' (ys ++ [y]) ∧ Below lo w w' := by
  obtain ⟨F, G, hF, hG, hn, hm, hd⟩ := h
  obtain ⟨v', w', G', hr, hG', hn', hs, hg, hv⟩ := push_run hS t ty e z bytes ht hinfo hz1 hG hm.1 hq (by simp) (by simp) (c := c) hcell hbytes h63
  have hlt := hR.lt _ _ _ _ hF
  refine ⟨v', w', hr, ⟨F, G', hR.keep _ _ _ _ _ hF fun b hb => hg.block b (hlt b hb) fun e => hd b hb (hv b e.symm), hG', hn, ⟨hn', fun b hb => ?_⟩, fun b hb hb2 => ?_⟩, Below.of_grown hg hlo fun k hk => hm.2 k (hv k hk)⟩
  · rcases hs b hb with h1 | h1 | h1
    · exact hm.2 b h1
    · simp at h1
    · omega
  · rcases hs b hb2 with h1 | h1 | h1
    · exact hd b hb h1
    · simp at h1
    · have := hlt b hb; omega
end

/-- 't[i] = append(t[i], x)' at an own table: the row's cell, a number of the row, and what the append and the store leave. -/
theorem New.row_push {P : Program} {eI eR : TypeId} {lo : Nat} {w : World} {v : Value} {m : List (List Int)} (h : New (OTab eI eR) lo w v m) {i j : Nat} {r : List Int} {x : Int} (hr : m[i]? = some r) (hx : r[j]? = some x)
    (t ty : TypeId) (z : Value) (bytes : Nat) (ht : P.underlying t = some (.slice eI)) (hinfo : (P.info? eI).map (fun i => (i.zero, i.size, i.bytes)) = some (some z, 1, bytes)) (hz1 : z.cells = #[z])
    (hbytes : (r.length + 1) * bytes ≤ 140737488355328) (h63 : r.length + 1 ≤ 9223372036854775807) :
    ∃ b c rb rc, v = .slice (some ⟨b, 0, none⟩) m.length c ∧ m.length ≤ c ∧ lo ≤ b ∧ b < w.heap.size ∧ w.cell? ⟨b, i, none⟩ = some (.slice (some ⟨rb, 0, none⟩) r.length rc) ∧ r.length ≤ rc ∧ rb < w.heap.size ∧ rb ≠ b ∧
      w.cell? ⟨rb, j, none⟩ = some (.int .i64 x) ∧
      ∀ (w1 : World) (bb c1 : Nat) (y : Int), Below w.heap.size w w1 → w1.cell? ⟨bb, 0, none⟩ = some (.int .i64 y) →
        ∃ v' w2, (Builtin.append_ #[t, t] ty #[.slice (some ⟨rb, 0, none⟩) r.length rc, .slice (some ⟨bb, 0, none⟩) 1 c1]).run P w1 = .ok v' w2 ∧
          w2.cell? ⟨b, i, none⟩ = some (.slice (some ⟨rb, 0, none⟩) r.length rc) ∧ w2.frozen? ⟨b, i, none⟩ = false ∧ v'.oneCell' = true ∧ Below lo w w2 ∧
          New (OTab eI eR) lo (w2.setCell ⟨b, i, none⟩ v') v (m.set i (r ++ [y])) := by
  obtain ⟨F, hF, hn, hge⟩ := h
  have hlt := (OTab.kept eI eR).lt _ _ _ _ hF
  obtain ⟨b, c, u, G, hv, hc, hbF, hbG, hcell, hfr, hu, hGF, hGn, _, hst⟩ := hF.focus (OInts.kept eI) hn hr
  obtain ⟨rb, rc, u2, G2, rfl, hrc, hrb, _, hcell2, hfr2, ⟨rfl, rfl⟩, _, _, _, _⟩ := hu.focus OIntR.kept hGn hx
  refine ⟨b, c, rb, rc, hv, hc, hge b hbF, hlt b hbF, hcell, hrc, hlt rb (hGF rb hrb), fun e => hbG (e ▸ hrb), hcell2, fun w1 bb c1 y hb hy => ?_⟩
  have hu1 : OInts eI w1 _ r G := (OInts.kept eI).keep _ _ _ _ _ hu fun q hq => hb.block q (hlt q (hGF q hq))
  have hz := hb.size
  have hlob := hge b hbF
  have hltb := hlt b hbF
  obtain ⟨v', w2, G', hrun, hG', hn', hs, hg, hvG⟩ := push_run OIntR.kept t ty eI z bytes ht hinfo hz1 hu1 hGn (y := y) (G := []) ⟨rfl, rfl⟩ (by simp) (by simp) (c := c1) hy hbytes h63
  have hoff : ∀ q, q ∈ F → q ∉ G → w2.heap[q]? = w.heap[q]? := fun q hq hqG => (hg.block q (by have := hlt q hq; omega) fun e => hqG (hvG q e.symm)).trans (hb.block q (hlt q hq))
  have hbb := hoff b hbF hbG
  have hbG' : b ∉ G' := fun hm => by
    rcases hs b hm with h1 | h1 | h1
    · exact hbG h1
    · simp at h1
    · omega
  obtain ⟨F', hF', hsub, hnd, _⟩ := hst w2 v' (r ++ [y]) G' hG' hbG' hoff
  refine ⟨v', w2, hrun, ?_, ?_, (OInts.kept eI).one _ _ _ _ hG', ?_, F', hF', hnd hn' (fun q hq hqF => ?_), fun q hq => (hsub q hq).elim (hge q) fun hm => ?_⟩
  · rw [← hcell]
    simp only [World.cell?, hbb]
  · rw [← hfr]
    simp only [World.frozen?, hbb]
  · exact (hb.mono (by omega)).grown hg (by omega) fun k hk => hge k (hGF k (hvG k hk))
  · rcases hs q hq with h1 | h1 | h1
    · exact h1
    · simp at h1
    · have := hlt q hqF; omega
  · rcases hs q hm with h1 | h1 | h1
    · exact hge q (hGF q h1)
    · simp at h1
    · omega
end Go.Sd
end
