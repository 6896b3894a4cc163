/-
  Texts of this claim joined: laws for its walks, contracts of the functions that the law reaches.
-/
import Derived.Test.YtcilgihmaaobeaaDoorRows
import Derived.Test.YtcilgihmaaobeaaDoorFnSyncM1
import Derived.Test.YtcilgihmaaobeaaDoorFnSyncM5
import Derived.Test.YtcilgihmaaobeaaDoorFnSyncM8
import Derived.Test.YtcilgihmaaobeaaDoorFnSyncM2
import Derived.Test.YtcilgihmaaobeaaDoorFnSyncM3
import Derived.Laws.DeepStrings4
import Derived.Test.YtcilgihmaaobeaaDoorFnSyncM6
import Derived.Laws.OwnMore
import Derived.IntWalk
import Derived.BigQuiet
import Derived.Deep.RegionHeld3
import Derived.Deep.DeepCutAuto
set_option linter.unusedVariables false
set_option linter.unusedSimpArgs false
section
namespace Go.Proofs.YtcilgihmaaobeaaDoor
open Go.RowKit Go.Deep Go.Sd

def akey (a : Arc3) : Int := a.1 * 4 + a.2.2
def SortK (xs : List Arc3) : Prop := xs.Pairwise fun a b => akey a < akey b
def okArc (L n : Nat) (a : Arc3) : Prop := 0 ≤ a.1 ∧ a.1 < (n : Int) ∧ 0 ≤ a.2.1 ∧ a.2.1 < (n : Int) ∧ 0 ≤ a.2.2 ∧ a.2.2 < (L : Int)
section
variable (R : Nat → Nat → Bool)
end
/-! Out of the graph's own tests. -/
theorem allF_get {f : Nat → Bool} {m : Nat} (h : allF f m 0 = true) {j : Nat} (hj : j < m) : f j = true := by have := allF_at h j hj; rwa [Nat.zero_add] at this
theorem isLab_arcs {l : Lb} (h : isLab l = true) : ∀ a, a ∈ l.2.2 → okArc l.1.toNat l.2.1.toNat a := by
  have h0 := isLab_ok h
  unfold isLab at h
  rw [Bool.and_eq_true, Bool.and_eq_true] at h
  intro a ha
  obtain ⟨k, hk⟩ := List.getElem?_of_mem ha
  have h1 := allF_get h.2.2 (List.getElem?_eq_some_iff.1 hk).1
  unfold arcB at h1
  rw [Bool.and_eq_true, at3_of hk] at h1
  have h2 := h1.1
  unfold arcOk at h2
  rw [decide_eq_true_eq] at h2
  unfold okArc
  omega
end Go.Proofs.YtcilgihmaaobeaaDoor
end

section
namespace Go.Sd
open Go.RowKit Go.Deep
/-- 'append(v, y)' where y has sz plain cells, as a run of the builtin. -/
theorem New.rowRun {P : Program} {α : Type} {e : TypeId} {sz : Nat} {f : α → List Value} (L : Lay sz f) (t ty : TypeId)
    (z : Value) (bytes : Nat) (ht : P.underlying t = some (.slice e)) (hinfo : (P.info? e).map (fun i => (i.zero, i.size, i.bytes)) = some (some z, sz, bytes)) (hz1 : z.cells.size = sz)
    {lo : Nat} {w : World} {v : Value} {xs : List α} (h0 : New (RowG e sz f) lo w v xs) (hlo : lo ≤ w.heap.size) (y : α) {bb : Nat} (c : Nat) (hcell : ∀ j u, (f y)[j]? = some u → w.cell? ⟨bb, j, none⟩ = some u)
    (hbytes : (xs.length + 1) * bytes ≤ 140737488355328) (h63 : xs.length + 1 ≤ 9223372036854775807) :
    ∃ a' n' c' w', (Builtin.append_ #[t, t] ty #[v, .slice (some ⟨bb, 0, none⟩) 1 c]).run P w = .ok (.slice a' n' c') w' ∧ New (RowG e sz f) lo w' (.slice a' n' c') (xs ++ [y]) ∧ Below lo w w' ∧ (∀ b, b < w.heap.size → b ∉ v.ownBlock.toList → w'.heap[b]? = w.heap[b]?) := by
  obtain ⟨i, hi, hzz⟩ := Option.map_eq_some_iff.1 hinfo
  simp only [Prod.mk.injEq] at hzz
  obtain ⟨hz, hsz, hby⟩ := hzz
  obtain ⟨F, ⟨how, rfl⟩, hnd, hge⟩ := h0
  have hvlt : ∀ k, v.ownBlock = some k → lo ≤ k ∧ k < w.heap.size := fun k hk => ⟨hge k (by simp [hk]), (how.lt k hk).2⟩
  obtain ⟨v', w', hrun, how', hg, _, hat⟩ := run_append_own_at (P := P) w 0 t ty e i z sz bytes ht hi hz hsz hby hz1 L.pos v xs.length (xs.flatMap f) how ⟨bb, 0, none⟩ 1 c (f y) (by rw [L.len]; omega)
    (by
      intro j u' hj
      have e : (⟨bb, 0, none⟩ : Addr).add j = ⟨bb, j, none⟩ := by unfold Addr.add; split <;> simp_all
      rw [e]
      exact hcell j u' hj)
    (fun u hu => L.one y u hu) h63 hbytes (Nat.zero_le _)
  have hR : RowG e sz f w' v' (xs ++ [y]) v'.ownBlock.toList := ⟨by simpa [List.flatMap_append] using how', rfl⟩
  obtain ⟨a', c', rfl⟩ := hR.slice
  refine ⟨a', _, c', w', hrun, ⟨_, hR, by cases (Value.slice a' (xs ++ [y]).length c').ownBlock <;> simp, ?_⟩, Below.of_grown hg hlo (fun k hk => (hvlt k hk).1), fun b hb hn => hg.block b hb (fun e => hn (by rw [← e]; simp))⟩
  intro b hb
  have hb2 : (Value.slice a' (xs ++ [y]).length c').ownBlock = some b := by simpa using hb
  rcases hat with hat | hat
  · rw [hat] at hb2; exact (hvlt b hb2).1
  · rw [hat] at hb2; simp at hb2; omega
theorem New.storeLow {α : Type} {R : OwnRel α} (hR : Held R) {lo : Nat} {w : World} {v : Value} {x : α} (h : New R lo w v x) {p : Addr} (hp : p.block < lo) (u : Value) : New R lo (w.setCell p u) v x := by
  obtain ⟨F, hF, hn, hge⟩ := h
  exact ⟨F, hR.keep _ _ _ _ _ hF fun b hb => Below.heap_setCell _ _ _ _ (fun e => by have := hge b hb; omega), hn, hge⟩
theorem CellsI.other {w : World} {B m : Nat} {f : Nat → Int} (h : CellsI w B m f) {p : Addr} (hp : p.block ≠ B) (u : Value) : CellsI (w.setCell p u) B m f := fun j hj =>
  ⟨(World.cell?_setCell_other _ _ _ _ (by intro e; exact hp (by rw [e]))).trans (h j hj).1, (World.frozen?_setCell _ _ _ _).trans (h j hj).2⟩
/-- An own slice of numbers by its cells. -/
theorem New.cellsI {e : TypeId} {lo : Nat} {w : World} {v : Value} {xs : List Int} (h : New (OInts e) lo w v xs) (h0 : 0 < xs.length) : ∃ b c, v = .slice (some ⟨b, 0, none⟩) xs.length c ∧ xs.length ≤ c ∧ lo ≤ b ∧ b < w.heap.size ∧ CellsI w b xs.length (fun i => xs.getD i 0) := by
  obtain ⟨b, c, hv, hc, hlo, hlt, _, _, _⟩ := h.int_at (List.getElem?_eq_getElem h0)
  refine ⟨b, c, hv, hc, hlo, hlt, fun i hi => ?_⟩
  obtain ⟨b', c', hv', _, _, _, hcl, hfr, _⟩ := h.int_at (List.getElem?_eq_getElem hi)
  have e : b' = b := by rw [hv] at hv'; simp at hv'; exact hv'.1.symm
  rw [e] at hcl hfr
  refine ⟨?_, hfr⟩
  show _ = some (Value.int .i64 (xs.getD i 0))
  rw [hcl]
  simp [List.getD, List.getElem?_eq_getElem hi]
end Go.Sd
namespace Go.Proofs.YtcilgihmaaobeaaDoor
open Go.RowKit Go.Deep Go.Sd
def lkey (a : Arc3) : Int := a.1 * 64 + a.2.2 * 16 + a.2.1
/-- A valid graph has few arcs. -/
theorem isLab_len {l : Lb} (h : isLab l = true) : l.2.2.length ≤ 768 := by
  have ho := isLab_arcs h
  have hb := isLab_ok h
  unfold isLab at h
  rw [Bool.and_eq_true, Bool.and_eq_true] at h
  have hL : l.1.toNat ≤ 3 := by omega
  have hS : l.2.1.toNat ≤ 12 := by omega
  have step : ∀ k a b, l.2.2[k]? = some a → l.2.2[k + 1]? = some b → lkey a < lkey b := by
    intro k a b ha hb
    have e1 := allF_get h.2.2 (List.getElem?_eq_some_iff.1 hb).1
    unfold arcB at e1
    rw [Nat.add_sub_cancel, at3_of ha, at3_of hb] at e1
    simp only [Bool.and_eq_true, Bool.or_eq_true, decide_eq_true_eq, Nat.add_one_ne_zero, false_or] at e1
    have hb1 := e1.2
    unfold before at hb1
    have o1 := ho a (List.mem_of_getElem? ha)
    have o2 := ho b (List.mem_of_getElem? hb)
    unfold okArc at o1 o2
    unfold lkey
    by_cases c1 : a.1 = b.1
    · rw [if_neg (by simp [c1])] at hb1
      by_cases c2 : a.2.2 = b.2.2
      · rw [if_neg (by simp [c2]), decide_eq_true_eq] at hb1; omega
      · rw [if_pos c2, decide_eq_true_eq] at hb1; omega
    · rw [if_pos c1, decide_eq_true_eq] at hb1; omega
  have key : ∀ (k : Nat) (a : Arc3), l.2.2[k]? = some a → (k : Int) ≤ lkey a := by
    intro k
    induction k with
    | zero =>
      intro a ha
      have o1 := ho a (List.mem_of_getElem? ha)
      unfold okArc at o1
      unfold lkey
      omega
    | succ k ih =>
      intro a ha
      have hk := (List.getElem?_eq_some_iff.1 ha).1
      have h1 := ih _ (List.getElem?_eq_getElem (show k < l.2.2.length by omega))
      have h2 := step k _ a (List.getElem?_eq_getElem (show k < l.2.2.length by omega)) ha
      omega
  by_cases h0 : l.2.2.length = 0
  · omega
  · have hk : l.2.2.length - 1 < l.2.2.length := by omega
    have h1 := key (l.2.2.length - 1) _ (List.getElem?_eq_getElem hk)
    have o1 := ho _ (List.getElem_mem hk)
    unfold okArc at o1
    unfold lkey at h1
    omega
end Go.Proofs.YtcilgihmaaobeaaDoor
end

section
namespace Go.Sd
open Go.RowKit Go.Deep
/-- The end of a slice of texts, where a slice at its capacity's end keeps its address. -/
theorem slot_tail {α : Type} {R : World → Value → α → Prop} {w : World} {b o n c : Nat} {xs : List α} {x : α} (h : SlOf R w (.slice (some ⟨b, o, none⟩) n c) (x :: xs)) : SlOf R w (.slice (some (if c = 1 then ⟨b, o, none⟩ else ⟨b, o + 1, none⟩)) (n - 1) (c - 1)) xs := by
  obtain ⟨vs, ⟨hl, a', c', hv, hnc, hcm, hn, hx⟩, hvl, hvr⟩ := h
  simp only [Value.slice.injEq] at hv
  obtain ⟨rfl, rfl, rfl⟩ := hv
  simp only [List.length_cons] at hvl
  refine ⟨vs.drop 1, ⟨by simp; omega, some (if c = 1 then ⟨b, o, none⟩ else ⟨b, o + 1, none⟩), c - 1, by simp, by simp; omega, by omega, (fun h => nomatch h), ?_⟩, by simp; omega, fun i u y hu hy => ?_⟩
  · by_cases hc1 : c = 1
    · left
      exact List.drop_eq_nil_of_le (by omega)
    · rcases hx with h0 | ⟨b', o', e, hb, hc⟩
      · left; simp [h0]
      · simp only [Option.some.injEq, Addr.mk.injEq] at e
        obtain ⟨rfl, rfl, -⟩ := e
        refine Or.inr ⟨b, o + 1, by rw [if_neg hc1], hb, fun i u hu => ?_⟩
        rw [List.getElem?_drop] at hu
        rw [Nat.add_assoc]
        exact hc (1 + i) u hu
  · rw [List.getElem?_drop] at hu
    exact hvr (1 + i) u y hu (by rw [Nat.add_comm 1 i, List.getElem?_cons_succ]; exact hy)
theorem txt_at {w : World} {v : Value} {xs : List ByteArray} (h : SlOf (ValR Value.string) w v xs) {k : Nat} {x : ByteArray} (hx : xs[k]? = some x) : ∃ b o c, v = .slice (some ⟨b, o, none⟩) xs.length c ∧ w.cell? ⟨b, o + k, none⟩ = some (.string x) := by
  obtain ⟨a, c, rfl, -, -, hc⟩ := h.shape
  obtain ⟨hk, -⟩ := List.getElem?_eq_some_iff.1 hx
  obtain ⟨b, o, rfl, -, hcl⟩ := hc (by omega)
  obtain ⟨u, hu, hux⟩ := hcl k x hx
  exact ⟨b, o, c, rfl, by rw [hu, show u = .string x from hux]⟩
end Go.Sd
namespace Go.Proofs.YtcilgihmaaobeaaDoor
open Go.RowKit Go.Deep Go.Sd
set_option linter.unusedSimpArgs false
theorem New.ofStrs {lo : Nat} {w : World} {v : Value} {d : Int} {F : List ByteArray} (h : New OStrs lo w v F) : New OSh lo w (.agg #[.int .i64 d, v]) (d, F) := by
  obtain ⟨G, hG, hf⟩ := h
  exact ⟨G, ⟨v, rfl, hG⟩, hf⟩
/-- A shift as the draws make it: small. -/
def SmSh (z : Sh) : Prop := 0 ≤ z.1 ∧ z.1 ≤ 9 ∧ z.2.length ≤ 9 ∧ ∀ f, f ∈ z.2 → f.size ≤ 8
theorem tail1 {b o n c : Nat} (h1 : 1 ≤ n) (w : World) : (Instr.slice 48 (.slice (some ⟨b, o, none⟩) n c) (some (.int .i64 1)) none none).run Tryd.prog w = .ok (.slice (some (if c = 1 then ⟨b, o, none⟩ else ⟨b, o + 1, none⟩)) (n - 1) (c - 1)) w := by
  have h2 : (1 : Int) ≤ (n : Int) := by omega
  by_cases e : c = 1
  · rw [if_pos e]
    simp [go_sem, h2, e]
  · rw [if_neg e]
    simp [go_sem, h2, e]
set_option maxHeartbeats 4000000 in
set_option maxRecDepth 100000 in
theorem ParseShift_c {w : World} {t : ByteArray} {d : Nat} {F : List ByteArray} (ht : t.size ≤ 100) (hsp : splitB t 32 = fmtN d :: F) (h9 : d ≤ 9) (hF : F.length ≤ 8) (hf : ∀ f, f ∈ F → f.size ≤ 8) :
    Calls Tryd.prog 83 #[.string t] w fun e w' => ∃ (v : Value) (b : Bool) (z : Sh), e = .returned (.tuple #[v, .bool b]) ∧ SmSh z ∧ New OSh w.heap.size w' v z ∧ Below w.heap.size w w' := by
  have HS := Lib.hid (fun w1 => (show Calls Tryd.prog 90 #[.string t, .int .u8 32] w1 (Makes OTxt w1 (fmtN d :: F)) from by rw [← hsp]; exact SplitByte_c (w := w1) (s := t) (c := 32) (by omega) (by omega)))
  have HPI := Lib.hid (fun w1 => ParseInt_dig (w := w1) h9)
  have HIs := Lib.hid (fun w1 v (h : ShR w1 v ((d : Int), F)) => spec_IsShift_c h (fun f h => by have := hf f h; omega))
  have HSm := Lib.hid (show SmSh ((d : Int), F) from ⟨by simp, by simp; omega, by simp; omega, hf⟩)
  have HSm0 := Lib.hid (show SmSh (0, []) from ⟨by simp, by simp, by simp, by simp⟩)
  have HF := Lib.hid hF
  generalize shiftM ((d : Int), F) = ok at HIs
  obtain ⟨wA, eA, hA0⟩ : ∃ wA, wA = w.alloc (.cells #[.int .i64 0, .slice none 0 0] 92) ∧ Below w.heap.size w wA := ⟨_, rfl, (Below.refl _ _).alloc (Nat.le_refl _) _⟩
  have R0 := Lib.hid (show wA.cell? ⟨w.heap.size, 0, none⟩ = some (.int .i64 0) from by rw [eA]; simp [go_sem])
  have R1 := Lib.hid (show wA.cell? ⟨w.heap.size, 1, none⟩ = some (.slice none 0 0) from by rw [eA]; simp [go_sem])
  have F0 := Lib.hid (show wA.frozen? ⟨w.heap.size, 0, none⟩ = false from by rw [eA]; simp [go_sem])
  have F1 := Lib.hid (show wA.frozen? ⟨w.heap.size, 1, none⟩ = false from by rw [eA]; simp [go_sem])
  have zA : w.heap.size < wA.heap.size := by rw [eA]; simp
  have HA := Lib.hid hA0
  have eW := eA.symm
  clear eA hA0 hsp hF hf
  go_enter Tryd.func83, Tryd.ntmps83
  go_wp2_with fail
  (with_reducible refine (HS.out _).mono ?_)
  rintro e w1 ⟨vp, rfl, hn, hb1⟩
  obtain ⟨pb, po, pc, rfl, g0⟩ := txt_at (New.txt hn) (k := 0) (x := fmtN d) rfl
  rw [Nat.add_zero] at g0
  have htl := slot_tail (New.txt hn)
  have hcl : (fmtN d :: F).length = F.length + 1 := rfl
  rw [hcl] at htl hn ⊢
  rw [Nat.add_sub_cancel] at htl
  replace R0 := Lib.hid ((hb1.cell (p := ⟨w.heap.size, 0, none⟩) zA).trans R0.out)
  replace R1 := Lib.hid ((hb1.cell (p := ⟨w.heap.size, 1, none⟩) zA).trans R1.out)
  replace F0 := Lib.hid ((hb1.frozen (p := ⟨w.heap.size, 0, none⟩) zA).trans F0.out)
  replace F1 := Lib.hid ((hb1.frozen (p := ⟨w.heap.size, 1, none⟩) zA).trans F1.out)
  replace HA := Lib.hid (HA.out.trans (hb1.mono HA.out.size))
  replace zA : w.heap.size < w1.heap.size := Nat.lt_of_lt_of_le zA hb1.size
  have HT := Lib.hid htl
  clear hb1 eW HS hn htl hcl
  go_wp2_with fail
  (with_reducible refine (HPI.out _).mono ?_)
  rintro e w2 ⟨rfl, hb2⟩
  replace g0 := (hb2.cell (p := ⟨pb, po, none⟩) (World.block_lt_of_cell? _ _ g0)).trans g0
  replace R0 := Lib.hid ((hb2.cell (p := ⟨w.heap.size, 0, none⟩) zA).trans R0.out)
  replace R1 := Lib.hid ((hb2.cell (p := ⟨w.heap.size, 1, none⟩) zA).trans R1.out)
  replace F0 := Lib.hid ((hb2.frozen (p := ⟨w.heap.size, 0, none⟩) zA).trans F0.out)
  replace F1 := Lib.hid ((hb2.frozen (p := ⟨w.heap.size, 1, none⟩) zA).trans F1.out)
  replace HA := Lib.hid (HA.out.trans (hb2.mono HA.out.size))
  replace zA : w.heap.size < w2.heap.size := Nat.lt_of_lt_of_le zA hb2.size
  replace HT := Lib.hid (SlOf.frame (fun _ _ _ _ h _ => h) _ _ _ _ HT.out hb2)
  have hsl := fun w' => tail1 (b := pb) (o := po) (n := F.length + 1) (c := pc) (by omega) w'
  rw [Nat.add_sub_cancel] at hsl
  obtain ⟨ad, had⟩ : ∃ y, y = (if pc = 1 then (⟨pb, po, none⟩ : Addr) else ⟨pb, po + 1, none⟩) := ⟨_, rfl⟩
  rw [← had] at HT
  simp only [← had] at hsl
  have hbe : Below w2.heap.size w2 (w2.alloc (.cells #[] 9)) := (Below.refl _ _).alloc (Nat.le_refl _) _
  have HTz := Lib.hid (SlOf.frame (fun _ _ _ _ h _ => h) _ _ _ _ HT.out hbe)
  have HBe := Lib.hid hbe
  clear hb2 HPI had hbe
  go_wp2_with (first | (at_builtin; refine wpl_append_vals (f := Value.string) (fun _ => rfl) rfl (.tmp 18) (.tmp 20) 48 rfl 9 (.string ⟨#[]⟩) 16 Tryd.underlying48 infoTx rfl (New.empty (R := OValR Value.string) (lo := w2.heap.size) w2 (Nat.le_refl _)) (by simp) HTz.out rfl rfl (by have := HF.out; simp only [List.length_nil]; omega) (by have := HF.out; simp only [List.length_nil]; omega) ?_; intro v4 w4 hn4 _ _ hb4; obtain ⟨xa, xn, xc, rfl⟩ := hn4.slice; have Hn4 := Lib.hid hn4; have HB4 := Lib.hid (HBe.out.trans hb4); clear hn4 hb4) | fail)
  have hn4 : New OStrs w2.heap.size w4 (.slice xa xn xc) F := Hn4.out
  obtain ⟨w5, e5, hb5, c0, c1, m5⟩ := boxA_ex w4 92 (.int .i64 (d : Int)) (.slice xa xn xc)
  rw [e5]
  have hn5 : New OStrs w2.heap.size w5 (.slice xa xn xc) F := New.keep OStrs.kept hn4 hb5 (Nat.le_refl _)
  (with_reducible refine (HIs.out w5 (.agg #[.int .i64 (d : Int), .slice xa xn xc]) (show ShR w5 (.agg #[.int .i64 (d : Int), .slice xa xn xc]) ((d : Int), F) from New.sh (New.ofStrs hn5))).mono ?_)
  rintro e w6 ⟨rfl, hb6⟩
  have hn6 : New OStrs w2.heap.size w6 (.slice xa xn xc) F := New.keep OStrs.kept hn5 hb6 (Nat.le_refl _)
  have hb26 : Below w2.heap.size w2 w6 := (HB4.out.trans (hb5.mono HB4.out.size)).trans (hb6.mono (Nat.le_trans HB4.out.size hb5.size))
  replace c0 := (hb6.cell (p := ⟨w4.heap.size, 0, none⟩) m5).trans c0
  replace c1 := (hb6.cell (p := ⟨w4.heap.size, 1, none⟩) m5).trans c1
  replace R0 := Lib.hid ((hb26.cell (p := ⟨w.heap.size, 0, none⟩) zA).trans R0.out)
  replace R1 := Lib.hid ((hb26.cell (p := ⟨w.heap.size, 1, none⟩) zA).trans R1.out)
  replace F0 := Lib.hid ((hb26.frozen (p := ⟨w.heap.size, 0, none⟩) zA).trans F0.out)
  replace F1 := Lib.hid ((hb26.frozen (p := ⟨w.heap.size, 1, none⟩) zA).trans F1.out)
  replace HA := Lib.hid (HA.out.trans (hb26.mono HA.out.size))
  have Hn6 := Lib.hid hn6
  have hne : w.heap.size ≠ w4.heap.size := by have := HB4.out.size; omega
  clear hn4 hn5 hn6 hb5 hb6 hb26 e5 hsl HIs Hn4 HT HTz HBe HB4 g0 h9 ht
  cases ok with
  | false =>
    have r0 := R0.out
    have r1 := R1.out
    have t0 := F0.out
    have t1 := F1.out
    go_wp2
    have s0 := World.cell?_setCell_same w6 _ (.int .i64 0) R0.out
    have u1 := (World.cell?_setCell_other _ ⟨w.heap.size, 0, none⟩ _ (.int .i64 0) (by simp)).trans R1.out
    have s1 := World.cell?_setCell_same _ _ (.slice none 0 0) u1
    have s2 := (World.cell?_setCell_other _ ⟨w.heap.size, 1, none⟩ ⟨w.heap.size, 0, none⟩ (.slice none 0 0) (by simp)).trans s0
    refine bodyPost_ret (v := .tuple #[.agg #[.int .i64 0, .slice none 0 0], .bool false]) (by simp [results, Tryd.results83, go_sem, s0, s1, s2]) rfl ?_
    exact ⟨_, false, (0, []), rfl, HSm0.out, New.ofStrs (New.nil _ _), ((HA.out.setCell (p := ⟨w.heap.size, 0, none⟩) (by simp) _).setCell (p := ⟨w.heap.size, 1, none⟩) (by simp) _)⟩
  | true =>
    have r0 := R0.out
    have r1 := R1.out
    have t0 := F0.out
    have t1 := F1.out
    go_wp2
    have s0 := World.cell?_setCell_same w6 _ (.int .i64 (d : Int)) R0.out
    have u1 := (World.cell?_setCell_other _ ⟨w.heap.size, 0, none⟩ _ (.int .i64 (d : Int)) (by simp)).trans R1.out
    have s1 := World.cell?_setCell_same _ _ (.slice xa xn xc) u1
    have s2 := (World.cell?_setCell_other _ ⟨w.heap.size, 1, none⟩ ⟨w.heap.size, 0, none⟩ (.slice xa xn xc) (by simp)).trans s0
    refine bodyPost_ret (v := .tuple #[.agg #[.int .i64 (d : Int), .slice xa xn xc], .bool true]) (by simp [results, Tryd.results83, go_sem, s0, s1, s2]) rfl ?_
    exact ⟨_, true, ((d : Int), F), rfl, HSm.out, New.ofStrs ((New.storeLow OStrs.held (New.storeLow OStrs.held Hn6.out zA _) zA _).mono (Nat.le_of_lt zA)), ((HA.out.setCell (p := ⟨w.heap.size, 0, none⟩) (by simp) _).setCell (p := ⟨w.heap.size, 1, none⟩) (by simp) _)⟩
end Go.Proofs.YtcilgihmaaobeaaDoor
end

section
namespace Go.Sd
open Go.RowKit Go.Deep
section
variable {P : Program} {α : Type} {lo sz : Nat} {f : α → List Value} {w : World} {v : Value} {e : TypeId} {rs : List Res}
theorem flatMap_take (L : Lay sz f) : ∀ (xs : List α) (k : Nat), k ≤ xs.length → (xs.take k).flatMap f = (xs.flatMap f).take (k * sz)
  | [], k, h => by simp
  | x :: xs, 0, _ => by simp
  | x :: xs, k + 1, h => by
    have ih := flatMap_take L xs k (by simpa using h)
    have e : (k + 1) * sz = (f x).length + k * sz := by rw [L.len, Nat.add_mul]; omega
    rw [List.take_succ_cons, List.flatMap_cons, List.flatMap_cons, ih, e, List.take_length_add_append]
/-- A slice of such elements that is only read. -/
def RowRd (f : α → List Value) (w : World) (v : Value) (ys : List α) : Prop := ∃ a c, v = .slice a ys.length c ∧ (a = none → ys.length = 0 ∧ c = 0) ∧ ∀ ad, a = some ad → ∀ j u, (ys.flatMap f)[j]? = some u → w.cell? (ad.add j) = some u
theorem Sep.preRow (L : Lay sz f) {b n c : Nat} {xs : List α} (h : Sep lo w (Res.row e sz f (.slice (some ⟨b, 0, none⟩) n c) xs :: rs)) {k : Nat} (hk : k ≤ xs.length) : Sep lo w (Res.row e sz f (.slice (some ⟨b, 0, none⟩) k c) (xs.take k) :: rs) := by
  obtain ⟨F, ⟨G, H, rfl, ⟨h1, hG⟩, h2⟩, hn, hl⟩ := h
  obtain ⟨hul, hor⟩ := h1
  refine ⟨G ++ H, ⟨G, H, rfl, ⟨⟨?_, ?_⟩, hG⟩, h2⟩, hn, hl⟩
  · rw [flatMap_len L]
  · rcases hor with ⟨h0, _⟩ | ⟨g, cap, cur, hv, hg, hh, hnc, hcm, hcs, htake⟩
    · cases h0
    · simp only [Value.slice.injEq, Option.some.injEq, Addr.mk.injEq] at hv
      obtain ⟨⟨rfl, -, -⟩, rfl, rfl⟩ := hv
      refine .inr ⟨b, c, cur, by simp; omega, hg, hh, by simp; omega, hcm, hcs, ?_⟩
      rw [flatMap_take L xs k hk, ← htake, List.take_take, List.length_take]
      congr 1
      rw [Nat.min_eq_left hk]
      have := Nat.mul_le_mul_right sz hk
      omega
/-- append of a slice to the first of some own things. -/
theorem Sep.pushRow (L : Lay sz f) (t ty : TypeId) (z : Value) (bytes : Nat) (ht : P.underlying t = some (.slice e)) (hinfo : (P.info? e).map (fun i => (i.zero, i.size, i.bytes)) = some (some z, sz, bytes)) (hz1 : z.cells.size = sz)
    {xs ys : List α} (h : Sep lo w (Res.row e sz f v xs :: rs)) (hlo : lo ≤ w.heap.size) {v2 : Value} (h2 : RowRd f w v2 ys) (hbytes : (xs.length + ys.length) * bytes ≤ 140737488355328) (h63 : xs.length + ys.length ≤ 9223372036854775807) :
    ∃ v' w', (Builtin.append_ #[t, t] ty #[v, v2]).run P w = .ok v' w' ∧ Sep lo w' (Res.row e sz f v' (xs ++ ys) :: rs) ∧ Below lo w w' := by
  obtain ⟨i, hi, hzz⟩ := Option.map_eq_some_iff.1 hinfo
  simp only [Prod.mk.injEq] at hzz
  obtain ⟨hz, hsz, hby⟩ := hzz
  have h0 := h
  obtain ⟨G, hG, hf, hK⟩ := h.head
  have hG1 : RowG e sz f w v xs G := hG
  obtain ⟨how, eG⟩ := hG1
  obtain ⟨a, c, rfl, hnil, hc⟩ := h2
  cases a with
  | none =>
    obtain ⟨hy, rfl⟩ := hnil rfl
    rw [List.length_eq_zero_iff] at hy
    subst hy
    refine ⟨v, w, run_append_owned_none (P := P) w 0 t ty e i sz ht hi v _ _ how, by rw [List.append_nil]; exact h0, Below.refl _ _⟩
  | some ad =>
    obtain ⟨v', w', hrun, how', hg, _, hat⟩ := run_append_own_at (P := P) w 0 t ty e i z sz bytes ht hi hz hsz hby hz1 L.pos v xs.length (xs.flatMap f) how ad ys.length c (ys.flatMap f) (flatMap_len L ys) (hc ad rfl)
      (fun u hu => by
        obtain ⟨y, _, hy⟩ := List.mem_flatMap.1 hu
        exact L.one y u hy) h63 hbytes (Nat.zero_le _)
    refine ⟨v', w', hrun, hK w' (Res.row e sz f v' (xs ++ ys)) v'.ownBlock.toList ⟨by simpa using how', rfl⟩ (by cases v'.ownBlock <;> simp) (fun b hb2 => ?_) hlo fun b hlt hn => ?_, (Below.refl lo w).grown hg (by omega) fun k hk => hf.2 k (by rw [eG]; simp [hk])⟩
    · simp at hb2
      rcases hat with hat | hat
      · rw [hat] at hb2; exact Or.inl (by rw [eG]; simp [hb2])
      · rw [hat] at hb2; simp at hb2; exact Or.inr (by omega)
    · refine hg.block b hlt fun e2 => hn ?_
      rw [eG]; simp [← e2]
theorem RowRd.frame {w' : World} {ys : List α} (h : RowRd f w v ys) (hb : Below w.heap.size w w') (hlt : ∀ ad n c, v = .slice (some ad) n c → ad.block < w.heap.size) : RowRd f w' v ys := by
  obtain ⟨a, c, rfl, h1, h2⟩ := h
  refine ⟨a, c, rfl, h1, fun ad e j u hu => ?_⟩
  have := h2 ad e j u hu
  have hbk : (ad.add j).block = ad.block := by unfold Addr.add; split <;> rfl
  exact (hb.cell (p := ad.add j) (by rw [hbk]; exact hlt ad _ _ (by rw [e]))).trans this
theorem flatMap_drop (L : Lay sz f) : ∀ (xs : List α) (k : Nat), k ≤ xs.length → (xs.drop k).flatMap f = (xs.flatMap f).drop (k * sz)
  | [], k, h => by simp
  | x :: xs, 0, _ => by simp
  | x :: xs, k + 1, h => by
    have ih := flatMap_drop L xs k (by simpa using h)
    have e : (k + 1) * sz = (f x).length + k * sz := by rw [L.len, Nat.add_mul]; omega
    rw [List.drop_succ_cons, ih, List.flatMap_cons, e, List.drop_length_add_append]
theorem flatMap_get (L : Lay sz f) {xs : List α} {j : Nat} {u : Value} (h : (xs.flatMap f)[j]? = some u) : ∃ i r x, j = i * sz + r ∧ xs[i]? = some x ∧ (f x)[r]? = some u := by
  have hp := L.pos
  have hj := (List.getElem?_eq_some_iff.1 h).1
  rw [flatMap_len L] at hj
  have hi : j / sz < xs.length := Nat.div_lt_of_lt_mul (by rw [Nat.mul_comm]; exact hj)
  obtain ⟨x, hx, _⟩ := at_lt hi
  have hr : j % sz < (f x).length := by rw [L.len]; exact Nat.mod_lt _ hp
  have e1 : j / sz * sz + j % sz = j := by rw [Nat.mul_comm]; exact Nat.div_add_mod j sz
  refine ⟨j / sz, j % sz, x, e1.symm, hx, ?_⟩
  have h2 := flatMap_at L hx (List.getElem?_eq_getElem hr)
  rw [e1, h] at h2
  rw [List.getElem?_eq_getElem hr]
  exact h2.symm
/-- The end of an own slice, read. -/
theorem Sep.dropRd (L : Lay sz f) {b n c : Nat} {xs : List α} (h : Sep lo w (Res.row e sz f (.slice (some ⟨b, 0, none⟩) n c) xs :: rs)) {k : Nat} (hk : k ≤ xs.length) (c' : Nat) : RowRd f w (.slice (some ⟨b, k * sz, none⟩) (xs.length - k) c') (xs.drop k) := by
  refine ⟨some ⟨b, k * sz, none⟩, c', by rw [List.length_drop], (fun h => by cases h), fun ad e j u hu => ?_⟩
  cases e
  rw [flatMap_drop L xs k hk, List.getElem?_drop] at hu
  obtain ⟨i, r, x, hj, hx, hr⟩ := flatMap_get L hu
  have h0 : 0 < xs.length := by have := (List.getElem?_eq_some_iff.1 hx).1; omega
  obtain ⟨a', c2, hv, hq⟩ := h.rowAt L
  obtain ⟨b', e', _, _, hcell⟩ := hq h0
  subst e'
  simp at hv
  obtain ⟨rfl, -, -⟩ := hv
  have := hcell i x r u hx hr
  have e2 : (⟨b, k * sz, none⟩ : Addr).add j = ⟨b, i * sz + r, none⟩ := by
    unfold Addr.add
    simp [hj]
    intro h0
    omega
  rw [e2]
  exact this
/-- An own slice, read. -/
theorem Sep.rowRd (L : Lay sz f) {xs : List α} (h : Sep lo w (Res.row e sz f v xs :: rs)) : RowRd f w v xs ∧ ∀ ad n c, v = .slice (some ad) n c → ad.block < w.heap.size := by
  obtain ⟨G, hG, -, -⟩ := h.head
  have hG1 : RowG e sz f w v xs G := hG
  rcases hG1.1.2 with ⟨rfl, h0⟩ | ⟨g, cap, cur, rfl, _, hg, _, _, _, _⟩
  · refine ⟨⟨none, 0, by rw [h0], fun _ => ⟨h0, rfl⟩, fun ad e => by cases e⟩, fun ad n c e => by cases e⟩
  · refine ⟨⟨_, _, rfl, (fun h => by cases h), fun ad e j u hu => ?_⟩, fun ad n c e => ?_⟩
    · cases e
      exact hG1.1.cells (g := g) rfl _ _ hu
    · simp at e
      rw [← e.1]
      exact (hG1.1.lt g rfl).2
end
end Go.Sd
end

section
namespace Go.Proofs.YtcilgihmaaobeaaDoor
open Go.RowKit Go.Deep Go.Sd
set_option linter.unusedSimpArgs false
/-- Where an arc belongs among the first m of some. -/
def posA (x : Arc3) (out : List Arc3) : Nat → Nat
  | 0 => 0
  | m + 1 => if before x (at3 out m) = true then posA x out m else m + 1
def insA (out : List Arc3) (x : Arc3) : List Arc3 :=
  if 0 < posA x out out.length ∧ at3 out (posA x out out.length - 1) = x then out else out.take (posA x out out.length) ++ [x] ++ out.drop (posA x out out.length)
def sortM (xs : List Arc3) : List Arc3 := xs.foldl insA []
theorem posA_le (x : Arc3) (out : List Arc3) : ∀ m, posA x out m ≤ m
  | 0 => Nat.le_refl _
  | m + 1 => by
    unfold posA
    split
    · exact Nat.le_succ_of_le (posA_le x out m)
    · exact Nat.le_refl _
theorem insA_len (out : List Arc3) (x : Arc3) : (insA out x).length ≤ out.length + 1 := by
  have := posA_le x out out.length
  unfold insA
  split
  · omega
  · simp
    omega
theorem sortM_len (xs : List Arc3) : (sortM xs).length ≤ xs.length := by
  have key : ∀ (xs out : List Arc3), (xs.foldl insA out).length ≤ out.length + xs.length := by
    intro xs
    induction xs with
    | nil => intro out; simp
    | cons x xs ih =>
      intro out
      have h1 := ih (insA out x)
      have h2 := insA_len out x
      simp only [List.foldl_cons, List.length_cons]
      omega
  have := key xs []
  simpa [sortM] using this
theorem sortM_take {xs : List Arc3} {k : Nat} {x : Arc3} (h : xs[k]? = some x) : sortM (xs.take (k + 1)) = insA (sortM (xs.take k)) x := by
  unfold sortM
  rw [← take_snoc' h, List.foldl_append]
  rfl
/-- What is in order already stays. -/
theorem sortM_id : ∀ (n : Nat) {xs : List Arc3}, xs.length = n → (xs.Pairwise fun a b => before b a = false ∧ a ≠ b) → sortM xs = xs
  | 0, xs, h, _ => by rw [List.length_eq_zero_iff] at h; subst h; rfl
  | n + 1, xs, h, hs => by
    rcases List.eq_nil_or_concat xs with e | ⟨u, x, e⟩
    · subst e; cases h
    · rw [List.concat_eq_append] at e
      subst e
      rw [List.pairwise_append] at hs
      have ih := sortM_id n (by simpa using h) hs.1
      unfold sortM at ih ⊢
      rw [List.foldl_append, ih]
      show insA u x = u ++ [x]
      have hp : posA x u u.length = u.length := by
        cases hu : u.length with
        | zero => rfl
        | succ m =>
          unfold posA
          have hm : m < u.length := by omega
          rw [at3_of (List.getElem?_eq_getElem hm), if_neg (by rw [(hs.2.2 _ (List.getElem_mem hm) x (by simp)).1]; decide)]
      unfold insA
      rw [hp, if_neg]
      · simp
      · rintro ⟨h0, h1⟩
        have hm : u.length - 1 < u.length := by omega
        rw [at3_of (List.getElem?_eq_getElem hm)] at h1
        exact (hs.2.2 _ (List.getElem_mem hm) x (by simp)).2 h1
theorem New.emptyRow {α : Type} {sz : Nat} {f : α → List Value} (e : TypeId) (w : World) : New (RowG e sz f) w.heap.size (w.alloc (.cells #[] e)) (.slice (some ⟨w.heap.size, 0, none⟩) 0 0) [] :=
  ⟨[w.heap.size], ⟨⟨by simp, .inr ⟨w.heap.size, 0, #[], rfl, Nat.zero_le _, heap_alloc_new w _, Nat.le_refl _, by decide, by simp, by simp⟩⟩, rfl⟩, by simp [Fresh]⟩
/-- The end of a slice of arcs. -/
theorem tail_slice {b m c p : Nat} (hp : p ≤ m) (w : World) : (Instr.slice 24 (.slice (some ⟨b, 0, none⟩) m c) (some (.int .i64 (p : Int))) none none).run Tryd.prog w = .ok (.slice (some (if c = p then ⟨b, 0, none⟩ else ⟨b, p * 3, none⟩)) (m - p) (c - p)) w := by
  have h0 : (0 : Int) ≤ (p : Int) := by omega
  have h1 : (p : Int) ≤ (m : Int) := by omega
  by_cases e : c = p
  · rw [if_pos e]
    simp [go_sem, h0, h1, e]
  · rw [if_neg e]
    simp [go_sem, h0, h1, e]
theorem head_slice {b m c p : Nat} (hp : p ≤ c) (w : World) : (Instr.slice 24 (.slice (some ⟨b, 0, none⟩) m c) none (some (.int .i64 (p : Int))) none).run Tryd.prog w = .ok (.slice (some ⟨b, 0, none⟩) p c) w := by
  have h0 : (0 : Int) ≤ (p : Int) := by omega
  have h1 : (p : Int) ≤ (c : Int) := by omega
  by_cases e : c = 0
  · subst e
    obtain rfl : p = 0 := by omega
    simp [go_sem]
  · simp [go_sem, h0, h1, e]
theorem row_cap {lo : Nat} {w : World} {b m c : Nat} {xs : List Arc3} {rs : List Res} (h : Sep lo w (Res.row 80 3 acell (.slice (some ⟨b, 0, none⟩) m c) xs :: rs)) : xs.length ≤ c := by
  by_cases h0 : 0 < xs.length
  · obtain ⟨G, hG, -, -⟩ := h.head
    obtain ⟨g, c', hv, -, hc, -⟩ := RowG.at acell_lay hG h0
    simp at hv
    omega
  · omega
theorem tail_rd {lo : Nat} {w : World} {b m c p : Nat} {xs : List Arc3} {rs : List Res} (h : Sep lo w (Res.row 80 3 acell (.slice (some ⟨b, 0, none⟩) m c) xs :: rs)) (hm : xs.length = m) (hp : p ≤ m) : RowRd acell w (.slice (some (if c = p then ⟨b, 0, none⟩ else ⟨b, p * 3, none⟩)) (m - p) (c - p)) (xs.drop p) := by
  subst hm
  by_cases e : c = p
  · rw [if_pos e]
    have hmc : xs.length ≤ c := by
      by_cases h0 : 0 < xs.length
      · obtain ⟨G, hG, -, -⟩ := h.head
        obtain ⟨g, c', hv, -, hc, -⟩ := RowG.at acell_lay hG h0
        simp at hv
        omega
      · omega
    have hd : xs.drop p = [] := List.drop_eq_nil_of_le (by omega)
    rw [hd]
    refine ⟨_, _, by rw [show xs.length - p = ([] : List Arc3).length by simp; omega], (fun h => by cases h), fun ad _ j u hu => by simp at hu⟩
  · rw [if_neg e]
    exact h.dropRd acell_lay hp _
set_option maxHeartbeats 8000000 in
set_option maxRecDepth 100000 in
theorem l14Sort_c {w : World} {v : Value} {xs : List Arc3} (h : ArcsR w v xs) (hl : xs.length ≤ 1048576) :
    Calls Tryd.prog 76 #[v] w (Makes (RowA 80) w (sortM xs)) := by
  obtain ⟨-, va, vc, rfl, -, -, -, hcell⟩ := h
  have Hcell := Lib.hid hcell
  obtain ⟨n, hn⟩ : ∃ n, n = xs.length := ⟨_, rfl⟩
  have Hn := Lib.hid hn
  rw [← hn] at Hcell hl ⊢
  have HS0 := Lib.hid (show Sep w.heap.size (w.alloc (.cells #[] 80)) [Res.row 80 3 acell (.slice (some ⟨w.heap.size, 0, none⟩) 0 0) []] from by
    exact Sep.one RowG.held (New.emptyRow 80 w))
  obtain ⟨w1, e1⟩ : ∃ x, x = w.alloc (.cells #[] 80) := ⟨_, rfl⟩
  rw [← e1] at HS0
  have HB0 := Lib.hid (show Below w.heap.size w w1 from by rw [e1]; exact (Below.refl _ _).alloc (Nat.le_refl _) _)
  have e1s := e1.symm
  clear hcell hn e1
  go_enter Tryd.func76, Tryd.ntmps76
  go_wp2
  clear e1s
  go_loopg [3, 4] n (fun g ov i wr => ∃ (k b c : Nat), ov = .slice (some ⟨b, 0, none⟩) (sortM (xs.take k)).length c ∧ i = .int .i64 k ∧ k + g = n ∧ Hid (Sep w.heap.size wr [Res.row 80 3 acell (.slice (some ⟨b, 0, none⟩) (sortM (xs.take k)).length c) (sortM (xs.take k))]) ∧ Hid (Below w.heap.size w wr))
  case atStart => exact ⟨0, _, _, rfl, rfl, by omega, HS0, HB0⟩
  case round =>
    clear HS0 HB0
    obtain ⟨k, b, c, rfl, rfl, hk, HS, HB⟩ := hrel
    obtain ⟨wA, rfl⟩ : ∃ x, x = wr := ⟨_, rfl⟩
    have zA := HB.out.size
    have hol : (sortM (xs.take k)).length ≤ k := Nat.le_trans (sortM_len _) (by simp; omega)
    by_cases hlt : k < n
    · obtain ⟨g, rfl⟩ : ∃ x, gk = x + 1 := ⟨gk - 1, by omega⟩
      obtain ⟨lb, lo, rfl, hlb, hx⟩ := Hcell.out (by omega)
      have hki : (k : Int) < (n : Int) := by omega
      obtain ⟨x, hxk, _⟩ := at_lt (xs := xs) (k := k) (by rw [← Hn.out]; exact hlt)
      obtain ⟨f0, f1, f2⟩ := hx k x hxk
      have HI := Lib.hid (sortM_take hxk)
      obtain ⟨out, hout⟩ : ∃ o, o = sortM (xs.take k) := ⟨_, rfl⟩
      rw [← hout] at HS HI hol ⊢
      have Hout := Lib.hid hout
      have HL := Lib.hid (fun (w' : World) (hb' : Below w.heap.size w w') => (show w'.cell? ⟨lb, lo + k * 3, none⟩ = some (.int .i64 x.1) ∧ w'.cell? ⟨lb, lo + k * 3 + 1, none⟩ = some (.int .i64 x.2.1) ∧ w'.cell? ⟨lb, lo + k * 3 + 2, none⟩ = some (.int .i64 x.2.2) from ⟨(hb'.cell (p := ⟨lb, lo + k * 3, none⟩) hlb).trans f0, (hb'.cell (p := ⟨lb, lo + k * 3 + 1, none⟩) hlb).trans f1, (hb'.cell (p := ⟨lb, lo + k * 3 + 2, none⟩) hlb).trans f2⟩))
      have HO := Lib.hid (fun (i : Nat) (hi : i < out.length) => (show b < wA.heap.size ∧ wA.cell? ⟨b, i * 3, none⟩ = some (.int .i64 (at3 out i).1) ∧ wA.cell? ⟨b, i * 3 + 1, none⟩ = some (.int .i64 (at3 out i).2.1) ∧ wA.cell? ⟨b, i * 3 + 2, none⟩ = some (.int .i64 (at3 out i).2.2) from by
        obtain ⟨_, _, hv, hq⟩ := HS.out.rowAt acell_lay
        obtain ⟨b', e', _, hbl, hcl⟩ := hq (by omega)
        subst e'
        simp at hv
        obtain ⟨rfl, rfl⟩ := hv
        have hy : out[i]? = some (at3 out i) := by rw [List.getElem?_eq_getElem hi, at3_of (List.getElem?_eq_getElem hi)]
        exact ⟨hbl, hcl i _ 0 _ hy rfl, hcl i _ 1 _ hy rfl, hcl i _ 2 _ hy rfl⟩))
      have hcap := row_cap HS.out
      clear f0 f1 f2 hx hxk hout
      obtain ⟨m, hm⟩ : ∃ m, m = out.length := ⟨_, rfl⟩
      have Hm := Lib.hid hm
      rw [← hm] at hol hcap ⊢
      clear hm
      obtain ⟨x0, x1, x2⟩ := x
      simp only at HL
      go_wp2
      go_loopg [5] (m + 1) (fun g i wr => ∃ (p : Nat), i = .int .i64 p ∧ p + 1 = g ∧ p ≤ m ∧ Hid (posA (x0, x1, x2) out m = posA (x0, x1, x2) out p) ∧ Hid (Below wA.heap.size wA wr))
      case atStart => exact ⟨m, rfl, rfl, Nat.le_refl _, Lib.hid rfl, Lib.hid (Below.refl _ _)⟩
      case round =>
        obtain ⟨p, rfl, hp, hpm, HP, HBi⟩ := hrel
        obtain ⟨wB, rfl⟩ : ∃ x, x = wr := ⟨_, rfl⟩
        have zB := HBi.out.size
        by_cases hp0 : p = 0
        · have HIns := Lib.hid (show insA out (x0, x1, x2) = out.take p ++ [(x0, x1, x2)] ++ out.drop p from by
            have e : posA (x0, x1, x2) out m = p := by rw [HP.out, hp0]; rfl
            unfold insA
            rw [← Hm.out, e, if_neg (by omega)])
          have t0 : decide (0 < p) = false := by simp; omega
          have t1 : ¬ 0 < p := by omega
          clear hp0
          go_wp2
          go_quiet (fail)
          rename_i nq
          have HBq := Lib.hid (below_drewN HBi.out nq)
          generalize wB.drewN nq = wB2 at HBq ⊢
          go_wp2
          go_quiet (fail)
          rename_i nq
          have HBc := Lib.hid (below_drewN HBq.out nq)
          generalize wB2.drewN nq = wC at HBc ⊢
          clear HBq HBi HP
          have hsC := HS.out.below HBc.out (Nat.le_refl _)
          have zC : w.heap.size ≤ wC.heap.size := Nat.le_trans zA HBc.out.size
          have hs2 := hsC.new RowG.held ((Below.refl _ _).alloc (Nat.le_refl _) (.cells #[] 80)) zC (New.emptyRow (sz := 3) (f := acell) 80 wC)
          obtain ⟨w2, e2⟩ : ∃ y, y = wC.alloc (.cells #[] 80) := ⟨_, rfl⟩
          rw [← e2] at hs2
          have hb2 : Below wC.heap.size wC w2 := by rw [e2]; exact (Below.refl _ _).alloc (Nat.le_refl _) _
          have z2 : w.heap.size ≤ w2.heap.size := Nat.le_trans zC hb2.size
          have hdr := tail_rd (p := p) hs2.swap rfl (by rw [← Hm.out]; exact hpm)
          rw [← Hm.out] at hdr
          have hsl := fun w' => tail_slice (b := b) (c := c) hpm w'
          obtain ⟨ad, had⟩ : ∃ y, y = (if c = p then (⟨b, 0, none⟩ : Addr) else ⟨b, p * 3, none⟩) := ⟨_, rfl⟩
          rw [← had] at hdr
          simp only [← had] at hsl
          clear had
          have hdl : (out.drop p).length = m - p := by rw [List.length_drop, ← Hm.out]
          obtain ⟨v3, w3, hr3, hs3, hb3⟩ := hs2.pushRow (P := Tryd.prog) acell_lay 24 24 (.agg #[.int .i64 0, .int .i64 0, .int .i64 0]) 24 Tryd.underlying24 infoA rfl z2 hdr (by rw [hdl, List.length_nil]; omega) (by rw [hdl, List.length_nil]; omega)
          rw [List.nil_append] at hs3
          have z3 : w.heap.size ≤ w3.heap.size := Nat.le_trans z2 hb3.size
          obtain ⟨ra, rc, er, -⟩ := hs3.rowAt acell_lay
          rw [hdl] at er
          subst er
          have Hr3 := Lib.hid hr3
          have HS3 := Lib.hid hs3
          have e2s := e2.symm
          have HB3 := Lib.hid (((HB.out.trans (HBc.out.mono zA)).trans (hb2.mono zC)).trans hb3)
          have hpI : (0 : Int) ≤ (p : Int) := by omega
          have hpmI : (p : Int) ≤ (m : Int) := by omega
          have hpc : p ≤ c := Nat.le_trans hpm hcap
          clear hsC hs2 hb2 hdr hr3 hs3 hb3 e2 hdl HBc HS HB
          go_wp2_with (first
            | (at_builtin; refine wpl_append_run rfl (.tmp 46) (.tmp 49) 24 rfl rfl rfl Hr3.out ?_)
            | fail)
          clear hsl Hr3 e2s
          have hs3 := HS3.out.swap.preRow acell_lay (k := p) (by rw [← Hm.out]; exact hpm)
          obtain ⟨w4, e4⟩ : ∃ y, y = (w3.alloc (.cells #[.int .i64 x0, .int .i64 x1, .int .i64 x2] 80)).drew := ⟨_, rfl⟩
          have hb4 : Below w3.heap.size w3 w4 := by rw [e4]; exact ((Below.refl w3.heap.size w3).alloc (Nat.le_refl _) _).drew
          have htk : (out.take p).length = p := by rw [List.length_take, ← Hm.out]; omega
          obtain ⟨v5, w5, hr5, hs5, hb5⟩ := hs3.pushG (P := Tryd.prog) acell_lay 24 24 (.agg #[.int .i64 0, .int .i64 0, .int .i64 0]) 24 Tryd.underlying24 infoA rfl z3 (w1 := w4) hb4 (x0, x1, x2) (bb := w3.heap.size) 1 (fun j u hj => by
            rw [e4]
            show (w3.alloc (.cells #[.int .i64 x0, .int .i64 x1, .int .i64 x2] 80)).cell? _ = _
            rw [World.cell?_alloc_at _ _ _ j rfl]
            simpa [acell] using hj) (by rw [htk]; omega) (by rw [htk]; omega)
          have z5 : w.heap.size ≤ w5.heap.size := Nat.le_trans z3 hb5.size
          have hdl : (out.drop p).length = m - p := by rw [List.length_drop, ← Hm.out]
          obtain ⟨v6, w6, hr6, hs6, hb6⟩ := hs5.pushRow (P := Tryd.prog) acell_lay 24 24 (.agg #[.int .i64 0, .int .i64 0, .int .i64 0]) 24 Tryd.underlying24 infoA rfl z5 (hs5.swap.rowRd acell_lay).1 (by rw [hdl, List.length_append, htk, List.length_singleton]; omega) (by rw [hdl, List.length_append, htk, List.length_singleton]; omega)
          rw [← HIns.out] at hs6
          have hil : 0 < (insA out (x0, x1, x2)).length := by rw [HIns.out]; simp; omega
          obtain ⟨_, c6, ev, hq6⟩ := hs6.rowAt acell_lay
          obtain ⟨b6, eb6, -⟩ := hq6 hil
          subst eb6
          subst ev
          obtain ⟨va5, c5, ev5, -⟩ := hs5.rowAt acell_lay
          subst ev5
          have HS6 := Lib.hid hs6.swap.tail
          have HB6 := Lib.hid ((HB3.out.trans hb5).trans hb6)
          have HSx := Lib.hid (fun (w' : World) (hb' : Below w.heap.size w w') => (show w'.cell? ⟨lb, lo + k * 3, none⟩ = some (.int .i64 x0) ∧ w'.cell? ⟨lb, lo + k * 3 + 1, none⟩ = some (.int .i64 x1) ∧ w'.cell? ⟨lb, lo + k * 3 + 2, none⟩ = some (.int .i64 x2) from HL.out w' hb'))
          have hSd : w3.drew.cell? ⟨lb, lo + k * 3, none⟩ = some (.int .i64 x0) ∧ w3.drew.cell? ⟨lb, lo + k * 3 + 1, none⟩ = some (.int .i64 x1) ∧ w3.drew.cell? ⟨lb, lo + k * 3 + 2, none⟩ = some (.int .i64 x2) := HSx.out _ HB3.out.drew
          have hS4 : w4.cell? ⟨lb, lo + k * 3, none⟩ = some (.int .i64 x0) ∧ w4.cell? ⟨lb, lo + k * 3 + 1, none⟩ = some (.int .i64 x1) ∧ w4.cell? ⟨lb, lo + k * 3 + 2, none⟩ = some (.int .i64 x2) := HSx.out _ (HB3.out.trans (hb4.mono z3))
          have hS5 : w5.cell? ⟨lb, lo + k * 3, none⟩ = some (.int .i64 x0) ∧ w5.cell? ⟨lb, lo + k * 3 + 1, none⟩ = some (.int .i64 x1) ∧ w5.cell? ⟨lb, lo + k * 3 + 2, none⟩ = some (.int .i64 x2) := HSx.out _ (HB3.out.trans hb5)
          have hS6 : w6.cell? ⟨lb, lo + k * 3, none⟩ = some (.int .i64 x0) ∧ w6.cell? ⟨lb, lo + k * 3 + 1, none⟩ = some (.int .i64 x1) ∧ w6.cell? ⟨lb, lo + k * 3 + 2, none⟩ = some (.int .i64 x2) := HSx.out _ HB6.out
          have Hr5 := Lib.hid hr5
          have Hr6 := Lib.hid hr6
          have hsl := fun w' => head_slice (b := b) (m := m) hpc w'
          clear hs3 hb4 htk hr5 hs5 hb5 hdl hr6 hs6 hb6 hil hq6 HS3 HB3 HSx
          generalize ((out.take p) ++ [(x0, x1, x2)]).length = l5 at Hr5 Hr6
          generalize hl6 : (insA out (x0, x1, x2)).length = l6 at Hr6 HS6
          have Hl6 := Lib.hid hl6
          clear hl6
          refine wp_region_L (fun w' => w'.cell? ⟨lb, lo + k * 3, none⟩ = some (.int .i64 x0) ∧ w'.cell? ⟨lb, lo + k * 3 + 1, none⟩ = some (.int .i64 x1) ∧ w'.cell? ⟨lb, lo + k * 3 + 2, none⟩ = some (.int .i64 x2)) (by kernel_rfl) ?_
          refine wpAnyL_take 0 (v := ?_) rfl (by kernel_rfl) (by kernel_rfl) (by kernel_rfl) (by kernel_rfl) (fun _ _ _ h => h) (Or.inl ⟨by rfl, ?_⟩) hSd ?_
          rotate_left
          · (intro w hSw; (try dsimp only at hSw); go_simp) <;> (try with_reducible rfl)
          try simp only [Act.put, List.getElem_toArray, List.getElem_cons_zero, List.getElem_cons_succ, List.setIfInBounds_toArray, List.set_cons_zero, List.set_cons_succ]
          refine wpAnyL_take 1 (v := ?_) rfl (by kernel_rfl) (by kernel_rfl) (by kernel_rfl) (by kernel_rfl) (fun _ _ _ h => h) (Or.inl ⟨by rfl, ?_⟩) hSd ?_
          rotate_left
          · (intro w hSw; (try dsimp only at hSw); go_simp) <;> (try with_reducible rfl)
          try simp only [Act.put, List.getElem_toArray, List.getElem_cons_zero, List.getElem_cons_succ, List.setIfInBounds_toArray, List.set_cons_zero, List.set_cons_succ]
          refine wpAnyL_take 2 (v := ?_) rfl (by kernel_rfl) (by kernel_rfl) (by kernel_rfl) (by kernel_rfl) (fun _ _ _ h => h) (Or.inl ⟨by rfl, ?_⟩) hSd ?_
          rotate_left
          · (intro w hSw; (try dsimp only at hSw); go_simp) <;> (try with_reducible rfl)
          try simp only [Act.put, List.getElem_toArray, List.getElem_cons_zero, List.getElem_cons_succ, List.setIfInBounds_toArray, List.set_cons_zero, List.set_cons_succ]
          refine wpAnyL_take 3 (v := ?_) rfl (by kernel_rfl) (by kernel_rfl) (by kernel_rfl) (by kernel_rfl) (fun _ _ _ h => h) (Or.inl ⟨by rfl, ?_⟩) hSd ?_
          rotate_left
          · (intro w hSw; (try dsimp only at hSw); go_simp) <;> (try with_reducible rfl)
          try simp only [Act.put, List.getElem_toArray, List.getElem_cons_zero, List.getElem_cons_succ, List.setIfInBounds_toArray, List.set_cons_zero, List.set_cons_succ]
          refine wpAnyL_take 4 (v := ?_) rfl (by kernel_rfl) (by kernel_rfl) (by kernel_rfl) (by kernel_rfl) (fun _ _ _ h => h) (Or.inl ⟨by rfl, ?_⟩) hSd ?_
          rotate_left
          · (intro w hSw; (try dsimp only at hSw); go_simp) <;> (try with_reducible rfl)
          try simp only [Act.put, List.getElem_toArray, List.getElem_cons_zero, List.getElem_cons_succ, List.setIfInBounds_toArray, List.set_cons_zero, List.set_cons_succ]
          refine wpAnyL_take 5 (v := ?_) rfl (by kernel_rfl) (by kernel_rfl) (by kernel_rfl) (by kernel_rfl) (fun _ _ _ h => h) (Or.inl ⟨by rfl, ?_⟩) hSd ?_
          rotate_left
          · (intro w hSw; (try dsimp only at hSw); go_simp) <;> (try with_reducible rfl)
          try simp only [Act.put, List.getElem_toArray, List.getElem_cons_zero, List.getElem_cons_succ, List.setIfInBounds_toArray, List.set_cons_zero, List.set_cons_succ]
          refine wpAnyL_take 6 (v := ?_) rfl (by kernel_rfl) (by kernel_rfl) (by kernel_rfl) (by kernel_rfl) (fun _ _ _ h => h) (Or.inl ⟨by rfl, ?_⟩) hSd ?_
          rotate_left
          · (intro w hSw; (try dsimp only at hSw); go_simp) <;> (try with_reducible rfl)
          try simp only [Act.put, List.getElem_toArray, List.getElem_cons_zero, List.getElem_cons_succ, List.setIfInBounds_toArray, List.set_cons_zero, List.set_cons_succ]
          refine wpAnyL_take 9 (v := ?_) rfl (by kernel_rfl) (by kernel_rfl) (by kernel_rfl) (by kernel_rfl) (fun _ _ _ h => h) (Or.inl ⟨by rfl, ?_⟩) hSd ?_
          rotate_left
          · (intro w hSw; (try dsimp only at hSw); go_simp) <;> (try with_reducible rfl)
          try simp only [Act.put, List.getElem_toArray, List.getElem_cons_zero, List.getElem_cons_succ, List.setIfInBounds_toArray, List.set_cons_zero, List.set_cons_succ]
          refine wpAnyL_one 7 (by kernel_rfl) rfl (fun K hK => ?_)
          go_simp
          refine hK.out _ _ (fun _ => (by rw [← e4]; exact hS4)) ?_
          clear hK K
          try simp only [Act.put, List.getElem_toArray, List.getElem_cons_zero, List.getElem_cons_succ, List.setIfInBounds_toArray, List.set_cons_zero, List.set_cons_succ]
          rw [← e4]
          refine wpAnyL_one 8 (by kernel_rfl) rfl (fun K hK => ?_)
          refine step_append_run (by rfl) (.tmp 53) (.tmp 58) 24 (by rfl) (by rfl) (by rfl) Hr5.out ?_
          refine hK.out _ _ (fun _ => hS5) ?_
          clear hK K
          try simp only [Act.put, List.getElem_toArray, List.getElem_cons_zero, List.getElem_cons_succ, List.setIfInBounds_toArray, List.set_cons_zero, List.set_cons_succ]
          refine wpAnyL_one 10 (by kernel_rfl) rfl (fun K hK => ?_)
          refine step_append_run (by rfl) (.tmp 59) (.tmp 60) 24 (by rfl) (by rfl) (by rfl) Hr6.out ?_
          refine hK.out _ _ (fun _ => hS6) ?_
          clear hK K
          try simp only [Act.put, List.getElem_toArray, List.getElem_cons_zero, List.getElem_cons_succ, List.setIfInBounds_toArray, List.set_cons_zero, List.set_cons_succ]
          refine wpAnyL_one 11 (by kernel_rfl) rfl (fun K hK => ?_)
          go_simp
          refine hK.out _ _ (fun h => absurd h (not_rem (by kernel_rfl))) ?_
          clear hK K
          try simp only [Act.put, List.getElem_toArray, List.getElem_cons_zero, List.getElem_cons_succ, List.setIfInBounds_toArray, List.set_cons_zero, List.set_cons_succ]
          refine wpAnyL_done (by kernel_rfl) ?_ _
          go_wp2
          go_roundg g
          case measure => omega
          case rel => exact ⟨k + 1, b6, c6, by rw [HI.out, Hl6.out], by go_num, by omega, by rw [HI.out, Hl6.out]; exact HS6, HB6⟩
        · obtain ⟨q, rfl⟩ : ∃ q, p = q + 1 := ⟨p - 1, by omega⟩
          have hqm : q < m := by omega
          obtain ⟨hbl, o0, o1, o2⟩ := HO.out q (by rw [← Hm.out]; exact hqm)
          have HPs := Lib.hid (show posA (x0, x1, x2) out (q + 1) = if before (x0, x1, x2) (at3 out q) = true then posA (x0, x1, x2) out q else q + 1 from rfl)
          have HBf := Lib.hid (fun w' => l14Before_c (x0, x1, x2) (at3 out q) w')
          obtain ⟨y, hy⟩ : ∃ y, y = at3 out q := ⟨_, rfl⟩
          rw [← hy] at o0 o1 o2 HPs HBf
          have Hy := Lib.hid hy
          clear hy hp0
          obtain ⟨y0, y1, y2⟩ := y
          simp only at o0 o1 o2
          have tq : decide ((0 : Int) < (q : Int) + 1) = true := by simp
          have hqw : IntKind.i64.wrap (q : Int) = (q : Int) := by rw [IntKind.wrap_i64]; omega
          have hqI : (q : Int) < (m : Int) := by omega
          have hq0 : (0 : Int) ≤ (q : Int) := by omega
          have HSS := Lib.hid (fun (w' : World) (hb' : Below wA.heap.size wA w') => (show w'.cell? ⟨lb, lo + k * 3, none⟩ = some (.int .i64 x0) ∧ w'.cell? ⟨lb, lo + k * 3 + 1, none⟩ = some (.int .i64 x1) ∧ w'.cell? ⟨lb, lo + k * 3 + 2, none⟩ = some (.int .i64 x2) ∧ w'.cell? ⟨b, q * 3, none⟩ = some (.int .i64 y0) ∧ w'.cell? ⟨b, q * 3 + 1, none⟩ = some (.int .i64 y1) ∧ w'.cell? ⟨b, q * 3 + 2, none⟩ = some (.int .i64 y2) from ⟨(HL.out w' (HB.out.trans (hb'.mono zA))).1, (HL.out w' (HB.out.trans (hb'.mono zA))).2.1, (HL.out w' (HB.out.trans (hb'.mono zA))).2.2, (hb'.cell (p := ⟨b, q * 3, none⟩) hbl).trans o0, (hb'.cell (p := ⟨b, q * 3 + 1, none⟩) hbl).trans o1, (hb'.cell (p := ⟨b, q * 3 + 2, none⟩) hbl).trans o2⟩))
          have hS0 := HSS.out _ HBi.out
          have B1 := HBi.out.drew
          have hSd := HSS.out _ B1
          rw [show ((q + 1 : Nat) : Int) = (q : Int) + 1 from by omega]
          simp only at HBf
          generalize hbf : before (x0, x1, x2) (y0, y1, y2) = bf at HPs HBf
          clear o0 o1 o2 hbf
          go_wp2
          go_region_held3 (fun w' => w'.cell? ⟨lb, lo + k * 3, none⟩ = some (.int .i64 x0) ∧ w'.cell? ⟨lb, lo + k * 3 + 1, none⟩ = some (.int .i64 x1) ∧ w'.cell? ⟨lb, lo + k * 3 + 2, none⟩ = some (.int .i64 x2) ∧ w'.cell? ⟨b, q * 3, none⟩ = some (.int .i64 y0) ∧ w'.cell? ⟨b, q * 3 + 1, none⟩ = some (.int .i64 y1) ∧ w'.cell? ⟨b, q * 3 + 2, none⟩ = some (.int .i64 y2))
            (first | with_reducible exact hS2 | with_reducible exact hSd | with_reducible exact hS0 | go_keep)
            ((first
              | (go_at_call 66; (with_reducible refine (HBf.out _).mono ?_); rintro e u1 ⟨rfl, q1⟩; have B2 := B1.trans (q1.mono (Nat.le_trans B1.size (Nat.le_refl _))); have hS2 := HSS.out _ B2)
              | fail))
          cases bf with
          | true =>
            have HP2 := Lib.hid (show posA (x0, x1, x2) out m = posA (x0, x1, x2) out q from by rw [HP.out, HPs.out, if_pos rfl])
            have HB2 := Lib.hid B2
            clear HP HPs HBf HSS hS0 hSd hS2 B1 B2 q1 HBi
            go_wp2
            go_roundg (q + 1)
            case measure => omega
            case rel => exact ⟨q, by go_num, rfl, by omega, HP2, HB2⟩
          | false =>
            have HPf := Lib.hid (show posA (x0, x1, x2) out m = q + 1 from by rw [HP.out, HPs.out, if_neg (by decide)])
            have HBc := Lib.hid B2
            obtain ⟨l0, l1, l2, o0, o1, o2⟩ := hS2
            clear HP HPs HBf HSS hS0 hSd B1 B2 q1 HBi
            go_wp2
            by_cases hxy : (y0, y1, y2) = (x0, x1, x2)
            · simp only [Prod.mk.injEq] at hxy
              obtain ⟨rfl, rfl, rfl⟩ := hxy
              go_quiet (fail)
              rename_i nq
              have HIn := Lib.hid (show insA out (y0, y1, y2) = out from by
                unfold insA
                rw [← Hm.out, HPf.out, if_pos ⟨by omega, by rw [Nat.add_sub_cancel]; exact Hy.out.symm⟩])
              have HS9 := Lib.hid (HS.out.below ((below_drewN HBc.out nq)) (Nat.le_refl _))
              have HB9 := Lib.hid (HB.out.trans ((below_drewN HBc.out nq).mono zA))
              have Hm2 := Lib.hid Hm.out
              clear HS HB HBc HL HO l0 l1 l2 o0 o1 o2
              go_wp2
              go_roundg g
              case measure => omega
              case rel => exact ⟨k + 1, b, c, by rw [HI.out, HIn.out, ← Hm.out], by go_num, by omega, by rw [HI.out, HIn.out]; exact HS9, HB9⟩
            · have HInq := Lib.hid (show insA out (x0, x1, x2) = out.take (q + 1) ++ [(x0, x1, x2)] ++ out.drop (q + 1) from by
                unfold insA
                rw [← Hm.out, HPf.out, if_neg]
                rintro ⟨-, h⟩
                rw [Nat.add_sub_cancel, ← Hy.out] at h
                exact hxy h)
              have hne : (y0 == x0) = false ∨ (x0 = y0 ∧ (y1 == x1) = false) ∨ (x0 = y0 ∧ x1 = y1 ∧ (y2 == x2) = false) := by
                by_cases e0 : y0 = x0
                · by_cases e1 : y1 = x1
                  · have e2 : y2 ≠ x2 := fun e2 => hxy (by rw [e0, e1, e2])
                    exact Or.inr (Or.inr ⟨e0.symm, e1.symm, by simp [e2]⟩)
                  · exact Or.inr (Or.inl ⟨e0.symm, by simp [e1]⟩)
                · exact Or.inl (by simp [e0])
              obtain ⟨p, hpq⟩ : ∃ p, p = q + 1 := ⟨_, rfl⟩
              have Hpe := Lib.hid (show (q : Int) + 1 = (p : Int) from by omega)
              have HIns := Lib.hid (show insA out (x0, x1, x2) = out.take p ++ [(x0, x1, x2)] ++ out.drop p from by rw [hpq]; exact HInq.out)
              replace hpm : p ≤ m := by omega
              clear hxy HInq hpq
              rcases hne with t0 | ⟨rfl, t1⟩ | ⟨rfl, rfl, t2⟩
              all_goals
                go_quiet (fail)
                rename_i nq
                replace HBc := Lib.hid (below_drewN HBc.out nq)
                generalize u1.drewN nq = wC at HBc ⊢
                rw [Hpe.out]
                clear l0 l1 l2 o0 o1 o2 Hpe tq hqw hqI hq0 HPf
                have hsC := HS.out.below HBc.out (Nat.le_refl _)
                have zC : w.heap.size ≤ wC.heap.size := Nat.le_trans zA HBc.out.size
                have hs2 := hsC.new RowG.held ((Below.refl _ _).alloc (Nat.le_refl _) (.cells #[] 80)) zC (New.emptyRow (sz := 3) (f := acell) 80 wC)
                obtain ⟨w2, e2⟩ : ∃ y, y = wC.alloc (.cells #[] 80) := ⟨_, rfl⟩
                rw [← e2] at hs2
                have hb2 : Below wC.heap.size wC w2 := by rw [e2]; exact (Below.refl _ _).alloc (Nat.le_refl _) _
                have z2 : w.heap.size ≤ w2.heap.size := Nat.le_trans zC hb2.size
                have hdr := tail_rd (p := p) hs2.swap rfl (by rw [← Hm.out]; exact hpm)
                rw [← Hm.out] at hdr
                have hsl := fun w' => tail_slice (b := b) (c := c) hpm w'
                obtain ⟨ad, had⟩ : ∃ y, y = (if c = p then (⟨b, 0, none⟩ : Addr) else ⟨b, p * 3, none⟩) := ⟨_, rfl⟩
                rw [← had] at hdr
                simp only [← had] at hsl
                clear had
                have hdl : (out.drop p).length = m - p := by rw [List.length_drop, ← Hm.out]
                obtain ⟨v3, w3, hr3, hs3, hb3⟩ := hs2.pushRow (P := Tryd.prog) acell_lay 24 24 (.agg #[.int .i64 0, .int .i64 0, .int .i64 0]) 24 Tryd.underlying24 infoA rfl z2 hdr (by rw [hdl, List.length_nil]; omega) (by rw [hdl, List.length_nil]; omega)
                rw [List.nil_append] at hs3
                have z3 : w.heap.size ≤ w3.heap.size := Nat.le_trans z2 hb3.size
                obtain ⟨ra, rc, er, -⟩ := hs3.rowAt acell_lay
                rw [hdl] at er
                subst er
                have Hr3 := Lib.hid hr3
                have HS3 := Lib.hid hs3
                have e2s := e2.symm
                have HB3 := Lib.hid (((HB.out.trans (HBc.out.mono zA)).trans (hb2.mono zC)).trans hb3)
                have hpI : (0 : Int) ≤ (p : Int) := by omega
                have hpmI : (p : Int) ≤ (m : Int) := by omega
                have hpc : p ≤ c := Nat.le_trans hpm hcap
                clear hsC hs2 hb2 hdr hr3 hs3 hb3 e2 hdl HBc HS HB
                go_wp2_with (first
                  | (at_builtin; refine wpl_append_run rfl (.tmp 46) (.tmp 49) 24 rfl rfl rfl Hr3.out ?_)
                  | fail)
                clear hsl Hr3 e2s
                have hs3 := HS3.out.swap.preRow acell_lay (k := p) (by rw [← Hm.out]; exact hpm)
                obtain ⟨w4, e4⟩ : ∃ y, y = (w3.alloc (.cells #[.int .i64 x0, .int .i64 x1, .int .i64 x2] 80)).drew := ⟨_, rfl⟩
                have hb4 : Below w3.heap.size w3 w4 := by rw [e4]; exact ((Below.refl w3.heap.size w3).alloc (Nat.le_refl _) _).drew
                have htk : (out.take p).length = p := by rw [List.length_take, ← Hm.out]; omega
                obtain ⟨v5, w5, hr5, hs5, hb5⟩ := hs3.pushG (P := Tryd.prog) acell_lay 24 24 (.agg #[.int .i64 0, .int .i64 0, .int .i64 0]) 24 Tryd.underlying24 infoA rfl z3 (w1 := w4) hb4 (x0, x1, x2) (bb := w3.heap.size) 1 (fun j u hj => by
                  rw [e4]
                  show (w3.alloc (.cells #[.int .i64 x0, .int .i64 x1, .int .i64 x2] 80)).cell? _ = _
                  rw [World.cell?_alloc_at _ _ _ j rfl]
                  simpa [acell] using hj) (by rw [htk]; omega) (by rw [htk]; omega)
                have z5 : w.heap.size ≤ w5.heap.size := Nat.le_trans z3 hb5.size
                have hdl : (out.drop p).length = m - p := by rw [List.length_drop, ← Hm.out]
                obtain ⟨v6, w6, hr6, hs6, hb6⟩ := hs5.pushRow (P := Tryd.prog) acell_lay 24 24 (.agg #[.int .i64 0, .int .i64 0, .int .i64 0]) 24 Tryd.underlying24 infoA rfl z5 (hs5.swap.rowRd acell_lay).1 (by rw [hdl, List.length_append, htk, List.length_singleton]; omega) (by rw [hdl, List.length_append, htk, List.length_singleton]; omega)
                rw [← HIns.out] at hs6
                have hil : 0 < (insA out (x0, x1, x2)).length := by rw [HIns.out]; simp; omega
                obtain ⟨_, c6, ev, hq6⟩ := hs6.rowAt acell_lay
                obtain ⟨b6, eb6, -⟩ := hq6 hil
                subst eb6
                subst ev
                obtain ⟨va5, c5, ev5, -⟩ := hs5.rowAt acell_lay
                subst ev5
                have HS6 := Lib.hid hs6.swap.tail
                have HB6 := Lib.hid ((HB3.out.trans hb5).trans hb6)
                have HSx := Lib.hid (fun (w' : World) (hb' : Below w.heap.size w w') => (show w'.cell? ⟨lb, lo + k * 3, none⟩ = some (.int .i64 x0) ∧ w'.cell? ⟨lb, lo + k * 3 + 1, none⟩ = some (.int .i64 x1) ∧ w'.cell? ⟨lb, lo + k * 3 + 2, none⟩ = some (.int .i64 x2) from HL.out w' hb'))
                have hSd : w3.drew.cell? ⟨lb, lo + k * 3, none⟩ = some (.int .i64 x0) ∧ w3.drew.cell? ⟨lb, lo + k * 3 + 1, none⟩ = some (.int .i64 x1) ∧ w3.drew.cell? ⟨lb, lo + k * 3 + 2, none⟩ = some (.int .i64 x2) := HSx.out _ HB3.out.drew
                have hS4 : w4.cell? ⟨lb, lo + k * 3, none⟩ = some (.int .i64 x0) ∧ w4.cell? ⟨lb, lo + k * 3 + 1, none⟩ = some (.int .i64 x1) ∧ w4.cell? ⟨lb, lo + k * 3 + 2, none⟩ = some (.int .i64 x2) := HSx.out _ (HB3.out.trans (hb4.mono z3))
                have hS5 : w5.cell? ⟨lb, lo + k * 3, none⟩ = some (.int .i64 x0) ∧ w5.cell? ⟨lb, lo + k * 3 + 1, none⟩ = some (.int .i64 x1) ∧ w5.cell? ⟨lb, lo + k * 3 + 2, none⟩ = some (.int .i64 x2) := HSx.out _ (HB3.out.trans hb5)
                have hS6 : w6.cell? ⟨lb, lo + k * 3, none⟩ = some (.int .i64 x0) ∧ w6.cell? ⟨lb, lo + k * 3 + 1, none⟩ = some (.int .i64 x1) ∧ w6.cell? ⟨lb, lo + k * 3 + 2, none⟩ = some (.int .i64 x2) := HSx.out _ HB6.out
                have Hr5 := Lib.hid hr5
                have Hr6 := Lib.hid hr6
                have hsl := fun w' => head_slice (b := b) (m := m) hpc w'
                clear hs3 hb4 htk hr5 hs5 hb5 hdl hr6 hs6 hb6 hil hq6 HS3 HB3 HSx
                generalize ((out.take p) ++ [(x0, x1, x2)]).length = l5 at Hr5 Hr6
                generalize hl6 : (insA out (x0, x1, x2)).length = l6 at Hr6 HS6
                have Hl6 := Lib.hid hl6
                clear hl6
                refine wp_region_L (fun w' => w'.cell? ⟨lb, lo + k * 3, none⟩ = some (.int .i64 x0) ∧ w'.cell? ⟨lb, lo + k * 3 + 1, none⟩ = some (.int .i64 x1) ∧ w'.cell? ⟨lb, lo + k * 3 + 2, none⟩ = some (.int .i64 x2)) (by kernel_rfl) ?_
                refine wpAnyL_take 0 (v := ?_) rfl (by kernel_rfl) (by kernel_rfl) (by kernel_rfl) (by kernel_rfl) (fun _ _ _ h => h) (Or.inl ⟨by rfl, ?_⟩) hSd ?_
                rotate_left
                · (intro w hSw; (try dsimp only at hSw); go_simp) <;> (try with_reducible rfl)
                try simp only [Act.put, List.getElem_toArray, List.getElem_cons_zero, List.getElem_cons_succ, List.setIfInBounds_toArray, List.set_cons_zero, List.set_cons_succ]
                refine wpAnyL_take 1 (v := ?_) rfl (by kernel_rfl) (by kernel_rfl) (by kernel_rfl) (by kernel_rfl) (fun _ _ _ h => h) (Or.inl ⟨by rfl, ?_⟩) hSd ?_
                rotate_left
                · (intro w hSw; (try dsimp only at hSw); go_simp) <;> (try with_reducible rfl)
                try simp only [Act.put, List.getElem_toArray, List.getElem_cons_zero, List.getElem_cons_succ, List.setIfInBounds_toArray, List.set_cons_zero, List.set_cons_succ]
                refine wpAnyL_take 2 (v := ?_) rfl (by kernel_rfl) (by kernel_rfl) (by kernel_rfl) (by kernel_rfl) (fun _ _ _ h => h) (Or.inl ⟨by rfl, ?_⟩) hSd ?_
                rotate_left
                · (intro w hSw; (try dsimp only at hSw); go_simp) <;> (try with_reducible rfl)
                try simp only [Act.put, List.getElem_toArray, List.getElem_cons_zero, List.getElem_cons_succ, List.setIfInBounds_toArray, List.set_cons_zero, List.set_cons_succ]
                refine wpAnyL_take 3 (v := ?_) rfl (by kernel_rfl) (by kernel_rfl) (by kernel_rfl) (by kernel_rfl) (fun _ _ _ h => h) (Or.inl ⟨by rfl, ?_⟩) hSd ?_
                rotate_left
                · (intro w hSw; (try dsimp only at hSw); go_simp) <;> (try with_reducible rfl)
                try simp only [Act.put, List.getElem_toArray, List.getElem_cons_zero, List.getElem_cons_succ, List.setIfInBounds_toArray, List.set_cons_zero, List.set_cons_succ]
                refine wpAnyL_take 4 (v := ?_) rfl (by kernel_rfl) (by kernel_rfl) (by kernel_rfl) (by kernel_rfl) (fun _ _ _ h => h) (Or.inl ⟨by rfl, ?_⟩) hSd ?_
                rotate_left
                · (intro w hSw; (try dsimp only at hSw); go_simp) <;> (try with_reducible rfl)
                try simp only [Act.put, List.getElem_toArray, List.getElem_cons_zero, List.getElem_cons_succ, List.setIfInBounds_toArray, List.set_cons_zero, List.set_cons_succ]
                refine wpAnyL_take 5 (v := ?_) rfl (by kernel_rfl) (by kernel_rfl) (by kernel_rfl) (by kernel_rfl) (fun _ _ _ h => h) (Or.inl ⟨by rfl, ?_⟩) hSd ?_
                rotate_left
                · (intro w hSw; (try dsimp only at hSw); go_simp) <;> (try with_reducible rfl)
                try simp only [Act.put, List.getElem_toArray, List.getElem_cons_zero, List.getElem_cons_succ, List.setIfInBounds_toArray, List.set_cons_zero, List.set_cons_succ]
                refine wpAnyL_take 6 (v := ?_) rfl (by kernel_rfl) (by kernel_rfl) (by kernel_rfl) (by kernel_rfl) (fun _ _ _ h => h) (Or.inl ⟨by rfl, ?_⟩) hSd ?_
                rotate_left
                · (intro w hSw; (try dsimp only at hSw); go_simp) <;> (try with_reducible rfl)
                try simp only [Act.put, List.getElem_toArray, List.getElem_cons_zero, List.getElem_cons_succ, List.setIfInBounds_toArray, List.set_cons_zero, List.set_cons_succ]
                refine wpAnyL_take 9 (v := ?_) rfl (by kernel_rfl) (by kernel_rfl) (by kernel_rfl) (by kernel_rfl) (fun _ _ _ h => h) (Or.inl ⟨by rfl, ?_⟩) hSd ?_
                rotate_left
                · (intro w hSw; (try dsimp only at hSw); go_simp) <;> (try with_reducible rfl)
                try simp only [Act.put, List.getElem_toArray, List.getElem_cons_zero, List.getElem_cons_succ, List.setIfInBounds_toArray, List.set_cons_zero, List.set_cons_succ]
                refine wpAnyL_one 7 (by kernel_rfl) rfl (fun K hK => ?_)
                go_simp
                refine hK.out _ _ (fun _ => (by rw [← e4]; exact hS4)) ?_
                clear hK K
                try simp only [Act.put, List.getElem_toArray, List.getElem_cons_zero, List.getElem_cons_succ, List.setIfInBounds_toArray, List.set_cons_zero, List.set_cons_succ]
                rw [← e4]
                refine wpAnyL_one 8 (by kernel_rfl) rfl (fun K hK => ?_)
                refine step_append_run (by rfl) (.tmp 53) (.tmp 58) 24 (by rfl) (by rfl) (by rfl) Hr5.out ?_
                refine hK.out _ _ (fun _ => hS5) ?_
                clear hK K
                try simp only [Act.put, List.getElem_toArray, List.getElem_cons_zero, List.getElem_cons_succ, List.setIfInBounds_toArray, List.set_cons_zero, List.set_cons_succ]
                refine wpAnyL_one 10 (by kernel_rfl) rfl (fun K hK => ?_)
                refine step_append_run (by rfl) (.tmp 59) (.tmp 60) 24 (by rfl) (by rfl) (by rfl) Hr6.out ?_
                refine hK.out _ _ (fun _ => hS6) ?_
                clear hK K
                try simp only [Act.put, List.getElem_toArray, List.getElem_cons_zero, List.getElem_cons_succ, List.setIfInBounds_toArray, List.set_cons_zero, List.set_cons_succ]
                refine wpAnyL_one 11 (by kernel_rfl) rfl (fun K hK => ?_)
                go_simp
                refine hK.out _ _ (fun h => absurd h (not_rem (by kernel_rfl))) ?_
                clear hK K
                try simp only [Act.put, List.getElem_toArray, List.getElem_cons_zero, List.getElem_cons_succ, List.setIfInBounds_toArray, List.set_cons_zero, List.set_cons_succ]
                refine wpAnyL_done (by kernel_rfl) ?_ _
                go_wp2
                go_roundg g
                case measure => omega
                case rel => exact ⟨k + 1, b6, c6, by rw [HI.out, Hl6.out], by go_num, by omega, by rw [HI.out, Hl6.out]; exact HS6, HB6⟩
    · have hki : ¬ ((k : Int) < (n : Int)) := by omega
      have HR := Lib.hid (show New (RowA 80) w.heap.size wA (.slice (some ⟨b, 0, none⟩) (sortM (xs.take k)).length c) (sortM xs) from by
        have h := HS.out.headNew
        rw [List.take_of_length_le (by rw [← Hn.out]; omega)] at h ⊢
        exact h)
      generalize (sortM (xs.take k)).length = ol at HR
      clear HS
      go_wp2
      go_ret
      exact ⟨_, rfl, HR.out, HB.out⟩
end Go.Proofs.YtcilgihmaaobeaaDoor
end
