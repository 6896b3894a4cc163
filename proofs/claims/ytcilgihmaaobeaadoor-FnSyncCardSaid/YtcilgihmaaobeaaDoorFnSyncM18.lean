/-
  Texts of this claim joined: laws for its walks, contracts of the functions that the law reaches.
-/
import Derived.Test.YtcilgihmaaobeaaDoorFnSyncM17
import Derived.Test.YtcilgihmaaobeaaDoorFnSyncM9
import Derived.Test.YtcilgihmaaobeaaDoorFnSyncM14
import Derived.Test.YtcilgihmaaobeaaDoorFnSyncM10
import Derived.Test.YtcilgihmaaobeaaDoorRows
import Derived.Test.YtcilgihmaaobeaaDoorFnSyncM1
import Derived.Test.YtcilgihmaaobeaaDoorFnSyncM5
import Derived.Test.YtcilgihmaaobeaaDoorFnSyncM6
import Derived.Test.YtcilgihmaaobeaaDoorFnSyncM11
import Derived.IntWalk
import Derived.Deep.RegionHeld3
import Derived.Deep.DeepCutAuto
import Derived.Test.YtcilgihmaaobeaaDoorFnSyncM3
import Derived.Test.YtcilgihmaaobeaaDoorFnSyncM12
import Derived.Test.YtcilgihmaaobeaaDoorFnSyncM4
import Derived.Test.YtcilgihmaaobeaaDoorFnSyncM8
set_option linter.unusedVariables false
set_option linter.unusedSimpArgs false
section
namespace Go.Proofs.YtcilgihmaaobeaaDoor
open Go.RowKit Go.Deep Go.Sd
set_option linter.unusedSimpArgs false
set_option maxHeartbeats 2000000 in
set_option maxRecDepth 100000 in
theorem DrawShortestSync_c {w : World} {vc : Value} {xs : List Int} (h : BytR w vc xs) :
    Calls Tryd.prog 6 #[vc] w fun e w' => ∃ (v : Value) (l : Lb), e = .returned v ∧ New OLab w.heap.size w' v l ∧ Below w.heap.size w w' := by
  obtain ⟨wA, eA, hA⟩ : ∃ x, x = w.alloc (.cells #[.int .i64 0, .int .i64 0, .slice none 0 0] 26) ∧ Below w.heap.size w x := ⟨_, rfl, (Below.refl _ _).alloc (Nat.le_refl _) _⟩
  have hA' : BytR wA vc xs := BytR.frame _ _ _ _ h hA
  have HN := Lib.hid (l1New_c hA')
  have HK := Lib.hid (fun w' (hb : Below wA.heap.size wA w') => BytR.frame _ _ _ _ hA' hb)
  obtain ⟨a, c, rfl, -⟩ := h.cellsB
  have R0 := Lib.hid (show wA.cell? ⟨w.heap.size, 0, none⟩ = some (.int .i64 0) from by rw [eA]; simp [go_sem])
  have R1 := Lib.hid (show wA.cell? ⟨w.heap.size, 1, none⟩ = some (.int .i64 0) from by rw [eA]; simp [go_sem])
  have R2 := Lib.hid (show wA.cell? ⟨w.heap.size, 2, none⟩ = some (.slice none 0 0) from by rw [eA]; simp [go_sem])
  have F0 := Lib.hid (show wA.frozen? ⟨w.heap.size, 0, none⟩ = false from by rw [eA]; simp [go_sem])
  have F1 := Lib.hid (show wA.frozen? ⟨w.heap.size, 1, none⟩ = false from by rw [eA]; simp [go_sem])
  have F2 := Lib.hid (show wA.frozen? ⟨w.heap.size, 2, none⟩ = false from by rw [eA]; simp [go_sem])
  have zA : w.heap.size < wA.heap.size := by rw [eA]; simp
  have HA := Lib.hid hA
  have eAs := eA.symm
  clear h hA hA' eA
  go_enter Tryd.func6, Tryd.ntmps6
  go_wp2_with fail
  (with_reducible refine HN.out.mono ?_)
  rintro e w1 ⟨rfl, ⟨hh, hs⟩, hb⟩
  have HC1 := Lib.hid (show Cur wA.heap.size w1 wA.heap.size (.slice a xs.length c) xs.length [] from ⟨0, hh, Nat.zero_le _, hs⟩)
  have HB1 := Lib.hid hb
  have hz1 := hb.size
  clear hs hb HN eAs
  have HL := Lib.hid (l15Draw_c (fun w' hb' => HK.out w' (HB1.out.trans hb')) HC1.out hz1)
  go_wp2_with fail
  (with_reducible refine HL.out.mono ?_)
  rintro e w2 ⟨v, l, rfl, hc, hb⟩
  have hcl := hc
  obtain ⟨ya, yc, rfl⟩ := hcl.labSlice
  have Hn := Lib.hid hcl.out.headNew
  have HB2 := Lib.hid (HB1.out.trans hb)
  obtain ⟨al, hal⟩ : ∃ n, n = l.2.2.length := ⟨_, rfl⟩
  rw [← hal] at Hn ⊢
  clear hal hc hcl hb HL HC1 HB1 hz1
  replace R0 := (HB2.out.cell (p := ⟨w.heap.size, 0, none⟩) zA).trans R0.out
  replace F0 := (HB2.out.frozen (p := ⟨w.heap.size, 0, none⟩) zA).trans F0.out
  replace R1 := (HB2.out.cell (p := ⟨w.heap.size, 1, none⟩) zA).trans R1.out
  replace F1 := (HB2.out.frozen (p := ⟨w.heap.size, 1, none⟩) zA).trans F1.out
  replace R2 := (HB2.out.cell (p := ⟨w.heap.size, 2, none⟩) zA).trans R2.out
  replace F2 := (HB2.out.frozen (p := ⟨w.heap.size, 2, none⟩) zA).trans F2.out
  go_wp2_with fail
  have s0 := World.cell?_setCell_same w2 _ (.int .i64 l.1) R0
  have u1 := (World.cell?_setCell_other w2 ⟨w.heap.size, 0, none⟩ ⟨w.heap.size, 1, none⟩ (.int .i64 l.1) (by simp)).trans R1
  have s1 := World.cell?_setCell_same _ _ (.int .i64 l.2.1) u1
  have u2 := (World.cell?_setCell_other _ ⟨w.heap.size, 1, none⟩ ⟨w.heap.size, 2, none⟩ (.int .i64 l.2.1) (by simp)).trans ((World.cell?_setCell_other w2 ⟨w.heap.size, 0, none⟩ ⟨w.heap.size, 2, none⟩ (.int .i64 l.1) (by simp)).trans R2)
  have s2 := World.cell?_setCell_same _ _ (.slice ya al yc) u2
  have v1 := (World.cell?_setCell_other _ ⟨w.heap.size, 2, none⟩ ⟨w.heap.size, 1, none⟩ (.slice ya al yc) (by simp)).trans s1
  have v0 := (World.cell?_setCell_other _ ⟨w.heap.size, 2, none⟩ ⟨w.heap.size, 0, none⟩ (.slice ya al yc) (by simp)).trans ((World.cell?_setCell_other _ ⟨w.heap.size, 1, none⟩ ⟨w.heap.size, 0, none⟩ (.int .i64 l.2.1) (by simp)).trans s0)
  refine bodyPost_ret (v := .agg #[.int .i64 l.1, .int .i64 l.2.1, .slice ya al yc]) (by simp [results, Tryd.results6, go_sem, v0, v1, s2]) rfl ?_
  exact ⟨_, l, rfl, (New.storeLow OLab.held (New.storeLow OLab.held (New.storeLow OLab.held Hn.out (p := ⟨w.heap.size, 0, none⟩) zA (.int .i64 l.1)) (p := ⟨w.heap.size, 1, none⟩) zA (.int .i64 l.2.1)) (p := ⟨w.heap.size, 2, none⟩) zA (.slice ya al yc)).mono (Nat.le_of_lt zA), ((((HA.out.trans (HB2.out.mono (Nat.le_of_lt zA))).setCell (p := ⟨w.heap.size, 0, none⟩) (Nat.le_refl _) _).setCell (p := ⟨w.heap.size, 1, none⟩) (Nat.le_refl _) _).setCell (p := ⟨w.heap.size, 2, none⟩) (Nat.le_refl _) _)⟩
set_option maxHeartbeats 2000000 in
set_option maxRecDepth 100000 in
theorem DrawLeastRank_c {w : World} {vc : Value} {xs : List Int} (h : BytR w vc xs) :
    Calls Tryd.prog 11 #[vc] w fun e w' => ∃ (v : Value) (l : Lb), e = .returned v ∧ New OLab w.heap.size w' v l ∧ Below w.heap.size w w' := by
  obtain ⟨wA, eA, hA⟩ : ∃ x, x = w.alloc (.cells #[.int .i64 0, .int .i64 0, .slice none 0 0] 26) ∧ Below w.heap.size w x := ⟨_, rfl, (Below.refl _ _).alloc (Nat.le_refl _) _⟩
  have hA' : BytR wA vc xs := BytR.frame _ _ _ _ h hA
  have HN := Lib.hid (l1New_c hA')
  have HK := Lib.hid (fun w' (hb : Below wA.heap.size wA w') => BytR.frame _ _ _ _ hA' hb)
  obtain ⟨a, c, rfl, -⟩ := h.cellsB
  have R0 := Lib.hid (show wA.cell? ⟨w.heap.size, 0, none⟩ = some (.int .i64 0) from by rw [eA]; simp [go_sem])
  have R1 := Lib.hid (show wA.cell? ⟨w.heap.size, 1, none⟩ = some (.int .i64 0) from by rw [eA]; simp [go_sem])
  have R2 := Lib.hid (show wA.cell? ⟨w.heap.size, 2, none⟩ = some (.slice none 0 0) from by rw [eA]; simp [go_sem])
  have F0 := Lib.hid (show wA.frozen? ⟨w.heap.size, 0, none⟩ = false from by rw [eA]; simp [go_sem])
  have F1 := Lib.hid (show wA.frozen? ⟨w.heap.size, 1, none⟩ = false from by rw [eA]; simp [go_sem])
  have F2 := Lib.hid (show wA.frozen? ⟨w.heap.size, 2, none⟩ = false from by rw [eA]; simp [go_sem])
  have zA : w.heap.size < wA.heap.size := by rw [eA]; simp
  have HA := Lib.hid hA
  have eAs := eA.symm
  clear h hA hA' eA
  go_enter Tryd.func11, Tryd.ntmps11
  go_wp2_with fail
  (with_reducible refine HN.out.mono ?_)
  rintro e w1 ⟨rfl, ⟨hh, hs⟩, hb⟩
  have HC1 := Lib.hid (show Cur wA.heap.size w1 wA.heap.size (.slice a xs.length c) xs.length [] from ⟨0, hh, Nat.zero_le _, hs⟩)
  have HB1 := Lib.hid hb
  have hz1 := hb.size
  clear hs hb HN eAs
  have HL := Lib.hid (l15Draw_c (fun w' hb' => HK.out w' (HB1.out.trans hb')) HC1.out hz1)
  go_wp2_with fail
  (with_reducible refine HL.out.mono ?_)
  rintro e w2 ⟨v, l, rfl, hc, hb⟩
  have hcl := hc
  obtain ⟨ya, yc, rfl⟩ := hcl.labSlice
  have Hn := Lib.hid hcl.out.headNew
  have HB2 := Lib.hid (HB1.out.trans hb)
  obtain ⟨al, hal⟩ : ∃ n, n = l.2.2.length := ⟨_, rfl⟩
  rw [← hal] at Hn ⊢
  clear hal hc hcl hb HL HC1 HB1 hz1
  replace R0 := (HB2.out.cell (p := ⟨w.heap.size, 0, none⟩) zA).trans R0.out
  replace F0 := (HB2.out.frozen (p := ⟨w.heap.size, 0, none⟩) zA).trans F0.out
  replace R1 := (HB2.out.cell (p := ⟨w.heap.size, 1, none⟩) zA).trans R1.out
  replace F1 := (HB2.out.frozen (p := ⟨w.heap.size, 1, none⟩) zA).trans F1.out
  replace R2 := (HB2.out.cell (p := ⟨w.heap.size, 2, none⟩) zA).trans R2.out
  replace F2 := (HB2.out.frozen (p := ⟨w.heap.size, 2, none⟩) zA).trans F2.out
  go_wp2_with fail
  have s0 := World.cell?_setCell_same w2 _ (.int .i64 l.1) R0
  have u1 := (World.cell?_setCell_other w2 ⟨w.heap.size, 0, none⟩ ⟨w.heap.size, 1, none⟩ (.int .i64 l.1) (by simp)).trans R1
  have s1 := World.cell?_setCell_same _ _ (.int .i64 l.2.1) u1
  have u2 := (World.cell?_setCell_other _ ⟨w.heap.size, 1, none⟩ ⟨w.heap.size, 2, none⟩ (.int .i64 l.2.1) (by simp)).trans ((World.cell?_setCell_other w2 ⟨w.heap.size, 0, none⟩ ⟨w.heap.size, 2, none⟩ (.int .i64 l.1) (by simp)).trans R2)
  have s2 := World.cell?_setCell_same _ _ (.slice ya al yc) u2
  have v1 := (World.cell?_setCell_other _ ⟨w.heap.size, 2, none⟩ ⟨w.heap.size, 1, none⟩ (.slice ya al yc) (by simp)).trans s1
  have v0 := (World.cell?_setCell_other _ ⟨w.heap.size, 2, none⟩ ⟨w.heap.size, 0, none⟩ (.slice ya al yc) (by simp)).trans ((World.cell?_setCell_other _ ⟨w.heap.size, 1, none⟩ ⟨w.heap.size, 0, none⟩ (.int .i64 l.2.1) (by simp)).trans s0)
  refine bodyPost_ret (v := .agg #[.int .i64 l.1, .int .i64 l.2.1, .slice ya al yc]) (by simp [results, Tryd.results11, go_sem, v0, v1, s2]) rfl ?_
  exact ⟨_, l, rfl, (New.storeLow OLab.held (New.storeLow OLab.held (New.storeLow OLab.held Hn.out (p := ⟨w.heap.size, 0, none⟩) zA (.int .i64 l.1)) (p := ⟨w.heap.size, 1, none⟩) zA (.int .i64 l.2.1)) (p := ⟨w.heap.size, 2, none⟩) zA (.slice ya al yc)).mono (Nat.le_of_lt zA), ((((HA.out.trans (HB2.out.mono (Nat.le_of_lt zA))).setCell (p := ⟨w.heap.size, 0, none⟩) (Nat.le_refl _) _).setCell (p := ⟨w.heap.size, 1, none⟩) (Nat.le_refl _) _).setCell (p := ⟨w.heap.size, 2, none⟩) (Nat.le_refl _) _)⟩
end Go.Proofs.YtcilgihmaaobeaaDoor
end

section
namespace Go.Proofs.YtcilgihmaaobeaaDoor
open Go.RowKit Go.Deep Go.Sd
set_option linter.unusedSimpArgs false
theorem Cells.below' {w w' : World} {b B : Nat} {vs : List Value} (h : Cells w b vs) (hb : Below B w w') (hB : b < B) : Cells w' b vs :=
  ⟨Nat.lt_of_lt_of_le h.1 hb.size, fun j u hu => ⟨(hb.cell (p := ⟨b, j, none⟩) hB).trans (h.2 j u hu).1, (hb.frozen (p := ⟨b, j, none⟩) hB).trans (h.2 j u hu).2⟩⟩
theorem Sep.storeLow {lo : Nat} {w : World} {rs : List Res} (h : Sep lo w rs) {p : Addr} (hp : p.block < lo) (u : Value) : Sep lo (w.setCell p u) rs := by
  obtain ⟨F, h1, hn, hl⟩ := h
  exact ⟨F, h1.keep (fun b hb => Below.heap_setCell _ _ _ _ (fun e => by have := hl b hb; omega)), hn, hl⟩
theorem Cur.storeLow {lo : Nat} {w : World} {cb : Nat} {K : Value} {n : Nat} {rs : List Res} (h : Cur lo w cb K n rs) {p : Addr} (hp : p.block < lo) (u : Value) : Cur lo (w.setCell p u) cb K n rs := by
  obtain ⟨i, x, hi, hs⟩ := h
  exact ⟨i, x, hi, Sep.storeLow hs hp u⟩
/-- A box of three cells filled anew. -/
abbrev fill3 (w : World) (b : Nat) (u0 u1 u2 : Value) : World := ((w.setCell ⟨b, 0, none⟩ u0).setCell ⟨b, 1, none⟩ u1).setCell ⟨b, 2, none⟩ u2
theorem Cells.fill3 {w : World} {b : Nat} {x0 x1 x2 : Value} (h : Cells w b [x0, x1, x2]) (u0 u1 u2 : Value) : Cells (fill3 w b u0 u1 u2) b [u0, u1, u2] := ((h.store (j := 0) rfl u0).store (j := 1) rfl u1).store (j := 2) rfl u2
theorem Cur.fill3 {lo : Nat} {w : World} {cb : Nat} {K : Value} {n : Nat} {rs : List Res} (h : Cur lo w cb K n rs) {b : Nat} (hb : b < lo) (u0 u1 u2 : Value) : Cur lo (Go.Proofs.YtcilgihmaaobeaaDoor.fill3 w b u0 u1 u2) cb K n rs := Cur.storeLow (Cur.storeLow (Cur.storeLow h (p := ⟨b, 0, none⟩) hb u0) (p := ⟨b, 1, none⟩) hb u1) (p := ⟨b, 2, none⟩) hb u2
theorem Below.fill3 {B : Nat} {w0 w : World} (h : Below B w0 w) {b : Nat} (hb : B ≤ b) (u0 u1 u2 : Value) : Below B w0 (Go.Proofs.YtcilgihmaaobeaaDoor.fill3 w b u0 u1 u2) := ((h.setCell (p := ⟨b, 0, none⟩) hb u0).setCell (p := ⟨b, 1, none⟩) hb u1).setCell (p := ⟨b, 2, none⟩) hb u2
end Go.Proofs.YtcilgihmaaobeaaDoor
end

section
namespace Go.Proofs.YtcilgihmaaobeaaDoor
open Go.RowKit Go.Deep Go.Sd
set_option linter.unusedSimpArgs false
/-- Where a word leads from all states. -/
def endN (l : Lb) (wd : List Nat) : Nat := readB l.2.2 (wordT wd).data.toList (allN l.2.1)
def cntF (l : Lb) (wd : List Nat) : Bool := decide (popN (endN l wd) = 1)
def countM (l : Lb) (n : Int) : Int := if (resolvM l && decide (0 ≤ n ∧ n ≤ 6)) = true then (((allW l.1.toNat n.toNat).filter (cntF l)).length : Int) else -1
theorem wordT_bytes {wd : List Nat} (hw : ∀ x, x ∈ wd → x < 3) : ∀ c, c ∈ (wordT wd).data.toList → 97 ≤ c.toNat ∧ c.toNat < 100 := by
  intro c hc
  have h1 : (wordT wd).data.toList = wd.map fun x => UInt8.ofNat (97 + x) := rfl
  rw [h1] at hc
  obtain ⟨x, hx, rfl⟩ := List.mem_map.1 hc
  have := hw x hx
  have e4 : (UInt8.ofNat (97 + x)).toNat = 97 + x := by simp; omega
  omega
set_option maxHeartbeats 2000000 in
set_option maxRecDepth 100000 in
theorem countclo_c {w : World} {bL : Nat} {L S : Int} {a : Option Addr} {n c : Nat} {xs : List Arc3} (hb : Box3 w bL (.int .i64 L) (.int .i64 S) (.slice a n c)) (hfr : ∀ w1, Below w.heap.size w w1 → LabR w1 (.agg #[.int .i64 L, .int .i64 S, .slice a n c]) (L, S, xs)) (ho : okArcs S xs) (hS1 : 1 ≤ S) (hS2 : S ≤ 12) {wd : List Nat} (hw : ∀ x, x ∈ wd → x < 3) (hl : wd.length ≤ 16) :
    Calls Tryd.prog 38 #[.string (wordT wd), .pointer (some ⟨bL, 0, none⟩)] w fun e w' => e = .returned (.bool (cntF (L, S, xs) wd)) ∧ Below w.heap.size w w' := by
  have C1 := Lib.hid (fun w1 (h : Below w.heap.size w w1) => impl_all_c (hfr w1 h) hS1 hS2)
  have C2 := Lib.hid (fun w1 (h : Below w.heap.size w w1) => impl_read_c (hfr w1 h) ho hS2 (allN_lt hS2) (s := wordT wd) (by rw [wordT_size]; unfold maxLen; omega) (fun c hc => (wordT_bytes hw c hc).1))
  have hlt := readB_lt ho hS2 (wordT wd).data.toList (allN S) (allN_lt hS2)
  simp only at C1 C2
  have HF := Lib.hid (show cntF (L, S, xs) wd = decide (popN (readB xs (wordT wd).data.toList (allN S)) = 1) from rfl)
  generalize readB xs (wordT wd).data.toList (allN S) = r at C2 hlt HF
  generalize allN S = A at C1 C2
  have C3 := Lib.hid (fun w => OnesCount_c r hlt w)
  generalize cntF (L, S, xs) wd = T at HF ⊢
  have hur : IntKind.u64.wrap (r : Int) = (r : Int) := IntWalk.u64_in _ (by omega)
  generalize popN r = y at C3 HF
  obtain ⟨m1, hS0⟩ := hb
  have hSd : w.drew.cell? ⟨bL, 0, none⟩ = some (.int .i64 L) ∧ w.drew.cell? ⟨bL, 1, none⟩ = some (.int .i64 S) ∧ w.drew.cell? ⟨bL, 2, none⟩ = some (.slice a n c) := hS0
  have HSS := Lib.hid (fun (w' : World) (hb3 : Below w.heap.size w w') => (show w'.cell? ⟨bL, 0, none⟩ = some (.int .i64 L) ∧ w'.cell? ⟨bL, 1, none⟩ = some (.int .i64 S) ∧ w'.cell? ⟨bL, 2, none⟩ = some (.slice a n c) from ⟨(hb3.cell (p := ⟨bL, 0, none⟩) m1).trans hS0.1, (hb3.cell (p := ⟨bL, 1, none⟩) m1).trans hS0.2.1, (hb3.cell (p := ⟨bL, 2, none⟩) m1).trans hS0.2.2⟩))
  have B1 := (Below.refl w.heap.size w).drew
  have hyT : ∀ b : Bool, b = decide (y = 1) → b = T := fun b h => by rw [h, HF.out]
  have HyT := Lib.hid hyT
  clear hfr ho hS1 hS2 hw hl hlt hyT HF
  go_enter Tryd.func38, Tryd.ntmps38
  go_wp2
  go_region_held3 (fun w' => w'.cell? ⟨bL, 0, none⟩ = some (.int .i64 L) ∧ w'.cell? ⟨bL, 1, none⟩ = some (.int .i64 S) ∧ w'.cell? ⟨bL, 2, none⟩ = some (.slice a n c))
    (first | with_reducible exact hS2 | with_reducible exact hS1 | with_reducible exact hSd | with_reducible exact hS0 | go_keep)
    ((first
      | (go_at_call 31; (with_reducible refine (C3.out _).mono ?_); rintro e w' ⟨rfl, rfl⟩)
      | (go_at_call 39; (with_reducible refine (C2.out _ B2).mono ?_); rintro e w_3 ⟨rfl, hb⟩; have B3 := B2.trans (hb.mono B2.size); have hS2 := HSS.out _ B3; clear hb)
      | (go_at_call 40; (with_reducible refine (C1.out _ B1).mono ?_); rintro e w_2 ⟨rfl, hb⟩; have B2 := B1.trans (hb.mono B1.size); have hS1 := HSS.out _ B2; clear hb)
      | fail))
  go_wp2
  go_ret
  exact ⟨by show Ending.returned (Value.bool ((y : Int) == 1)) = _; rw [HyT.out ((y : Int) == 1) (by rw [Bool.eq_iff_iff]; simp; omega)], B3⟩
set_option maxHeartbeats 4000000 in
set_option maxRecDepth 100000 in
theorem impl_CountSync_c {w : World} {v : Value} {l : Lb} (h : LabR w v l) {m : Int} (hI : I64 m) :
    Calls Tryd.prog 14 #[v, .int .i64 m] w fun e w' => e = .returned (.int .i64 (countM l m)) ∧ Below w.heap.size w w' := by
  have H1 := Lib.hid (fun w1 (hb : Below w.heap.size w w1) => impl_IsResolving_c (LabR.frame _ _ _ _ h hb))
  have Hfr := Lib.hid (fun w1 (hb : Below w.heap.size w w1) => LabR.frame _ _ _ _ h hb)
  obtain ⟨T, hT⟩ : ∃ T, T = countM l m := ⟨_, rfl⟩
  rw [← hT]
  have HT := Lib.hid hT
  clear hT
  have Hok := Lib.hid (fun h => resolv_facts (l := l) h)
  have HF0 := Lib.hid (fun (h : resolvM l = false) => (show countM l m = -1 from by unfold countM; rw [h]; rfl))
  generalize hil : resolvM l = il at H1
  have Hil := Lib.hid hil
  clear hil
  obtain ⟨L, S, xs⟩ := l
  obtain ⟨_, rfl, -, a, c, rfl, -, -, -, -⟩ := h
  simp only at *
  generalize hn : xs.length = n at *
  clear hn
  obtain ⟨w1, ex, hb1, c0, c1, c2, m1⟩ := boxA3_ex w 26 (.int .i64 L) (.int .i64 S) (.slice a n c)
  have A1 := Lib.hid hb1
  clear hb1
  go_enter Tryd.func14, Tryd.ntmps14
  go_wp2_with fail
  refine (H1.out _ A1.out).mono ?_
  rintro e w2 ⟨rfl, hb1⟩
  replace c0 := (hb1.cell (p := ⟨w.heap.size, 0, none⟩) m1).trans c0
  replace c1 := (hb1.cell (p := ⟨w.heap.size, 1, none⟩) m1).trans c1
  replace c2 := (hb1.cell (p := ⟨w.heap.size, 2, none⟩) m1).trans c2
  have m2 : w.heap.size < w2.heap.size := Nat.lt_of_lt_of_le m1 hb1.size
  replace A1 := Lib.hid (A1.out.trans (hb1.mono A1.out.size))
  clear hb1 ex H1 m1
  cases il with
  | false =>
    have HF := Lib.hid (show T = -1 from by rw [HT.out]; exact HF0.out Hil.out)
    clear HT HF0 Hil Hok Hfr
    go_wp2
    go_ret
    exact ⟨by rw [HF.out]; rfl, A1.out⟩
  | true =>
  have Hil2 := Lib.hid (Hok.out Hil.out)
  clear Hok HF0
  obtain ⟨ho, hS1, hS2, hL1, hL2⟩ := Hil2.out
  by_cases h0 : m < 0
  · have HF := Lib.hid (show T = -1 from by rw [HT.out]; unfold countM; rw [decide_eq_false (by omega)]; simp)
    clear HT Hil Hil2 ho Hfr
    go_wp2
    go_ret
    exact ⟨by rw [HF.out]; rfl, A1.out⟩
  by_cases h6 : 6 < m
  · have HF := Lib.hid (show T = -1 from by rw [HT.out]; unfold countM; rw [decide_eq_false (by omega)]; simp)
    clear HT Hil Hil2 ho Hfr
    go_wp2
    go_ret
    exact ⟨by rw [HF.out]; rfl, A1.out⟩
  obtain ⟨N, rfl⟩ := Int.eq_ofNat_of_zero_le (show 0 ≤ L by omega)
  obtain ⟨k, rfl⟩ := Int.eq_ofNat_of_zero_le (show 0 ≤ m by omega)
  have HT2 := Lib.hid (show T = (((allW N k).filter (cntF ((N : Int), S, xs))).length : Int) from by rw [HT.out]; unfold countM; rw [Hil.out, decide_eq_true (by omega)]; rfl)
  have hbx : Box3 w2 w.heap.size (.int .i64 (N : Int)) (.int .i64 S) (.slice a n c) := ⟨m2, c0, c1, c2⟩
  have HR := Lib.hid (filtered_c (w := w2) (L := N) (n := k) (by omega) (by omega) (by omega) (F := 38) (caps := #[.pointer (some ⟨w.heap.size, 0, none⟩)]) (f := cntF ((N : Int), S, xs)) (fun _ _ => rfl) (fun w1 wd hb hl hx => countclo_c (hbx.below hb m2) (fun w3 hb3 => Hfr.out w3 (A1.out.trans ((hb.trans (hb3.mono hb.size)).mono (by omega)))) ho hS1 hS2 (fun x h => by have := hx x h; omega) (by omega)))
  have hmf : ∀ (fn : Fn) (first cap : Array Value) (w : World), (Instr.makeFunc fn first cap).run Tryd.prog w = .ok (.func fn first cap) w := fun _ _ _ _ => rfl
  clear HT Hil Hil2 ho Hfr hbx hS1 hS2 hL1 hL2
  go_wp2_with fail
  refine HR.out.mono ?_
  rintro e w3 ⟨r, rfl, hn, hb⟩
  have hn2 : SlOf (ValR Value.string) w3 r (((allW N k).filter (cntF ((N : Int), S, xs))).map wordT) := by obtain ⟨F, hF, _⟩ := hn; exact OwnOf.reads (fun _ _ _ _ h => h.1) hF
  obtain ⟨ra, rc, rfl, _⟩ := hn2.shape
  have A3 := Lib.hid (A1.out.trans (hb.mono A1.out.size))
  rw [List.length_map]
  generalize ((allW N k).filter (cntF ((N : Int), S, xs))).length = q at HT2 ⊢
  clear hn hn2 hb HR c0 c1 c2 hmf
  go_wp2
  go_ret
  exact ⟨by rw [HT2.out]; rfl, A3.out⟩
end Go.Proofs.YtcilgihmaaobeaaDoor
end

section
namespace Go.Proofs.YtcilgihmaaobeaaDoor
open Go.RowKit Go.Deep Go.Sd
set_option linter.unusedSimpArgs false
theorem letB_of {N : Nat} (hN : N ≤ 3) : ∀ wd : List Nat, (∀ x, x ∈ wd → x < N) → letB (N : Int) (wd.map fun x => UInt8.ofNat (97 + x)) = true
  | [], _ => rfl
  | x :: wd, h => by
    have hx := h x (by simp)
    have e4 : (UInt8.ofNat (97 + x)).toNat = 97 + x := by simp; omega
    simp only [List.map_cons, letB]
    rw [e4, if_pos (by omega)]
    exact letB_of hN wd fun y hy => h y (List.mem_cons_of_mem _ hy)
theorem wordM_of {N : Nat} (h1 : 1 ≤ N) (hN : N ≤ 3) {wd : List Nat} (hl : wd.length ≤ 16) (hw : ∀ x, x ∈ wd → x < N) : wordM (N : Int) (wordT wd) = true := by
  unfold wordM
  rw [decide_eq_true (by omega), wordT_size, decide_eq_true hl]
  exact letB_of hN wd hw
theorem rank_cnt {L : Lb} {N : Nat} (hr : resolvM L = true) (hL : L.1 = (N : Int)) (h1 : 1 ≤ N) (hN : N ≤ 3) {wd : List Nat} (hl : wd.length ≤ 16) (hw : ∀ x, x ∈ wd → x < N) : decide (rankM L (wordT wd) = 1) = cntF L wd := by
  unfold rankM cntF endN
  rw [hr, hL, wordM_of h1 hN hl hw, if_pos (show (true && true) = true from rfl)]
  by_cases h : popN (readB L.2.2 (wordT wd).data.toList (allN L.2.1)) = 1
  · rw [decide_eq_true h, decide_eq_true (by omega)]
  · rw [decide_eq_false h, decide_eq_false (by omega)]
theorem l1Bit_c (b : Bool) (w : World) : Calls Tryd.prog 35 #[.bool b] w fun e w' => e = .returned (.int .i64 (if b = true then 1 else 0)) ∧ w = w' := by
  cases b with
  | true =>
    go_enter Tryd.func35, Tryd.ntmps35
    go_wp2
    go_ret
    exact ⟨rfl, rfl⟩
  | false =>
    go_enter Tryd.func35, Tryd.ntmps35
    go_wp2
    go_ret
    exact ⟨rfl, rfl⟩
set_option maxHeartbeats 4000000 in
set_option maxRecDepth 100000 in
theorem spec_CountSync_c {w : World} {v : Value} {l : Lb} (h : LabR w v l) {m : Int} (hI : I64 m) :
    Calls Tryd.prog 15 #[v, .int .i64 m] w fun e w' => e = .returned (.int .i64 (countM l m)) ∧ Below w.heap.size w w' := by
  have H1 := Lib.hid (fun w1 (hb : Below w.heap.size w w1) => spec_IsResolving_c (LabR.frame _ _ _ _ h hb))
  have Hfr := Lib.hid (fun w1 (hb : Below w.heap.size w w1) => LabR.frame _ _ _ _ h hb)
  obtain ⟨T, hT⟩ : ∃ T, T = countM l m := ⟨_, rfl⟩
  rw [← hT]
  have HT := Lib.hid hT
  clear hT
  have Hok := Lib.hid (fun h => resolv_facts (l := l) h)
  have HF0 := Lib.hid (fun (h : resolvM l = false) => (show countM l m = -1 from by unfold countM; rw [h]; rfl))
  generalize hil : resolvM l = il at H1
  have Hil := Lib.hid hil
  clear hil
  obtain ⟨L, S, xs⟩ := l
  obtain ⟨_, rfl, -, a, c, rfl, -, -, -, -⟩ := h
  simp only at *
  generalize hn : xs.length = n at *
  clear hn
  obtain ⟨w1, ex, hb1, c0, c1, c2, m1⟩ := boxA3_ex w 26 (.int .i64 L) (.int .i64 S) (.slice a n c)
  have A1 := Lib.hid hb1
  clear hb1
  go_enter Tryd.func15, Tryd.ntmps15
  go_wp2_with fail
  refine (H1.out _ A1.out).mono ?_
  rintro e w2 ⟨rfl, hb1⟩
  replace c0 := (hb1.cell (p := ⟨w.heap.size, 0, none⟩) m1).trans c0
  replace c1 := (hb1.cell (p := ⟨w.heap.size, 1, none⟩) m1).trans c1
  replace c2 := (hb1.cell (p := ⟨w.heap.size, 2, none⟩) m1).trans c2
  have m2 : w.heap.size < w2.heap.size := Nat.lt_of_lt_of_le m1 hb1.size
  replace A1 := Lib.hid (A1.out.trans (hb1.mono A1.out.size))
  clear hb1 ex H1 m1
  cases il with
  | false =>
    have HF := Lib.hid (show T = -1 from by rw [HT.out]; exact HF0.out Hil.out)
    clear HT HF0 Hil Hok Hfr
    go_wp2
    go_ret
    exact ⟨by rw [HF.out]; rfl, A1.out⟩
  | true =>
  have Hil2 := Lib.hid (Hok.out Hil.out)
  clear Hok HF0
  have Hin := Lib.hid (fun w1 => l1In_c m 0 6 w1)
  by_cases h06 : ¬ (0 ≤ m ∧ m ≤ 6)
  · have HF := Lib.hid (show T = -1 from by rw [HT.out]; unfold countM; rw [decide_eq_false h06]; simp)
    have hin : (decide (0 ≤ m) && decide (m ≤ 6)) = false := by
      by_cases h0 : 0 ≤ m
      · rw [decide_eq_true h0, decide_eq_false (by omega)]; rfl
      · rw [decide_eq_false h0]; rfl
    rw [hin] at Hin
    clear HT Hil Hil2 Hfr hin h06
    go_wp2_with fail
    refine (Hin.out _).mono ?_
    rintro e w' ⟨rfl, rfl⟩
    go_wp2
    go_ret
    exact ⟨by rw [HF.out]; rfl, A1.out⟩
  have h06' : 0 ≤ m ∧ m ≤ 6 := by omega
  have hin : (decide (0 ≤ m) && decide (m ≤ 6)) = true := by rw [decide_eq_true h06'.1, decide_eq_true h06'.2]; rfl
  rw [hin] at Hin
  obtain ⟨ho, hS1, hS2, hL1, hL2⟩ := Hil2.out
  obtain ⟨N, rfl⟩ := Int.eq_ofNat_of_zero_le (show 0 ≤ L by omega)
  obtain ⟨k, rfl⟩ := Int.eq_ofNat_of_zero_le (show 0 ≤ m by omega)
  have HT2 := Lib.hid (show T = (((allW N k).filter (cntF ((N : Int), S, xs))).length : Int) from by rw [HT.out]; unfold countM; rw [Hil.out, decide_eq_true (by omega)]; rfl)
  have HA := Lib.hid (fun w1 => l2All_c (w := w1) (L := N) (n := k) (by omega) (by omega) (by omega))
  have Hme := Lib.hid (fun wd (h : wd ∈ allW N k) => (show (wd.length ≤ 16 ∧ ∀ x, x ∈ wd → x < N) from by have h1 := allW_mem (show 0 < N by omega) h; exact ⟨by omega, h1.2⟩))
  have Hsy := Lib.hid (fun wd (h : wd ∈ allW N k) => (show decide (rankM ((N : Int), S, xs) (wordT wd) = 1) = cntF ((N : Int), S, xs) wd from rank_cnt (N := N) Hil.out rfl (by omega) (by omega) (Hme.out wd h).1 (Hme.out wd h).2))
  have HC := Lib.hid (fun w1 wd (hb : Below w.heap.size w w1) (h : wd ∈ allW N k) => (show Calls Tryd.prog 13 #[.agg #[.int .i64 (N : Int), .int .i64 S, .slice a n c], .string (wordT wd)] w1 fun e w' => e = .returned (.bool (cntF ((N : Int), S, xs) wd)) ∧ Below w1.heap.size w1 w' from by rw [← Hsy.out wd h]; exact spec_IsSynchronizing_c (Hfr.out w1 hb) (by rw [wordT_size]; have := (Hme.out wd h).1; unfold maxLen; omega)))
  have hlen : (allW N k).length ≤ 729 := by rw [allW_len (by omega)]; exact pow_le (by omega) (by omega)
  generalize cntF ((N : Int), S, xs) = f at HT2 HC
  generalize allW N k = A at HT2 HA HC hlen
  clear HT Hil Hil2 ho Hfr hS1 hS2 hL1 hL2 hin h06 h06' Hsy Hme
  go_wp2_with fail
  refine (Hin.out _).mono ?_
  rintro e w' ⟨rfl, rfl⟩
  go_wp2_with fail
  refine (HA.out _).mono ?_
  rintro e w3 ⟨r, rfl, hn, hb⟩
  have hn2 : SlOf (ValR Value.string) w3 r (A.map wordT) := by obtain ⟨F, hF, _⟩ := hn; exact OwnOf.reads (fun _ _ _ _ h => h.1) hF
  obtain ⟨ra, rc, rfl, _, _, hcell⟩ := hn2.shape
  have A3 := Lib.hid (A1.out.trans (hb.mono A1.out.size))
  replace c0 := (hb.cell (p := ⟨w.heap.size, 0, none⟩) m2).trans c0
  replace c1 := (hb.cell (p := ⟨w.heap.size, 1, none⟩) m2).trans c1
  replace c2 := (hb.cell (p := ⟨w.heap.size, 2, none⟩) m2).trans c2
  have m3 : w.heap.size < w3.heap.size := Nat.lt_of_lt_of_le m2 hb.size
  have K0 := Lib.hid c0
  have K1 := Lib.hid c1
  have K2 := Lib.hid c2
  have Hcell := Lib.hid hcell
  rw [List.length_map] at Hcell ⊢
  clear hn hn2 hb HA A1 Hin hcell c0 c1 c2 m2
  go_wp2
  go_loopg [5, 7] A.length (fun g s i wr => ∃ (j : Nat), s = .int .i64 (((A.take j).filter f).length : Int) ∧ i = .int .i64 j ∧ j + g = A.length ∧ Hid (Below w3.heap.size w3 wr))
  case atStart => exact ⟨0, rfl, rfl, by omega, Lib.hid (Below.refl _ _)⟩
  case round =>
    obtain ⟨j, rfl, rfl, hj, HB⟩ := hrel
    by_cases hjl : j < A.length
    · obtain ⟨wd, hwd, _⟩ := at_lt hjl
      obtain ⟨b, o, rfl, hb, hx0⟩ := Hcell.out (by omega)
      obtain ⟨u, hu, rfl⟩ := hx0 j (wordT wd) (by simp [hwd])
      have g0 := (HB.out.cell (p := ⟨b, o + j, none⟩) hb).trans hu
      have hz := HB.out.size
      have c0 := (HB.out.cell (p := ⟨w.heap.size, 0, none⟩) m3).trans K0.out
      have c1 := (HB.out.cell (p := ⟨w.heap.size, 1, none⟩) m3).trans K1.out
      have c2 := (HB.out.cell (p := ⟨w.heap.size, 2, none⟩) m3).trans K2.out
      have AW := Lib.hid (A3.out.trans (HB.out.mono A3.out.size))
      have C1 := Lib.hid (fun w1 (h : Below w.heap.size w w1) => HC.out w1 wd h (List.mem_of_getElem? hwd))
      have HT := Lib.hid (show (((A.take (j + 1)).filter f).length : Int) = (((A.take j).filter f).length : Int) + (if f wd = true then 1 else 0) from by
        rw [← take_snoc' hwd, List.filter_append, List.length_append]
        cases hf : f wd <;> simp [List.filter_cons, hf])
      have hfl : ((A.take j).filter f).length ≤ 729 := Nat.le_trans (List.length_filter_le _ _) (by simp; omega)
      generalize ((A.take j).filter f).length = q at HT hfl ⊢
      generalize f wd = fb at C1 HT
      have C2 := Lib.hid (fun w => l1Bit_c fb w)
      have hz' : (if fb = true then (1 : Int) else 0) = 0 ∨ (if fb = true then (1 : Int) else 0) = 1 := by cases fb <;> simp
      generalize (if fb = true then (1 : Int) else 0) = z at C2 HT hz'
      have hwz : wrap64 ((q : Int) + z) = (q : Int) + z := IntWalk.wrap64_in _ (by omega)
      have hwz2 : IntKind.i64.wrap ((q : Int) + z) = (q : Int) + z := IntWalk.i64_in _ (by omega)
      have hji : (j : Int) < (A.length : Int) := by omega
      have hS0 : wr.cell? ⟨w.heap.size, 0, none⟩ = some (.int .i64 (N : Int)) ∧ wr.cell? ⟨w.heap.size, 1, none⟩ = some (.int .i64 S) ∧ wr.cell? ⟨w.heap.size, 2, none⟩ = some (.slice a n c) ∧ wr.cell? ⟨b, o + j, none⟩ = some (.string (wordT wd)) := ⟨c0, c1, c2, g0⟩
      have hSd : wr.drew.cell? ⟨w.heap.size, 0, none⟩ = some (.int .i64 (N : Int)) ∧ wr.drew.cell? ⟨w.heap.size, 1, none⟩ = some (.int .i64 S) ∧ wr.drew.cell? ⟨w.heap.size, 2, none⟩ = some (.slice a n c) ∧ wr.drew.cell? ⟨b, o + j, none⟩ = some (.string (wordT wd)) := hS0
      have m4 : w.heap.size < wr.heap.size := by omega
      have hb4 : b < wr.heap.size := by omega
      have HSS := Lib.hid (fun (w' : World) (hb3 : Below wr.heap.size wr w') => (show w'.cell? ⟨w.heap.size, 0, none⟩ = some (.int .i64 (N : Int)) ∧ w'.cell? ⟨w.heap.size, 1, none⟩ = some (.int .i64 S) ∧ w'.cell? ⟨w.heap.size, 2, none⟩ = some (.slice a n c) ∧ w'.cell? ⟨b, o + j, none⟩ = some (.string (wordT wd)) from ⟨(hb3.cell (p := ⟨w.heap.size, 0, none⟩) m4).trans hS0.1, (hb3.cell (p := ⟨w.heap.size, 1, none⟩) m4).trans hS0.2.1, (hb3.cell (p := ⟨w.heap.size, 2, none⟩) m4).trans hS0.2.2.1, (hb3.cell (p := ⟨b, o + j, none⟩) hb4).trans hS0.2.2.2⟩))
      have B1 := (Below.refl wr.heap.size wr).drew
      have AW1 := AW.out.trans (B1.mono AW.out.size)
      clear hwd hx0 hu g0 c0 c1 c2 hz'
      go_wp2
      go_region_held3 (fun w' => w'.cell? ⟨w.heap.size, 0, none⟩ = some (.int .i64 (N : Int)) ∧ w'.cell? ⟨w.heap.size, 1, none⟩ = some (.int .i64 S) ∧ w'.cell? ⟨w.heap.size, 2, none⟩ = some (.slice a n c) ∧ w'.cell? ⟨b, o + j, none⟩ = some (.string (wordT wd)))
        (first | with_reducible exact hS1 | with_reducible exact hSd | with_reducible exact hS0 | go_keep)
        ((first
          | (go_at_call 35; (with_reducible refine (C2.out _).mono ?_); rintro e w' ⟨rfl, rfl⟩)
          | (go_at_call 13; (with_reducible refine (C1.out _ AW1).mono ?_); rintro e w4 ⟨rfl, hb⟩; have B2 := B1.trans (hb.mono B1.size); have hS1 := HSS.out _ B2; clear hb)
          | fail))
      have HB2 := Lib.hid (HB.out.trans (B2.mono hz))
      clear hS0 hSd HSS B1 B2 AW1 hS1
      go_wp2
      go_roundg (A.length - (j + 1))
      case measure => omega
      case rel => exact ⟨j + 1, by rw [HT.out], by go_num, by omega, HB2⟩
    · have HF := Lib.hid (show T = (((A.take j).filter f).length : Int) from by rw [HT2.out, List.take_of_length_le (by omega)])
      have hji : ¬ ((j : Int) < (A.length : Int)) := by omega
      generalize ((A.take j).filter f).length = q at HF ⊢
      have AW := Lib.hid (A3.out.trans (HB.out.mono A3.out.size))
      clear HB Hcell
      go_wp2
      go_ret
      exact ⟨by rw [HF.out]; rfl, AW.out⟩
end Go.Proofs.YtcilgihmaaobeaaDoor
end

section
namespace Go.Proofs.YtcilgihmaaobeaaDoor
open Go.RowKit Go.Deep Go.Sd
set_option linter.unusedSimpArgs false
set_option maxHeartbeats 4000000 in
set_option maxRecDepth 100000 in
theorem DrawCountSync_c {w : World} {vc : Value} {xs : List Int} (h : BytR w vc xs) :
    Calls Tryd.prog 9 #[vc] w fun e w' => ∃ (v : Value) (l : Lb) (p : Int), e = .returned (.tuple #[v, .int .i64 p]) ∧ New OLab w.heap.size w' v l ∧ (-1 ≤ p ∧ p ≤ 4) ∧ Below w.heap.size w w' := by
  obtain ⟨wA, eA, hA⟩ : ∃ x, x = w.alloc (.cells #[.int .i64 0, .int .i64 0, .slice none 0 0] 26) ∧ Below w.heap.size w x := ⟨_, rfl, (Below.refl _ _).alloc (Nat.le_refl _) _⟩
  have hA' : BytR wA vc xs := BytR.frame _ _ _ _ h hA
  have HN := Lib.hid (l1New_c hA')
  have HK := Lib.hid (fun w' (hb : Below wA.heap.size wA w') => BytR.frame _ _ _ _ hA' hb)
  obtain ⟨a, c, rfl, -⟩ := h.cellsB
  have R0 := Lib.hid (show wA.cell? ⟨w.heap.size, 0, none⟩ = some (.int .i64 0) from by rw [eA]; simp [go_sem])
  have R1 := Lib.hid (show wA.cell? ⟨w.heap.size, 1, none⟩ = some (.int .i64 0) from by rw [eA]; simp [go_sem])
  have R2 := Lib.hid (show wA.cell? ⟨w.heap.size, 2, none⟩ = some (.slice none 0 0) from by rw [eA]; simp [go_sem])
  have F0 := Lib.hid (show wA.frozen? ⟨w.heap.size, 0, none⟩ = false from by rw [eA]; simp [go_sem])
  have F1 := Lib.hid (show wA.frozen? ⟨w.heap.size, 1, none⟩ = false from by rw [eA]; simp [go_sem])
  have F2 := Lib.hid (show wA.frozen? ⟨w.heap.size, 2, none⟩ = false from by rw [eA]; simp [go_sem])
  have zA : w.heap.size < wA.heap.size := by rw [eA]; simp
  have HA := Lib.hid hA
  have eAs := eA.symm
  clear h hA hA' eA
  go_enter Tryd.func9, Tryd.ntmps9
  go_wp2_with fail
  (with_reducible refine HN.out.mono ?_)
  rintro e w1 ⟨rfl, ⟨hh, hs⟩, hb⟩
  have HC1 := Lib.hid (show Cur wA.heap.size w1 wA.heap.size (.slice a xs.length c) xs.length [] from ⟨0, hh, Nat.zero_le _, hs⟩)
  have HB1 := Lib.hid hb
  have hz1 := hb.size
  clear hs hb HN eAs
  have HL := Lib.hid (l15Draw_c (fun w' hb' => HK.out w' (HB1.out.trans hb')) HC1.out hz1)
  go_wp2_with fail
  (with_reducible refine HL.out.mono ?_)
  rintro e w2 ⟨v, l, rfl, hc, hb⟩
  have HC2 := Lib.hid hc
  have HX2 := Lib.hid (HB1.out.trans hb)
  have hz2 := HX2.out.size
  have HP := Lib.hid (l1Below_i (z := 5) (fun w' hb' => HK.out w' (HX2.out.trans hb')) HC2.out hz2 (by omega) (by omega))
  clear hc hb HL HC1 HB1 hz1
  go_wp2_with fail
  (with_reducible refine HP.out.mono ?_)
  rintro e w3 ⟨q, rfl, hq, hc, hb, ho⟩
  have hq5 : q < 5 := hq
  have HC3 := Lib.hid hc
  have HX3 := Lib.hid (HX2.out.trans hb)
  have hz3 := HX3.out.size
  have HO := Lib.hid (l1Once_i (z := 12) (fun w' hb' => HK.out w' (HX3.out.trans hb')) HC3.out hz3 (by omega) (by omega))
  clear hc hb ho hq HP HC2 HX2 hz2
  go_wp2_with fail
  (with_reducible refine HO.out.mono ?_)
  rintro e w4 ⟨b, rfl, hc, hb, ho⟩
  have HC4 := Lib.hid hc
  have HX4 := Lib.hid (HX3.out.trans hb)
  have hz4 := HX4.out.size
  have HBt := Lib.hid (fun w => l1Bit_c b w)
  obtain ⟨d, hd, hd0, hd1⟩ : ∃ d : Int, d = (if b = true then 1 else 0) ∧ 0 ≤ d ∧ d ≤ 1 := ⟨_, rfl, by split <;> decide, by split <;> decide⟩
  rw [← hd] at HBt
  clear hc hb ho hd HO HC3 HX3 hz3
  go_wp2_with fail
  (with_reducible refine (HBt.out _).mono ?_)
  rintro e w5 ⟨rfl, rfl⟩
  obtain ⟨p, hp⟩ : ∃ p : Int, p = (q : Int) - d := ⟨_, rfl⟩
  have hp1 : (q : Int) - d = p := hp.symm
  have hp2 : IntKind.i64.wrap p = p := IntWalk.i64_in _ (by omega)
  have Hp := Lib.hid (show -1 ≤ p ∧ p ≤ 4 from by omega)
  clear hp HBt
  have HB2 := HX4
  obtain ⟨ya, yc, rfl⟩ := HC4.out.labSlice
  have Hn := Lib.hid HC4.out.out.headNew
  clear HC4 hz4 hd0 hd1 hq5
  obtain ⟨al, hal⟩ : ∃ n, n = l.2.2.length := ⟨_, rfl⟩
  rw [← hal] at Hn ⊢
  clear hal
  replace R0 := (HB2.out.cell (p := ⟨w.heap.size, 0, none⟩) zA).trans R0.out
  replace F0 := (HB2.out.frozen (p := ⟨w.heap.size, 0, none⟩) zA).trans F0.out
  replace R1 := (HB2.out.cell (p := ⟨w.heap.size, 1, none⟩) zA).trans R1.out
  replace F1 := (HB2.out.frozen (p := ⟨w.heap.size, 1, none⟩) zA).trans F1.out
  replace R2 := (HB2.out.cell (p := ⟨w.heap.size, 2, none⟩) zA).trans R2.out
  replace F2 := (HB2.out.frozen (p := ⟨w.heap.size, 2, none⟩) zA).trans F2.out
  go_wp2_with fail
  have s0 := World.cell?_setCell_same w4 _ (.int .i64 l.1) R0
  have u1 := (World.cell?_setCell_other w4 ⟨w.heap.size, 0, none⟩ ⟨w.heap.size, 1, none⟩ (.int .i64 l.1) (by simp)).trans R1
  have s1 := World.cell?_setCell_same _ _ (.int .i64 l.2.1) u1
  have u2 := (World.cell?_setCell_other _ ⟨w.heap.size, 1, none⟩ ⟨w.heap.size, 2, none⟩ (.int .i64 l.2.1) (by simp)).trans ((World.cell?_setCell_other w4 ⟨w.heap.size, 0, none⟩ ⟨w.heap.size, 2, none⟩ (.int .i64 l.1) (by simp)).trans R2)
  have s2 := World.cell?_setCell_same _ _ (.slice ya al yc) u2
  have v1 := (World.cell?_setCell_other _ ⟨w.heap.size, 2, none⟩ ⟨w.heap.size, 1, none⟩ (.slice ya al yc) (by simp)).trans s1
  have v0 := (World.cell?_setCell_other _ ⟨w.heap.size, 2, none⟩ ⟨w.heap.size, 0, none⟩ (.slice ya al yc) (by simp)).trans ((World.cell?_setCell_other _ ⟨w.heap.size, 1, none⟩ ⟨w.heap.size, 0, none⟩ (.int .i64 l.2.1) (by simp)).trans s0)
  refine bodyPost_ret (v := .tuple #[.agg #[.int .i64 l.1, .int .i64 l.2.1, .slice ya al yc], .int .i64 p]) (by simp [results, Tryd.results9, go_sem, v0, v1, s2]) rfl ?_
  exact ⟨_, l, p, rfl, (New.storeLow OLab.held (New.storeLow OLab.held (New.storeLow OLab.held Hn.out (p := ⟨w.heap.size, 0, none⟩) zA (.int .i64 l.1)) (p := ⟨w.heap.size, 1, none⟩) zA (.int .i64 l.2.1)) (p := ⟨w.heap.size, 2, none⟩) zA (.slice ya al yc)).mono (Nat.le_of_lt zA), ⟨Hp.out.1, Hp.out.2⟩, ((((HA.out.trans (HB2.out.mono (Nat.le_of_lt zA))).setCell (p := ⟨w.heap.size, 0, none⟩) (Nat.le_refl _) _).setCell (p := ⟨w.heap.size, 1, none⟩) (Nat.le_refl _) _).setCell (p := ⟨w.heap.size, 2, none⟩) (Nat.le_refl _) _)⟩
end Go.Proofs.YtcilgihmaaobeaaDoor
end

section
namespace Go.Proofs.YtcilgihmaaobeaaDoor
open Go.RowKit Go.Deep Go.Sd
theorem posS_pre {sets : List Nat} {t : Nat} (h : t = 0 ∨ t ∈ sets) (u : List Nat) : posS (sets ++ u) t = posS sets t := by
  unfold posS
  by_cases e : t = 0
  · rw [if_pos e, if_pos e]
  · rw [if_neg e, if_neg e]
    rcases h with h | h
    · exact absurd h e
    · rw [List.idxOf_append, if_pos h]
theorem idxOf_no {x : Nat} : ∀ {l : List Nat}, x ∉ l → l.idxOf x = l.length
  | [], _ => rfl
  | y :: l, h => by
    have h1 : y ≠ x := fun e => h (by simp [e])
    have h2 : x ∉ l := fun e => h (by simp [e])
    rw [List.idxOf_cons, idxOf_no h2, show (y == x) = false by simpa using h1]
    rfl
theorem addS_has (sets : List Nat) (t : Nat) : t = 0 ∨ t ∈ addS sets t := by
  unfold addS
  by_cases e : t = 0 ∨ t ∈ sets
  · rw [if_pos e]; exact e
  · rw [if_neg e]; exact Or.inr (by simp)
theorem posS_add (sets : List Nat) (t : Nat) : posS (addS sets t) t = posS sets t := by
  unfold addS
  by_cases e : t = 0 ∨ t ∈ sets
  · rw [if_pos e]
  · rw [if_neg e]
    rw [not_or] at e
    unfold posS
    rw [if_neg e.1, if_neg e.1, List.idxOf_append, if_neg e.2, idxOf_no e.2]
    simp
section
variable {A : List Arc3}
theorem rowS_spec (s : Nat) : ∀ (n x : Nat) (sets : List Nat) (row : List Int), ∃ u, (rowS A s n x sets row).1 = sets ++ u ∧ (∀ t, t ∈ u → ∃ y, x ≤ y ∧ y < x + n ∧ t = stepN A s (y : Int)) ∧
    (∀ y, x ≤ y → y < x + n → stepN A s (y : Int) = 0 ∨ stepN A s (y : Int) ∈ sets ++ u) ∧
    (rowS A s n x sets row).2 = row ++ (List.range' x n).map fun y : Nat => posS (sets ++ u) (stepN A s (y : Int))
  | 0, x, sets, row => ⟨[], by simp [rowS], by simp, by intro y h1 h2; omega, by simp [rowS]⟩
  | n + 1, x, sets, row => by
    obtain ⟨v, h1, h2, h3, h4⟩ := rowS_spec s n (x + 1) (addS sets (stepN A s (x : Int))) (row ++ [posS sets (stepN A s (x : Int))])
    obtain ⟨a, ha⟩ := addS_pre sets (stepN A s (x : Int))
    have hhas := addS_has sets (stepN A s (x : Int))
    have hpos := posS_add sets (stepN A s (x : Int))
    have ham : ∀ t, t ∈ a → t = stepN A s (x : Int) := by
      intro t ht
      unfold addS at ha
      split at ha
      · have : a = [] := by simpa using ha
        rw [this] at ht; cases ht
      · have : a = [stepN A s (x : Int)] := List.append_cancel_left ha.symm
        rw [this] at ht
        simpa using ht
    refine ⟨a ++ v, by show (rowS A s n (x + 1) _ _).1 = _; rw [h1, ha, List.append_assoc], fun t ht => ?_, fun y hy1 hy2 => ?_, ?_⟩
    · rcases List.mem_append.1 ht with ht | ht
      · exact ⟨x, Nat.le_refl _, by omega, ham t ht⟩
      · obtain ⟨y, k1, k2, k3⟩ := h2 t ht
        exact ⟨y, by omega, by omega, k3⟩
    · rw [← List.append_assoc, ← ha]
      by_cases e : y = x
      · subst e
        rcases hhas with h | h
        · exact Or.inl h
        · exact Or.inr (List.mem_append_left _ h)
      · exact h3 y (by omega) (by omega)
    · show (rowS A s n (x + 1) _ _).2 = _
      rw [h4, List.append_assoc, ← List.append_assoc sets a v, ← ha, List.range'_succ, List.map_cons, posS_pre hhas, hpos]
      rfl
theorem range'_zero (L : Nat) (f : Nat → Int) : (List.range' 0 L).map f = (List.range L).map f := by rw [List.range_eq_range']
/-- How the search stands: the sets ahead of k are done. -/
structure BInv (A : List Arc3) (L s0 : Nat) (sets : List Nat) (k : Nat) (next : List (List Int)) : Prop where
  ok : OkS sets
  first : sets[0]? = some s0
  cnt : next.length = k
  le : k ≤ sets.length
  reach : ∀ s, s ∈ sets → ∃ wd, Lets L wd ∧ readB A (bl wd) s0 = s
  row : ∀ i s, i < k → sets[i]? = some s → next[i]? = some ((List.range L).map fun y : Nat => posS sets (stepN A s (y : Int))) ∧ ∀ y, y < L → stepN A s (y : Int) = 0 ∨ stepN A s (y : Int) ∈ sets
theorem BInv.step {L s0 : Nat} (hL : L ≤ 3) (hA : ∀ s x, stepN A s x < 4096) {sets : List Nat} {k : Nat} {next : List (List Int)} (h : BInv A L s0 sets k next) {s : Nat} (hs : sets[k]? = some s) :
    BInv A L s0 (rowS A s L 0 sets []).1 (k + 1) (next ++ [(rowS A s L 0 sets []).2]) := by
  obtain ⟨u, h1, h2, h3, h4⟩ := rowS_spec (A := A) s L 0 sets []
  have hok := rowS_ok hA s L 0 sets [] h.ok
  rw [h1] at hok ⊢
  rw [h4]
  have hkl := (List.getElem?_eq_some_iff.1 hs).1
  refine ⟨hok, ?_, by rw [List.length_append, h.cnt]; rfl, by rw [List.length_append]; omega, fun t ht => ?_, fun i t hi ht => ?_⟩
  · rw [List.getElem?_append_left (by omega)]; exact h.first
  · rcases List.mem_append.1 ht with ht | ht
    · exact h.reach t ht
    · obtain ⟨y, -, hy, rfl⟩ := h2 t ht
      obtain ⟨wd, hw, e⟩ := h.reach s (List.mem_of_getElem? hs)
      exact ⟨wd ++ [y], hw.snoc (by omega), by rw [bl_snoc (by omega), e]⟩
  · rw [List.nil_append, range'_zero]
    by_cases e : i = k
    · subst e
      rw [List.getElem?_append_left hkl, hs] at ht
      cases ht
      refine ⟨?_, fun y hy => h3 y (by omega) (by omega)⟩
      rw [List.getElem?_append_right (by rw [h.cnt]; omega), h.cnt]
      simp
    · rw [List.getElem?_append_left (by omega)] at ht
      obtain ⟨k1, k2⟩ := h.row i t (by omega) ht
      refine ⟨?_, fun y hy => ?_⟩
      · rw [List.getElem?_append_left (by rw [h.cnt]; omega), k1]
        congr 1
        refine List.map_congr_left fun y hy => ?_
        rw [posS_pre (k2 y (List.mem_range.1 hy))]
      · rcases k2 y hy with h | h
        · exact Or.inl h
        · exact Or.inr (List.mem_append_left _ h)
theorem bfsS_inv {L s0 : Nat} (hL : L ≤ 3) (hA : ∀ s x, stepN A s x < 4096) : ∀ (f : Nat) {sets : List Nat} {k : Nat} {next : List (List Int)}, BInv A L s0 sets k next → 4096 ≤ f + k →
    BInv A L s0 (bfsS A L f sets k next).1 (bfsS A L f sets k next).1.length (bfsS A L f sets k next).2
  | 0, sets, k, next, h, hf => by
    have := h.ok.len
    have := h.le
    omega
  | f + 1, sets, k, next, h, hf => by
    unfold bfsS
    cases e : sets[k]? with
    | none =>
      have : k = sets.length := by
        have := List.getElem?_eq_none_iff.1 e
        have := h.le
        omega
      subst this
      exact h
    | some s => exact bfsS_inv hL hA f (h.step hL hA e) (by omega)
theorem BInv.start {L s0 : Nat} (h0 : 0 < s0) (h1 : s0 < 4096) : BInv A L s0 [s0] 0 [] := by
  refine ⟨⟨by simp, fun s hs => by simp at hs; subst hs; exact ⟨h0, h1⟩⟩, rfl, rfl, by simp, fun s hs => ?_, fun i s hi => by omega⟩
  simp at hs
  subst hs
  exact ⟨[], Lets.nil _, rfl⟩
/-- All that is read lies among the sets, or is empty. -/
theorem BInv.closed {L s0 : Nat} (hL : L ≤ 3) {sets : List Nat} {next : List (List Int)} (h : BInv A L s0 sets sets.length next) (wd : List Nat) : Lets L wd → readB A (bl wd) s0 = 0 ∨ readB A (bl wd) s0 ∈ sets := by
  induction wd using snoc_rec with
  | h0 => exact fun _ => Or.inr (List.mem_of_getElem? h.first)
  | h1 u x ih =>
  intro hl
  have hx := hl.last
  rw [bl_snoc (by omega)]
  rcases ih hl.pre with h1 | h1
  · rw [h1]; exact Or.inl (stepN_zero A x)
  · obtain ⟨i, hi⟩ := List.getElem?_of_mem h1
    exact (h.row i _ (List.getElem?_eq_some_iff.1 hi).1 hi).2 x hx
end
/-! The search with words. -/
section
variable {A : List Arc3} {L m s0 : Nat}
structure EInv (A : List Arc3) (L m s0 : Nat) (es : List Ent) (k : Nat) : Prop where
  ok : OkE es
  first : es[0]? = some (s0, [])
  reads : ∀ e, e ∈ es → Lets L e.2 ∧ readB A (bl e.2) s0 = e.1 ∧ e.2.length ≤ m
  sorted : ∀ (i j : Nat) (e f : Ent), i ≤ j → es[i]? = some e → es[j]? = some f → e.2.length ≤ f.2.length
  near : ∀ e f, es[k]? = some e → f ∈ es → f.2.length ≤ e.2.length + 1
  done : ∀ (i : Nat) (e : Ent), i < k → es[i]? = some e → e.2.length < m → ∀ x, x < L → stepN A e.1 (x : Int) = 0 ∨ ∃ f, f ∈ es ∧ f.1 = stepN A e.1 (x : Int) ∧ f.2.length ≤ e.2.length + 1
  short : Short es
theorem EInv.start (h0 : 0 < s0) (h1 : s0 < 4096) : EInv A L m s0 [(s0, [])] 0 := by
  have one : ∀ (i : Nat) (e : Ent), [((s0, []) : Ent)][i]? = some e → i = 0 ∧ e = (s0, []) := fun i e h => by
    have := (List.getElem?_eq_some_iff.1 h).1
    have e0 : i = 0 := by simpa using this
    subst e0
    exact ⟨rfl, by simpa using h.symm⟩
  refine ⟨⟨by simp, fun s hs => by simp at hs; subst hs; exact ⟨h0, h1⟩⟩, rfl, fun e he => ?_, fun i j e f _ he hf => ?_, fun e f he hf => ?_, fun i e hi => by omega, fun i e he => ?_⟩
  · simp at he
    subst he
    exact ⟨Lets.nil _, rfl, Nat.zero_le _⟩
  · rw [(one i e he).2, (one j f hf).2]; exact Nat.le_refl _
  · simp at hf
    subst hf
    exact Nat.zero_le _
  · rw [(one i e he).2]; exact Nat.zero_le _
theorem addE_spec (es : List Ent) (t : Nat) (w : List Nat) : ∃ u, addE es t w = es ++ u ∧ (∀ f, f ∈ u → f = (t, w)) ∧ (t = 0 ∨ ∃ f, f ∈ es ++ u ∧ f.1 = t) := by
  unfold addE
  by_cases e : t = 0 ∨ t ∈ es.map (·.1)
  · rw [if_pos e]
    refine ⟨[], by simp, by simp, ?_⟩
    rcases e with e | e
    · exact Or.inl e
    · obtain ⟨f, hf, h⟩ := List.mem_map.1 e
      exact Or.inr ⟨f, by simp [hf], h⟩
  · rw [if_neg e]
    exact ⟨[(t, w)], rfl, by simp, Or.inr ⟨(t, w), by simp, rfl⟩⟩
theorem rowE_spec (s : Nat) (w : List Nat) : ∀ (n x : Nat) (es : List Ent), ∃ u, rowE A s w n x es = es ++ u ∧ (∀ f, f ∈ u → ∃ y, x ≤ y ∧ y < x + n ∧ f = (stepN A s (y : Int), w ++ [y])) ∧
    ∀ y, x ≤ y → y < x + n → stepN A s (y : Int) = 0 ∨ ∃ f, f ∈ es ++ u ∧ f.1 = stepN A s (y : Int)
  | 0, x, es => ⟨[], by simp [rowE], by simp, by intro y h1 h2; omega⟩
  | n + 1, x, es => by
    obtain ⟨a, ha, ha2, ha3⟩ := addE_spec es (stepN A s (x : Int)) (w ++ [x])
    obtain ⟨v, h1, h2, h3⟩ := rowE_spec s w n (x + 1) (addE es (stepN A s (x : Int)) (w ++ [x]))
    refine ⟨a ++ v, by show rowE A s w n (x + 1) _ = _; rw [h1, ha, List.append_assoc], fun f hf => ?_, fun y hy1 hy2 => ?_⟩
    · rcases List.mem_append.1 hf with hf | hf
      · exact ⟨x, Nat.le_refl _, by omega, ha2 f hf⟩
      · obtain ⟨y, k1, k2, k3⟩ := h2 f hf
        exact ⟨y, by omega, by omega, k3⟩
    · rw [← List.append_assoc, ← ha]
      by_cases e : y = x
      · subst e
        rcases ha3 with h | ⟨f, hf, h⟩
        · exact Or.inl h
        · exact Or.inr ⟨f, by rw [ha]; exact List.mem_append_left _ hf, h⟩
      · exact h3 y (by omega) (by omega)
theorem EInv.next (hL : L ≤ 3) (hA : ∀ s x, stepN A s x < 4096) {es : List Ent} {k : Nat} (h : EInv A L m s0 es k) {e : Ent} (he : es[k]? = some e) : EInv A L m s0 (nextE A L m es e) (k + 1) := by
  have hok := nextE_ok hA L m h.ok e
  have hem := List.mem_of_getElem? he
  have hkl := (List.getElem?_eq_some_iff.1 he).1
  obtain ⟨r1, r2, r3⟩ := h.reads e hem
  have hse := h.short k e he
  unfold nextE at hok ⊢
  by_cases hm : e.2.length = m
  · rw [if_pos hm] at hok ⊢
    refine ⟨hok, h.first, h.reads, h.sorted, fun g f hg hf => ?_, fun i g hi hg hgm => ?_, h.short⟩
    · have h1 := h.sorted k (k + 1) e g (by omega) he hg
      have h2 := h.reads f hf
      omega
    · by_cases ei : i = k
      · subst ei
        rw [he] at hg
        cases hg
        omega
      · exact h.done i g (by omega) hg hgm
  · rw [if_neg hm] at hok ⊢
    obtain ⟨u, h1, h2, h3⟩ := rowE_spec (A := A) e.1 e.2 L 0 es
    have hsh := rowE_short A e.1 e.2 L 0 es h.short (by omega)
    rw [h1] at hok hsh ⊢
    have hu : ∀ f, f ∈ u → f.2.length = e.2.length + 1 := fun f hf => by
      obtain ⟨y, -, -, rfl⟩ := h2 f hf
      simp
    have hall : ∀ f, f ∈ es ++ u → f.2.length ≤ e.2.length + 1 := fun f hf => by
      rcases List.mem_append.1 hf with hf | hf
      · exact h.near e f he hf
      · exact Nat.le_of_eq (hu f hf)
    have hsort : ∀ (i j : Nat) (g f : Ent), i ≤ j → (es ++ u)[i]? = some g → (es ++ u)[j]? = some f → g.2.length ≤ f.2.length := fun i j g f hij hg hf => by
      by_cases hj : j < es.length
      · rw [List.getElem?_append_left (by omega)] at hg
        rw [List.getElem?_append_left hj] at hf
        exact h.sorted i j g f hij hg hf
      · rw [List.getElem?_append_right (by omega)] at hf
        rw [hu f (List.mem_of_getElem? hf)]
        exact hall g (List.mem_of_getElem? hg)
    refine ⟨hok, ?_, fun f hf => ?_, hsort, fun g f hg hf => ?_, fun i g hi hg hgm x hx => ?_, hsh⟩
    · rw [List.getElem?_append_left (by omega)]; exact h.first
    · rcases List.mem_append.1 hf with hf | hf
      · exact h.reads f hf
      · obtain ⟨y, -, hy, rfl⟩ := h2 f hf
        refine ⟨r1.snoc (by omega), by simp only; rw [bl_snoc (by omega), r2], ?_⟩
        simp only [List.length_append, List.length_singleton]
        omega
    · have k1 := hsort k (k + 1) e g (by omega) (by rw [List.getElem?_append_left hkl]; exact he) hg
      have k2 := hall f hf
      omega
    · by_cases ei : i = k
      · subst ei
        rw [List.getElem?_append_left hkl, he] at hg
        cases hg
        rcases h3 x (by omega) (by omega) with k1 | ⟨f, hf, k1⟩
        · exact Or.inl k1
        · exact Or.inr ⟨f, hf, k1, hall f hf⟩
      · rw [List.getElem?_append_left (by omega)] at hg
        rcases h.done i g (by omega) hg hgm x hx with k1 | ⟨f, hf, k1, k2⟩
        · exact Or.inl k1
        · exact Or.inr ⟨f, List.mem_append_left _ hf, k1, k2⟩
/-- Words no longer than the next one lead to what is listed. -/
theorem EInv.upto (hL : L ≤ 3) {es : List Ent} {k : Nat} (h : EInv A L m s0 es k) {n : Nat} (hn : ∀ (i : Nat) (f : Ent), es[i]? = some f → f.2.length < n → i < k ∧ f.2.length < m) (wd : List Nat) : Lets L wd → wd.length ≤ n → readB A (bl wd) s0 = 0 ∨ ∃ f, f ∈ es ∧ f.1 = readB A (bl wd) s0 ∧ f.2.length ≤ wd.length := by
  induction wd using snoc_rec with
  | h0 => exact fun _ _ => Or.inr ⟨_, List.mem_of_getElem? h.first, rfl, Nat.zero_le _⟩
  | h1 u x ih =>
  intro hl hw
  have hx := hl.last
  rw [List.length_append, List.length_singleton] at hw
  rw [bl_snoc (by omega)]
  rcases ih hl.pre (by omega) with h1 | ⟨f, hf, h1, h2⟩
  · rw [h1]; exact Or.inl (stepN_zero A x)
  · obtain ⟨i, hi⟩ := List.getElem?_of_mem hf
    obtain ⟨hik, him⟩ := hn i f hi (by omega)
    rcases h.done i f hik hi him x hx with k1 | ⟨g, hg, k1, k2⟩
    · rw [← h1]; exact Or.inl k1
    · rw [← h1]
      exact Or.inr ⟨g, hg, k1, by simp; omega⟩
/-- What the search for the shortest word ends with. -/
theorem reach_short (hL : L ≤ 3) (hA : ∀ s x, stepN A s x < 4096) : ∀ (f : Nat) {es : List Ent} {k : Nat}, EInv A L m s0 es k → (∀ (i : Nat) (e : Ent), i < k → es[i]? = some e → popN e.1 ≠ 1) → k ≤ es.length → 4096 ≤ f + k →
    (∃ (es' : List Ent) (k' : Nat) (e : Ent), EInv A L m s0 es' k' ∧ es'[k']? = some e ∧ popN e.1 = 1 ∧ (∀ (i : Nat) (e : Ent), i < k' → es'[i]? = some e → popN e.1 ≠ 1) ∧ reachE A L m cbShort f es k none = some e.2) ∨
    (∃ es' : List Ent, EInv A L m s0 es' es'.length ∧ (∀ e, e ∈ es' → popN e.1 ≠ 1) ∧ reachE A L m cbShort f es k none = none)
  | 0, es, k, h, _, hk, hf => by
    have := h.ok.len
    omega
  | f + 1, es, k, h, hp, hk, hf => by
    unfold reachE
    cases hke : es[k]? with
    | none =>
      have e : k = es.length := by
        have := List.getElem?_eq_none_iff.1 hke
        omega
      subst e
      refine Or.inr ⟨es, h, fun e he => ?_, rfl⟩
      obtain ⟨i, hi⟩ := List.getElem?_of_mem he
      exact hp i e (List.getElem?_eq_some_iff.1 hi).1 hi
    | some e =>
      by_cases h1 : popN e.1 = 1
      · refine Or.inl ⟨es, k, e, h, hke, h1, hp, ?_⟩
        unfold cbShort
        simp [h1]
      · have hkl := (List.getElem?_eq_some_iff.1 hke).1
        have hpre : ∃ u, nextE A L m es e = es ++ u := by
          unfold nextE
          split
          · exact ⟨[], by simp⟩
          · obtain ⟨u, hu, -⟩ := rowE_spec (A := A) e.1 e.2 L 0 es
            exact ⟨u, hu⟩
        obtain ⟨u, hu⟩ := hpre
        have ih := reach_short hL hA f (h.next hL hA hke) (fun i g hi hg => ?_) (by rw [hu, List.length_append]; omega) (by omega)
        · have e1 : (cbShort none e) = (none, false) := by unfold cbShort; rw [if_neg h1]
          simp only [e1]
          rcases ih with ⟨es', k', e', a1, a2, a3, a4, a5⟩ | ⟨es', a1, a2, a3⟩
          · exact Or.inl ⟨es', k', e', a1, a2, a3, a4, by simpa using a5⟩
          · exact Or.inr ⟨es', a1, a2, by simpa using a3⟩
        · by_cases ei : i = k
          · subst ei
            rw [hu, List.getElem?_append_left hkl, hke] at hg
            cases hg
            exact h1
          · rw [hu, List.getElem?_append_left (by omega)] at hg
            exact hp i g (by omega) hg
end
end Go.Proofs.YtcilgihmaaobeaaDoor
end

section
namespace Go.Proofs.YtcilgihmaaobeaaDoor
open Go.RowKit Go.Deep Go.Sd
theorem onlyL_pow (x : Nat) : ∀ (g p : Nat), 0 ≤ onlyL x g p → ∃ q : Nat, onlyL x g p = (q : Int) ∧ q < p + g ∧ x = 2 ^ q
  | 0, p, h => by unfold onlyL at h; omega
  | g + 1, p, h => by
    unfold onlyL at h ⊢
    split
    · rename_i e; exact ⟨p, rfl, by omega, e⟩
    · rename_i e
      rw [if_neg e] at h
      obtain ⟨q, h1, h2, h3⟩ := onlyL_pow x g (p + 1) h
      exact ⟨q, h1, by omega, h3⟩
theorem onlyN_pow {x : Nat} (h : 0 ≤ onlyN x) : ∃ q : Nat, onlyN x = (q : Int) ∧ q < 12 ∧ x = 2 ^ q := by
  obtain ⟨q, h1, h2, h3⟩ := onlyL_pow x 12 0 h
  exact ⟨q, h1, by omega, h3⟩
end Go.Proofs.YtcilgihmaaobeaaDoor
end

section
namespace Go.Proofs.YtcilgihmaaobeaaDoor
open Go.RowKit Go.Deep Go.Sd
set_option maxRecDepth 100000 in
theorem pop_pos (x : Nat) (hx : x < 4096) (h0 : 0 < x) : 1 ≤ popN x :=
  two_level (p := fun x => 0 < x → 1 ≤ popN x) (by decide +kernel) x hx h0
theorem pop_zero : popN 0 = 0 := by decide
theorem min_le (f : Nat → Int) : ∀ (l : List Nat) (a : Int), l.foldl (minF f) a ≤ a
  | [], _ => Int.le_refl _
  | s :: l, a => by
    have h := min_le f l (minF f a s)
    have h2 : minF f a s ≤ a := by unfold minF; split <;> omega
    exact Int.le_trans h h2
theorem min_mem (f : Nat → Int) : ∀ (l : List Nat) (a : Int) (s : Nat), s ∈ l → l.foldl (minF f) a ≤ f s
  | t :: l, a, s, h => by
    rcases List.mem_cons.1 h with e | h
    · subst e
      have h := min_le f l (minF f a s)
      have h2 : minF f a s ≤ f s := by unfold minF; split <;> omega
      exact Int.le_trans h h2
    · exact min_mem f l _ s h
theorem min_val (f : Nat → Int) : ∀ (l : List Nat) (a : Int), l.foldl (minF f) a = a ∨ ∃ s, s ∈ l ∧ l.foldl (minF f) a = f s
  | [], _ => Or.inl rfl
  | t :: l, a => by
    rcases min_val f l (minF f a t) with h | ⟨s, hs, h⟩
    · have h2 : minF f a t = a ∨ minF f a t = f t := by unfold minF; split; exact Or.inr rfl; exact Or.inl rfl
      rcases h2 with h2 | h2
      · exact Or.inl (h.trans h2)
      · exact Or.inr ⟨t, by simp, h.trans h2⟩
    · exact Or.inr ⟨s, by simp [hs], h⟩
section
variable {k : Lb}
theorem lr_inv (h : resolvM k = true) : BInv k.2.2 k.1.toNat (allN k.2.1) (bfsS k.2.2 k.1.toNat 4096 [allN k.2.1] 0 []).1 (bfsS k.2.2 k.1.toNat 4096 [allN k.2.1] 0 []).1.length (bfsS k.2.2 k.1.toNat 4096 [allN k.2.1] 0 []).2 := by
  obtain ⟨ho, h1, h2, h3, h4⟩ := resolv_facts h
  have hs := (all_ok h1 h2).2 (allN k.2.1) (by simp)
  exact bfsS_inv (by omega) (fun s x => stepN_lt ho h2 s x) 4096 (BInv.start hs.1 hs.2) (by omega)
theorem short_end (h : resolvM k = true) :
    (∃ (es : List Ent) (i : Nat) (e : Ent), EInv k.2.2 k.1.toNat 16 (allN k.2.1) es i ∧ es[i]? = some e ∧ popN e.1 = 1 ∧ (∀ (j : Nat) (e : Ent), j < i → es[j]? = some e → popN e.1 ≠ 1) ∧ shortM k = some e.2) ∨
    (∃ es : List Ent, EInv k.2.2 k.1.toNat 16 (allN k.2.1) es es.length ∧ (∀ e, e ∈ es → popN e.1 ≠ 1) ∧ shortM k = none) := by
  obtain ⟨ho, h1, h2, h3, h4⟩ := resolv_facts h
  have hs := (all_ok h1 h2).2 (allN k.2.1) (by simp)
  have := reach_short (A := k.2.2) (L := k.1.toNat) (m := 16) (s0 := allN k.2.1) (by omega) (fun s x => stepN_lt ho h2 s x) 4096 (EInv.start hs.1 hs.2) (fun i e hi => by omega) (by simp) (by omega)
  unfold shortM
  rw [if_pos h]
  exact this
theorem short_resolv {wd : List Nat} (h : shortM k = some wd) : resolvM k = true := by
  unfold shortM at h
  by_cases e : resolvM k = true
  · exact e
  · rw [if_neg e] at h; cases h
theorem short_facts {wd : List Nat} (h : shortM k = some wd) : Lets k.1.toNat wd ∧ wd.length ≤ 16 ∧ popN (readB k.2.2 (bl wd) (allN k.2.1)) = 1 := by
  rcases short_end (short_resolv h) with ⟨es, i, e, h1, h2, h3, -, h5⟩ | ⟨es, -, -, h5⟩
  · rw [h] at h5
    cases h5
    obtain ⟨r1, r2, r3⟩ := h1.reads e (List.mem_of_getElem? h2)
    exact ⟨r1, r3, by rw [r2]; exact h3⟩
  · rw [h] at h5; cases h5
theorem lr_one {wd : List Nat} (h : resolvM k = true) (hl : Lets k.1.toNat wd) (hp : readB k.2.2 (bl wd) (allN k.2.1) ≠ 0) : leastRM k ≤ (popN (readB k.2.2 (bl wd) (allN k.2.1)) : Int) := by
  obtain ⟨ho, h1, h2, h3, h4⟩ := resolv_facts h
  unfold leastRM
  rw [if_pos h]
  rcases (lr_inv h).closed (by omega) wd hl with e | e
  · exact absurd e hp
  · exact min_mem popI _ _ _ e
theorem lr_pos (h : resolvM k = true) : 1 ≤ leastRM k := by
  obtain ⟨ho, h1, h2, h3, h4⟩ := resolv_facts h
  unfold leastRM
  rw [if_pos h]
  rcases min_val popI (bfsS k.2.2 k.1.toNat 4096 [allN k.2.1] 0 []).1 k.2.1 with e | ⟨s, hs, e⟩
  · rw [e]; exact h1
  · rw [e]
    have := (lr_inv h).ok.2 s hs
    have := pop_pos s this.2 this.1
    unfold popI
    omega
/-- Where there is a shortest word, the least rank is 1. -/
theorem short_least {wd : List Nat} (h : shortM k = some wd) : leastRM k = 1 := by
  have hr := short_resolv h
  obtain ⟨f1, f2, f3⟩ := short_facts h
  have h1 := lr_one hr f1 (fun e => by rw [e, pop_zero] at f3; cases f3)
  have h2 := lr_pos hr
  omega
theorem stepN_ltN {S : Int} {xs : List Arc3} {N : Nat} (h : okArcs S xs) (hS : S.toNat ≤ N) (s : Nat) (x : Int) : stepN xs s x < 2 ^ N := stepL_lt hS h s x 0 (Nat.pow_pos (by decide))
theorem readB_ltN {S : Int} {xs : List Arc3} {N : Nat} (h : okArcs S xs) (hS : S.toNat ≤ N) : ∀ (l : List UInt8) (s : Nat), s < 2 ^ N → readB xs l s < 2 ^ N
  | [], _, hs => hs
  | c :: l, s, _ => readB_ltN h hS l _ (stepN_ltN h hS s _)
/-- Of a graph with 4 states at most the search is whole. -/
theorem short_none (h : resolvM k = true) (h4 : k.2.1 ≤ 4) (hn : shortM k = none) : leastRM k ≠ 1 := by
  obtain ⟨ho, h1, h2, h3, hL⟩ := resolv_facts h
  rcases short_end h with ⟨es, i, e, -, -, -, -, h5⟩ | ⟨es, hE, hp, -⟩
  · rw [hn] at h5; cases h5
  have hA : allN k.2.1 < 2 ^ 4 := by
    have : 2 ^ k.2.1.toNat ≤ 2 ^ 4 := Nat.pow_le_pow_right (by decide) (by omega)
    have h0 : 0 < 2 ^ k.2.1.toNat := Nat.pow_pos (by decide)
    unfold allN
    omega
  have hlen : es.length ≤ 15 := by
    have h6 : ((es.map (·.1)).map (· - 1)).Nodup := by
      rw [List.Nodup, List.pairwise_map]
      refine List.Pairwise.imp_of_mem (fun {a b} ha hb hne e => hne ?_) hE.ok.1
      have := hE.ok.2 a ha
      have := hE.ok.2 b hb
      omega
    have h7 := nodup_below 15 _ h6 fun x hx => by
      obtain ⟨s, hs, rfl⟩ := List.mem_map.1 hx
      obtain ⟨e, he, rfl⟩ := List.mem_map.1 hs
      have h8 := readB_ltN (N := 4) ho (by omega) (bl e.2) (allN k.2.1) hA
      rw [(hE.reads e he).2.1] at h8
      have := hE.ok.2 _ hs
      omega
    simpa using h7
  have hcl : ∀ wd, Lets k.1.toNat wd → popN (readB k.2.2 (bl wd) (allN k.2.1)) ≠ 1 := fun wd hw => by
    rcases hE.upto (by omega) (n := wd.length) (fun i f hi _ => ⟨(List.getElem?_eq_some_iff.1 hi).1, by have := hE.short i f hi; have := (List.getElem?_eq_some_iff.1 hi).1; omega⟩) wd hw (Nat.le_refl _) with e | ⟨f, hf, e, -⟩
    · rw [e, pop_zero]; decide
    · rw [← e]; exact hp f hf
  intro hl
  unfold leastRM at hl
  rw [if_pos h] at hl
  rcases min_val popI (bfsS k.2.2 k.1.toNat 4096 [allN k.2.1] 0 []).1 k.2.1 with e | ⟨s, hs, e⟩
  · rw [hl] at e
    refine hcl [] (Lets.nil _) ?_
    show popN (allN k.2.1) = 1
    rw [← e]
    decide
  · rw [hl] at e
    obtain ⟨wd, hw, rfl⟩ := (lr_inv h).reach s hs
    refine hcl wd hw ?_
    unfold popI at e
    omega
/-- No shorter word is synchronizing. -/
theorem short_count {wd : List Nat} (h : shortM k = some wd) {i : Nat} (hi : i < wd.length) (h6 : i ≤ 6) : countM k i = 0 := by
  have hr := short_resolv h
  obtain ⟨ho, h1, h2, h3, hL⟩ := resolv_facts hr
  unfold countM
  rw [if_pos (by rw [hr, Bool.true_and, decide_eq_true_eq]; omega)]
  rcases short_end hr with ⟨es, j, e, hE, he, -, hp, h5⟩ | ⟨es, -, -, h5⟩
  · rw [h] at h5
    cases h5
    have key : ∀ (j' : Nat) (f : Ent), es[j']? = some f → f.2.length ≤ i → j' < j := fun j' f hf hl => by
      apply Classical.byContradiction
      intro hn
      have := hE.sorted j j' e f (by omega) he hf
      omega
    rw [List.filter_eq_nil_iff.2]
    · rfl
    · intro u hu hc
      have hul := allW_mem (by omega) hu
      rw [Int.toNat_natCast] at hul
      have hu2 : Lets k.1.toNat u := hul.2
      unfold cntF endN at hc
      rw [decide_eq_true_eq, bl_data] at hc
      rcases hE.upto (by omega) (n := i) (fun i' f hf hl => ⟨key i' f hf (by omega), by omega⟩) u hu2 (by omega) with e2 | ⟨f, hf, e2, h7⟩
      · rw [e2, pop_zero] at hc; cases hc
      · obtain ⟨j', hj'⟩ := List.getElem?_of_mem hf
        rw [← e2] at hc
        exact hp j' f (key j' f hj' (by omega)) hj' hc
  · rw [h] at h5; cases h5
theorem Sub.one {s t : Nat} (h : Sub t s) (hs : s < 4096) (h1 : popN s = 1) (h0 : t ≠ 0) : popN t = 1 := by
  have h2 := only_pop s hs
  rw [decide_eq_true h1] at h2
  obtain ⟨q, -, -, hq⟩ := onlyN_pow (of_decide_eq_true h2.symm)
  obtain ⟨i, hi⟩ : ∃ i, t.testBit i = true := by
    apply Classical.byContradiction
    intro hn
    exact h0 (nat_zero.2 fun i hi => hn ⟨i, hi⟩)
  have hb : ∀ i, t.testBit i = true → i = q := fun i hi => by
    have := h i hi
    rw [hq, Nat.testBit_two_pow, decide_eq_true_eq] at this
    exact this.symm
  have e : t = s := by
    refine Nat.eq_of_testBit_eq fun j => ?_
    rw [hq, Nat.testBit_two_pow]
    by_cases ej : q = j
    · subst ej
      rw [hb i hi] at hi
      rw [hi]; simp
    · rw [decide_eq_false ej]
      cases hj : t.testBit j with
      | false => rfl
      | true => exact absurd (hb j hj).symm ej
  rw [e]
  exact h1
/-- A word that ends with a synchronizing one, and is read, is synchronizing. -/
theorem short_more {wd : List Nat} (h : shortM k = some wd) {x : Nat} (hx : x < k.1.toNat) (hl : (x :: wd).length ≤ 16) (hr : readsM k (wordT (x :: wd)) = true) : rankM k (wordT (x :: wd)) = 1 := by
  have hv := short_resolv h
  obtain ⟨ho, h1, h2, h3, hL⟩ := resolv_facts hv
  obtain ⟨f1, f2, f3⟩ := short_facts h
  unfold readsM at hr
  rw [Bool.and_eq_true, Bool.and_eq_true, decide_eq_true_eq] at hr
  obtain ⟨-, hw, h0⟩ := hr
  unfold rankM
  rw [hv, hw, if_pos (by rfl)]
  rw [bl_data] at h0 ⊢
  rw [bl_cons (by omega)] at h0 ⊢
  have hs : Sub (stepN k.2.2 (allN k.2.1) (x : Int)) (allN k.2.1) := fun i hi => by
    rw [allN_bit]
    refine step_all (L := k.1.toNat) (isLab_arcs (resolvM_lab hv)) _ _ i hi
  have h7 := (hs.read (xs := k.2.2) (bl wd)).one (readB_lt ho h2 _ _ (allN_lt h2)) f3 (by omega)
  rw [h7]
  rfl
/-- Words of bytes as lists of letters. -/
theorem word_lets {N : Nat} {v : ByteArray} (h : wordM (N : Int) v = true) : ∃ wd, v = wordT wd ∧ Lets N wd ∧ wd.length ≤ 16 := by
  unfold wordM at h
  rw [Bool.and_eq_true, Bool.and_eq_true, decide_eq_true_eq, decide_eq_true_eq] at h
  obtain ⟨h1, h2, h3⟩ := h
  have hb := letB_ge h3
  refine ⟨v.data.toList.map fun c => c.toNat - 97, ?_, fun x hx => ?_, by rw [List.length_map, str_len]; exact h2⟩
  · apply ByteArray.ext
    apply Array.toList_inj.1
    show _ = (wordT _).data.toList
    rw [bl_data]
    unfold bl
    rw [List.map_map]
    refine (List.map_id _).symm.trans (List.map_congr_left fun c hc => ?_)
    have := (hb c hc).1
    simp only [Function.comp, id]
    rw [show 97 + (c.toNat - 97) = c.toNat by omega]
    simp
  · obtain ⟨c, hc, rfl⟩ := List.mem_map.1 hx
    have := hb c hc
    omega
theorem rank_least {r : Lb} {v : ByteArray} (h : resolvM r = true) (hw : wordM r.1 v = true) : rankM r v = 0 ∨ leastRM r ≤ rankM r v := by
  obtain ⟨ho, h1, h2, h3, hL⟩ := resolv_facts h
  obtain ⟨N, hN⟩ : ∃ N : Nat, r.1 = (N : Int) := ⟨r.1.toNat, by omega⟩
  rw [hN] at hw
  obtain ⟨wd, rfl, hl, -⟩ := word_lets hw
  unfold rankM
  rw [h, hN, hw, if_pos (by rfl), bl_data]
  by_cases e : readB r.2.2 (bl wd) (allN r.2.1) = 0
  · left; rw [e, pop_zero]; rfl
  · right
    exact lr_one h (by rw [hN]; exact hl) e
end
end Go.Proofs.YtcilgihmaaobeaaDoor
end
