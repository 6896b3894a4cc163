/-
  Labelled graphs of the call's own: what marks leave; the laws' helpers.
-/
import Derived.Test.YtdohepngandajaaDoorRows
import Derived.Test.YtdohepngandajaaDoorBase
import Derived.Test.YtdohepngandajaaDoorHarn
import Derived.Test.YtdohepngandajaaDoorLawKit
import Derived.Test.YtdohepngandajaaDoorLab
import Derived.Test.YtdohepngandajaaDoorLabH
namespace Go.Sd
open Go.RowKit Go.Deep
theorem OffIn.cell3 {lo hi : Nat} {w w' : World} (h : OffIn lo hi w w') {p : Addr} (hp : p.block < w.heap.size) (hn : ¬ (lo ≤ p.block ∧ p.block < hi)) : w'.cell? p = w.cell? p := by
  simp [World.cell?, h.block _ hp hn]
/-- Own arcs: the block that holds them. -/
def OArcs : OwnRel (List Arc3) := fun w v xs F =>
  xs.length ≤ 9223372036854775807 ∧ ((xs = [] ∧ v = .slice none 0 0 ∧ F = []) ∨ ∃ B c, v = .slice (some ⟨B, 0, none⟩) xs.length c ∧ xs.length ≤ c ∧ c ≤ 9223372036854775807 ∧ F = [B] ∧ B < w.heap.size ∧ CellsI w B (xs.length * 3) (arcF xs xs.length))
def OLab : OwnRel Lb := fun w v x F => ∃ va, v = .agg #[.int .i64 x.1, .int .i64 x.2.1, va] ∧ OArcs w va x.2.2 F
theorem CellsI.same {w w' : World} {B m : Nat} {f : Nat → Int} (h : CellsI w B m f) (e : w'.heap[B]? = w.heap[B]?) : CellsI w' B m f := by
  intro j hj
  obtain ⟨h1, h2⟩ := h j hj
  constructor
  · rw [← h1]; simp [World.cell?, e]
  · rw [← h2]; simp [World.frozen?, e]
theorem OArcs.held : Held OArcs := by
  refine ⟨?_, ?_⟩
  · rintro w w' v xs F ⟨h0, h⟩ hk
    refine ⟨h0, h.imp id ?_⟩
    rintro ⟨B, c, rfl, h1, h2, rfl, hB, hc⟩
    have e := hk B (by simp)
    have hB' : B < w'.heap.size := by
      have h3 : (w.heap[B]?).isSome = true := by simp [hB]
      rw [← e] at h3
      simpa using h3
    exact ⟨B, c, rfl, h1, h2, rfl, hB', hc.same e⟩
  · rintro w v xs F ⟨_, h⟩ b hb
    rcases h with ⟨_, _, rfl⟩ | ⟨B, c, _, _, _, rfl, hB, _⟩
    · simp at hb
    · simp at hb; subst hb; exact hB
theorem OArcs.reads {w : World} {v : Value} {xs : List Arc3} {F : List Nat} (h : OArcs w v xs F) : ArcsR w v xs := by
  obtain ⟨h0, ⟨rfl, rfl, rfl⟩ | ⟨B, c, rfl, h1, h2, rfl, hB, hc⟩⟩ := h
  · exact ⟨h0, none, 0, rfl, by simp, by simp, fun _ => rfl, by simp⟩
  · obtain ⟨a0, a1, a2, a3, a4, a5, a6, a7⟩ := ArcsR.of_cells hB h0 hc
    simp at a3
    obtain ⟨rfl, rfl⟩ := a3
    exact ⟨h0, _, c, rfl, h1, h2, by simp, a7⟩
theorem OLab.held : Held OLab :=
  ⟨fun w w' v x F ⟨va, e, h⟩ hk => ⟨va, e, OArcs.held.keep _ _ _ _ _ h hk⟩, fun w v x F ⟨_, _, h⟩ b hb => OArcs.held.lt _ _ _ _ h b hb⟩
theorem OLab.reads {w : World} {v : Value} {x : Lb} {F : List Nat} (h : OLab w v x F) : LabR w v x := by obtain ⟨va, e, h⟩ := h; exact ⟨va, e, h.reads⟩
theorem New.lab {lo : Nat} {w : World} {v : Value} {x : Lb} (h : New OLab lo w v x) : LabR w v x := by obtain ⟨F, h, _⟩ := h; exact h.reads
theorem OArcs.store_off {w : World} {B n c : Nat} {xs : List Arc3} (h : OArcs w (.slice (some ⟨B, 0, none⟩) n c) xs [B]) {p : Addr} (hp : p.block ≠ B) (u : Value) : OArcs (w.setCell p u) (.slice (some ⟨B, 0, none⟩) n c) xs [B] :=
  OArcs.held.keep _ _ _ _ _ h fun b hb => by simp at hb; subst hb; exact Below.heap_setCell _ _ _ _ (fun e => hp e.symm)
/-- Arcs marked. -/
def markA : List Arc3 → Int → List Arc3
  | [], _ => []
  | _ :: xs, k => (k, k + 1, k + 2) :: markA xs (k + 3)
theorem markA_len : ∀ (xs : List Arc3) (k : Int), (markA xs k).length = xs.length
  | [], _ => rfl
  | _ :: xs, k => by simp [markA, markA_len xs]
theorem markA_at : ∀ (xs : List Arc3) (k : Int) (i : Nat), i < xs.length → (markA xs k)[i]? = some (k + 3 * i, k + 3 * i + 1, k + 3 * i + 2)
  | [], _, i, h => by simp at h
  | _ :: xs, k, 0, _ => by simp [markA]
  | _ :: xs, k, i + 1, h => by
    simp only [markA, List.getElem?_cons_succ]
    rw [markA_at xs (k + 3) i (by simpa using h)]
    have e : k + 3 + 3 * (i : Int) = k + 3 * ((i + 1 : Nat) : Int) := by omega
    rw [e]
def markF (xs : List Arc3) (k0 : Int) (k j : Nat) : Int := if j < 3 * k then k0 + j else arcF xs xs.length j
theorem markF_next (xs : List Arc3) (k0 : Int) (k j : Nat) :
    (if j = k * 3 + 2 then k0 + 3 * (k : Int) + 1 + 1 else if j = k * 3 + 1 then k0 + 3 * (k : Int) + 1 else if j = k * 3 then k0 + 3 * (k : Int) else markF xs k0 k j) = markF xs k0 (k + 1) j := by
  unfold markF
  by_cases e2 : j = k * 3 + 2
  · rw [if_pos e2, if_pos (by omega)]; omega
  rw [if_neg e2]
  by_cases e1 : j = k * 3 + 1
  · rw [if_pos e1, if_pos (by omega)]; omega
  rw [if_neg e1]
  by_cases e0 : j = k * 3
  · rw [if_pos e0, if_pos (by omega)]; omega
  rw [if_neg e0]
  by_cases h : j < 3 * k
  · rw [if_pos h, if_pos (by omega)]
  · rw [if_neg h, if_neg (by omega)]
theorem markF_end (xs : List Arc3) (k0 : Int) (j : Nat) (hj : j < xs.length * 3) : markF xs k0 xs.length j = arcF (markA xs k0) xs.length j := by
  unfold markF arcF
  rw [if_pos (by omega), if_pos (by omega)]
  have h := markA_at xs k0 (j / 3) (by omega)
  have hg : (markA xs k0).getD (j / 3) (0, 0, 0) = (k0 + 3 * ((j / 3 : Nat) : Int), k0 + 3 * ((j / 3 : Nat) : Int) + 1, k0 + 3 * ((j / 3 : Nat) : Int) + 2) := by simp [List.getD, h]
  rw [hg]
  unfold comp
  have h3 : j % 3 = 0 ∨ j % 3 = 1 ∨ j % 3 = 2 := by omega
  rcases h3 with h3 | h3 | h3
  · rw [h3]; simp; omega
  · rw [h3]; simp; omega
  · rw [h3]; simp; omega
end Go.Sd
namespace Go.Proofs.YtdohepngandajaaDoor
open Go.RowKit Go.Deep Go.Sd

set_option maxHeartbeats 400000 in
theorem toArcS_o {w : World} {v : Value} {xs : List Arc3} (h : ArcsR w v xs) (hsz : xs.length ≤ 1048576) :
    Calls Tryd.prog 16 #[v] w fun e w' => e = .returned (.slice (some ⟨w.heap.size, 0, none⟩) xs.length xs.length) ∧ OArcs w' (.slice (some ⟨w.heap.size, 0, none⟩) xs.length xs.length) xs [w.heap.size] ∧ Below w.heap.size w w' := by
  obtain ⟨hlen, a, c, rfl, hc1, hc2, hc3, hcell⟩ := h
  obtain ⟨n, hn⟩ : ∃ n, n = xs.length := ⟨_, rfl⟩
  rw [← hn] at hsz hcell hc1 hlen ⊢
  have Hn := Lib.hid hn
  clear hn
  go_enter Tryd.func16, Tryd.ntmps16
  go_wp2_with (first
    | (at_make; refine wpl_make3 rfl (.tmp 6) (.tmp 6) 27 rfl 40 24 Tryd.underlying27 infoA n (by rfl) (by rfl) (by omega) (by omega) ?_; intro w1 hz1 hc1' hb1; have Hz1 := Lib.hid hz1; clear hz1)
    | fail)
  have Hb1 := Lib.hid hb1
  have Hc1 := Lib.hid hc1'
  clear hb1 hc1'
  go_loopg [4] n (fun g i wr => ∃ (k : Nat), i = .int .i64 k ∧ k + g = n ∧ CellsI wr w.heap.size (n * 3) (arcF xs k) ∧ w.heap.size < wr.heap.size ∧ Below w.heap.size w wr)
  case atStart => exact ⟨0, rfl, by omega, Hc1.out.congr fun j _ => by unfold arcF; rw [if_neg (by omega)], by have := Hz1.out; omega, Hb1.out⟩
  case round =>
    obtain ⟨k, rfl, hk, hcl, hlt1, hbel⟩ := hrel
    by_cases hlt : k < n
    · obtain ⟨b, o, rfl, hb, hx0⟩ := hcell (by omega)
      obtain ⟨x, hx, _⟩ := at_lt (xs := xs) (k := k) (by have := Hn.out; omega)
      obtain ⟨g0, g1, g2⟩ := hx0 k x hx
      have hu0 : wr.cell? ⟨b, o + k * 3, none⟩ = some (.int .i64 x.1) := (hbel.cell (p := ⟨b, o + k * 3, none⟩) hb).trans g0
      have hu1 : wr.cell? ⟨b, o + k * 3 + 1, none⟩ = some (.int .i64 x.2.1) := (hbel.cell (p := ⟨b, o + k * 3 + 1, none⟩) hb).trans g1
      have hu2 : wr.cell? ⟨b, o + k * 3 + 2, none⟩ = some (.int .i64 x.2.2) := (hbel.cell (p := ⟨b, o + k * 3 + 2, none⟩) hb).trans g2
      have Hx := Lib.hid hx
      have Hcl := Lib.hid hcl
      have Hbel := Lib.hid hbel
      have Hlt1 := Lib.hid hlt1
      have Hz := Lib.hid (hbel.size)
      clear g0 g1 g2 hx0 hcell hx hcl hbel hlt1
      go_wp2_with fail
      refine toArc_c.mono ?_
      rintro e w2 ⟨rfl, hb2⟩
      have hc2 := Hcl.out.keep hb2 Hlt1.out
      have hA := hc2 (k * 3) (by omega)
      have hB := hc2 (k * 3 + 1) (by omega)
      have hC := hc2 (k * 3 + 2) (by omega)
      obtain ⟨hA1, hA2⟩ := hA
      obtain ⟨hB1, hB2⟩ := hB
      obtain ⟨hC1, hC2⟩ := hC
      have Hf := Lib.hid ((((hc2.set (j := k * 3) (by omega) x.1).set (j := k * 3 + 1) (by omega) x.2.1).set (j := k * 3 + 2) (by omega) x.2.2).congr fun j _ => arcF_next Hx.out j)
      have Hs := Lib.hid (show w.heap.size < w2.heap.size from Nat.lt_of_lt_of_le Hlt1.out hb2.size)
      have Hbf := Lib.hid (((((Hbel.out.trans (hb2.mono Hz.out)).setCell (p := ⟨w.heap.size, k * 3, none⟩) (Nat.le_refl _) (.int .i64 x.1))).setCell (p := ⟨w.heap.size, k * 3 + 1, none⟩) (Nat.le_refl _) (.int .i64 x.2.1)).setCell (p := ⟨w.heap.size, k * 3 + 2, none⟩) (Nat.le_refl _) (.int .i64 x.2.2))
      clear hc2 hb2
      go_wp2
      go_roundg (n - (k + 1))
      case measure => omega
      case rel => exact ⟨k + 1, by go_num, by omega, Hf.out, by simp; exact Hs.out, Hbf.out⟩
    · have e : k = n := by omega
      subst e
      have Hr := Lib.hid (show OArcs wr (.slice (some ⟨w.heap.size, 0, none⟩) k k) xs [w.heap.size] from
        ⟨by rw [← Hn.out]; omega, Or.inr ⟨w.heap.size, k, by rw [← Hn.out], by rw [← Hn.out]; omega, by omega, rfl, hlt1, by rw [← Hn.out]; exact hcl⟩⟩)
      clear hcl hcell
      go_wp2
      go_ret
      exact ⟨rfl, Hr.out, hbel⟩
set_option maxHeartbeats 400000 in
theorem toLabels_o {w : World} {v : Value} {x : Lb} (h : LabR w v x) (hsz : x.2.2.length ≤ 1048576) :
    Calls Tryd.prog 7 #[v] w fun e w' => ∃ v', e = .returned v' ∧ New OLab w.heap.size w' v' x ∧ Below w.heap.size w w' := by
  obtain ⟨va, rfl, ha⟩ := h
  have Hc := Lib.hid (fun w1 (hb : Below w.heap.size w w1) => toArcS_o (ArcsR.frame _ _ _ _ ha hb) hsz)
  obtain ⟨_, aa, ac, rfl, _, _, _, _⟩ := ha
  obtain ⟨L, S, xs⟩ := x
  go_enter Tryd.func7, Tryd.ntmps7
  go_wp2_with fail
  have Hb0 := Lib.hid ((((Below.refl w.heap.size w).alloc (Nat.le_refl _) (.cells #[.int .i64 L, .int .i64 S, .slice aa xs.length ac] 24)).alloc (by simp) (.cells #[.int .i64 0, .int .i64 0, .slice none 0 0] 29)).alloc (by simp <;> omega) (.cells #[.int .i64 L, .int .i64 S, .slice none 0 0] 29))
  refine (Hc.out _ Hb0.out).mono ?_
  rintro e w1 ⟨rfl, ha1, hb1⟩
  have eB : (((w.alloc (.cells #[.int .i64 L, .int .i64 S, .slice aa xs.length ac] 24)).alloc (.cells #[.int .i64 0, .int .i64 0, .slice none 0 0] 29)).alloc (.cells #[.int .i64 L, .int .i64 S, .slice none 0 0] 29)).heap.size = w.heap.size + 1 + 1 + 1 := by simp
  rw [eB] at ha1 ⊢
  have cB : w1.cell? ⟨w.heap.size + 1, 0, none⟩ = some (.int .i64 0) := (hb1.cell (p := ⟨w.heap.size + 1, 0, none⟩) (by simp <;> omega)).trans (by simp [go_sem])
  have cC : w1.cell? ⟨w.heap.size + 1, 1, none⟩ = some (.int .i64 0) := (hb1.cell (p := ⟨w.heap.size + 1, 1, none⟩) (by simp <;> omega)).trans (by simp [go_sem])
  have cD : w1.cell? ⟨w.heap.size + 1, 2, none⟩ = some (.slice none 0 0) := (hb1.cell (p := ⟨w.heap.size + 1, 2, none⟩) (by simp <;> omega)).trans (by simp [go_sem])
  have cE : w1.cell? ⟨w.heap.size + 1 + 1, 0, none⟩ = some (.int .i64 L) := (hb1.cell (p := ⟨w.heap.size + 1 + 1, 0, none⟩) (by simp <;> omega)).trans (by simp [go_sem])
  have cF : w1.cell? ⟨w.heap.size + 1 + 1, 1, none⟩ = some (.int .i64 S) := (hb1.cell (p := ⟨w.heap.size + 1 + 1, 1, none⟩) (by simp <;> omega)).trans (by simp [go_sem])
  have cG : w1.cell? ⟨w.heap.size + 1 + 1, 2, none⟩ = some (.slice none 0 0) := (hb1.cell (p := ⟨w.heap.size + 1 + 1, 2, none⟩) (by simp <;> omega)).trans (by simp [go_sem])
  have fB : w1.frozen? ⟨w.heap.size + 1, 0, none⟩ = false := (hb1.frozen (p := ⟨w.heap.size + 1, 0, none⟩) (by simp <;> omega)).trans (by simp [go_sem])
  have fC : w1.frozen? ⟨w.heap.size + 1, 1, none⟩ = false := (hb1.frozen (p := ⟨w.heap.size + 1, 1, none⟩) (by simp <;> omega)).trans (by simp [go_sem])
  have fD : w1.frozen? ⟨w.heap.size + 1, 2, none⟩ = false := (hb1.frozen (p := ⟨w.heap.size + 1, 2, none⟩) (by simp <;> omega)).trans (by simp [go_sem])
  have fG : w1.frozen? ⟨w.heap.size + 1 + 1, 2, none⟩ = false := (hb1.frozen (p := ⟨w.heap.size + 1 + 1, 2, none⟩) (by simp <;> omega)).trans (by simp [go_sem])
  have Ha := Lib.hid ((((ha1.store_off (p := ⟨w.heap.size + 1 + 1, 2, none⟩) (by simp) (.slice (some ⟨w.heap.size + 1 + 1 + 1, 0, none⟩) xs.length xs.length)).store_off (p := ⟨w.heap.size + 1, 0, none⟩) (by simp <;> omega) (.int .i64 L)).store_off (p := ⟨w.heap.size + 1, 1, none⟩) (by simp <;> omega) (.int .i64 S)).store_off (p := ⟨w.heap.size + 1, 2, none⟩) (by simp <;> omega) (.slice (some ⟨w.heap.size + 1 + 1 + 1, 0, none⟩) xs.length xs.length))
  have Hb1 := Lib.hid (((((Hb0.out.trans (hb1.mono Hb0.out.size)).setCell (p := ⟨w.heap.size + 1 + 1, 2, none⟩) (by simp <;> omega) (.slice (some ⟨w.heap.size + 1 + 1 + 1, 0, none⟩) xs.length xs.length)).setCell (p := ⟨w.heap.size + 1, 0, none⟩) (by simp <;> omega) (.int .i64 L)).setCell (p := ⟨w.heap.size + 1, 1, none⟩) (by simp <;> omega) (.int .i64 S)).setCell (p := ⟨w.heap.size + 1, 2, none⟩) (by simp <;> omega) (.slice (some ⟨w.heap.size + 1 + 1 + 1, 0, none⟩) xs.length xs.length))
  clear ha1 hb1 eB
  go_wp2
  have s0 := (World.cell?_setCell_other w1 ⟨w.heap.size + 1 + 1, 2, none⟩ ⟨w.heap.size + 1, 0, none⟩ (.slice (some ⟨w.heap.size + 1 + 1 + 1, 0, none⟩) xs.length xs.length) (by simp)).trans cB
  have s1 := (World.cell?_setCell_other w1 ⟨w.heap.size + 1 + 1, 2, none⟩ ⟨w.heap.size + 1, 1, none⟩ (.slice (some ⟨w.heap.size + 1 + 1 + 1, 0, none⟩) xs.length xs.length) (by simp)).trans cC
  have s2 := (World.cell?_setCell_other w1 ⟨w.heap.size + 1 + 1, 2, none⟩ ⟨w.heap.size + 1, 2, none⟩ (.slice (some ⟨w.heap.size + 1 + 1 + 1, 0, none⟩) xs.length xs.length) (by simp)).trans cD
  have r0 := World.cell?_setCell_same _ _ (.int .i64 L) s0
  have u1 := (World.cell?_setCell_other _ ⟨w.heap.size + 1, 0, none⟩ _ (.int .i64 L) (by simp)).trans s1
  have r1 := World.cell?_setCell_same _ _ (.int .i64 S) u1
  have u2 := (World.cell?_setCell_other _ ⟨w.heap.size + 1, 1, none⟩ _ (.int .i64 S) (by simp)).trans ((World.cell?_setCell_other _ ⟨w.heap.size + 1, 0, none⟩ _ (.int .i64 L) (by simp)).trans s2)
  have r2 := World.cell?_setCell_same _ _ (.slice (some ⟨w.heap.size + 1 + 1 + 1, 0, none⟩) xs.length xs.length) u2
  refine bodyPost_ret (v := .agg #[.int .i64 L, .int .i64 S, .slice (some ⟨w.heap.size + 1 + 1 + 1, 0, none⟩) xs.length xs.length]) (by simp [results, Tryd.results7, go_sem, r0, r1, r2]) rfl ?_
  exact ⟨_, rfl, ⟨[w.heap.size + 1 + 1 + 1], ⟨_, rfl, Ha.out⟩, by simp [Fresh]; omega⟩, Hb1.out⟩
end Go.Proofs.YtdohepngandajaaDoor
