/-
  The laws' helpers on labelled graphs.
-/
import Derived.Test.YtdohepngandajaaDoorRows
import Derived.Test.YtdohepngandajaaDoorBase
import Derived.Test.YtdohepngandajaaDoorHarn
import Derived.Test.YtdohepngandajaaDoorLab
import Derived.Deep.OwnRows
import Derived.OwnWalk
import Derived.Handy
import Derived.Deep.RegionHeld3
import Derived.Deep.DeepCutAuto
namespace Go.Proofs.YtdohepngandajaaDoor
open Go.RowKit Go.Deep Go.Sd

theorem infoA : (Tryd.prog.info? 40).map (fun i => (i.zero, i.size, i.bytes)) = some (some (.agg #[.int .i64 0, .int .i64 0, .int .i64 0]), 3, 24) := by kernel_rfl
theorem szArcS_c {w : World} {v : Value} {xs : List Arc3} {l : Int} (h : ArcsR w v xs) (h0 : 0 ≤ l) (h1 : l ≤ 1048576) :
    Calls Tryd.prog 12 #[v, .int .i64 l] w fun e w' => e = .returned (.int .i64 (szS l xs.length)) ∧ w = w' := by
  obtain ⟨hlen, a, c, rfl, _, _, _, _⟩ := h
  by_cases ht : l - xs.length < 0
  all_goals
    have H := Lib.hid (show szS l xs.length = _ from by unfold szS; first | rw [if_pos ht] | rw [if_neg ht])
    go_enter Tryd.func12, Tryd.ntmps12
    go_wp2
    go_ret
    exact ⟨by rw [H.out]; rfl, rfl⟩
set_option maxHeartbeats 400000 in
theorem szLabels_c {w : World} {v : Value} {x : Lb} {l : Int} (h : LabR w v x) (h0 : 0 ≤ l) (h1 : l ≤ 1048576) :
    Calls Tryd.prog 5 #[v, .int .i64 l] w fun e w' => e = .returned (.int .i64 (szS l x.2.2.length)) ∧ Below w.heap.size w w' := by
  obtain ⟨va, rfl, ha⟩ := h
  have Hc := Lib.hid (fun w1 (hb : Below w.heap.size w w1) => szArcS_c (ArcsR.frame _ _ _ _ ha hb) h0 h1)
  have hb := szS_bd l x.2.2.length (by omega)
  have Hb := Lib.hid (fun (u : Obj) => (Below.refl w.heap.size w).alloc (Nat.le_refl _) u)
  obtain ⟨_, aa, ac, rfl, _, _, _, _⟩ := ha
  have H := Lib.hid (show szS l x.2.2.length < 0 → szS l x.2.2.length = -1 from by intro h; omega)
  generalize hs : szS l x.2.2.length = s at Hc hb H ⊢
  clear hs
  by_cases c1 : s < 0
  · have H2 := Lib.hid (H.out c1)
    go_enter Tryd.func5, Tryd.ntmps5
    go_wp2_with fail
    refine (Hc.out _ (Hb.out _)).mono ?_
    rintro e w' ⟨rfl, rfl⟩
    go_wp2
    go_ret
    exact ⟨by rw [H2.out]; rfl, Hb.out _⟩
  · go_enter Tryd.func5, Tryd.ntmps5
    go_wp2_with fail
    refine (Hc.out _ (Hb.out _)).mono ?_
    rintro e w' ⟨rfl, rfl⟩
    go_wp2
    go_ret
    exact ⟨rfl, Hb.out _⟩
set_option maxHeartbeats 400000 in
theorem toArc_c {w : World} {a b c : Int} :
    Calls Tryd.prog 31 #[.agg #[.int .i64 a, .int .i64 b, .int .i64 c]] w fun e w' => e = .returned (.agg #[.int .i64 a, .int .i64 b, .int .i64 c]) ∧ Below w.heap.size w w' := by
  go_enter Tryd.func31, Tryd.ntmps31
  go_wp2
  refine bodyPost_ret (v := .agg #[.int .i64 a, .int .i64 b, .int .i64 c]) (by simp [results, Tryd.results31, go_sem]) rfl ?_
  exact ⟨rfl, (((Below.refl w.heap.size w).alloc (Nat.le_refl _) _).alloc (by simp) _).alloc (by simp <;> omega) _⟩
set_option maxHeartbeats 400000 in
theorem toArcS_c {w : World} {v : Value} {xs : List Arc3} (h : ArcsR w v xs) (hsz : xs.length ≤ 1048576) :
    Calls Tryd.prog 16 #[v] w fun e w' => e = .returned (.slice (some ⟨w.heap.size, 0, none⟩) xs.length xs.length) ∧ ArcsR w' (.slice (some ⟨w.heap.size, 0, none⟩) xs.length xs.length) xs ∧ Below w.heap.size w w' := by
  obtain ⟨hlen, a, c, rfl, hc1, hc2, hc3, hcell⟩ := h
  obtain ⟨n, hn⟩ : ∃ n, n = xs.length := ⟨_, rfl⟩
  rw [← hn] at hsz hcell hc1 hlen ⊢
  have Hn := Lib.hid hn
  clear hn
  go_enter Tryd.func16, Tryd.ntmps16
  go_wp2_with (first
    | (at_make; refine wpl_make3 rfl (.tmp 6) (.tmp 6) 27 rfl 40 24 Tryd.underlying27 infoA n (by rfl) (by rfl) (by omega) (by omega) ?_; intro w1 hz1 hc1' hb1; have Hz1 := Lib.hid hz1; clear hz1)
    | fail)
  have Hb1 := Lib.hid hb1
  have Hc1 := Lib.hid hc1'
  clear hb1 hc1'
  go_loopg [4] n (fun g i wr => ∃ (k : Nat), i = .int .i64 k ∧ k + g = n ∧ CellsI wr w.heap.size (n * 3) (arcF xs k) ∧ w.heap.size < wr.heap.size ∧ Below w.heap.size w wr)
  case atStart => exact ⟨0, rfl, by omega, Hc1.out.congr fun j _ => by unfold arcF; rw [if_neg (by omega)], by have := Hz1.out; omega, Hb1.out⟩
  case round =>
    obtain ⟨k, rfl, hk, hcl, hlt1, hbel⟩ := hrel
    by_cases hlt : k < n
    · obtain ⟨b, o, rfl, hb, hx0⟩ := hcell (by omega)
      obtain ⟨x, hx, _⟩ := at_lt (xs := xs) (k := k) (by have := Hn.out; omega)
      obtain ⟨g0, g1, g2⟩ := hx0 k x hx
      have hu0 : wr.cell? ⟨b, o + k * 3, none⟩ = some (.int .i64 x.1) := (hbel.cell (p := ⟨b, o + k * 3, none⟩) hb).trans g0
      have hu1 : wr.cell? ⟨b, o + k * 3 + 1, none⟩ = some (.int .i64 x.2.1) := (hbel.cell (p := ⟨b, o + k * 3 + 1, none⟩) hb).trans g1
      have hu2 : wr.cell? ⟨b, o + k * 3 + 2, none⟩ = some (.int .i64 x.2.2) := (hbel.cell (p := ⟨b, o + k * 3 + 2, none⟩) hb).trans g2
      have Hx := Lib.hid hx
      have Hcl := Lib.hid hcl
      have Hbel := Lib.hid hbel
      have Hlt1 := Lib.hid hlt1
      have Hz := Lib.hid (hbel.size)
      clear g0 g1 g2 hx0 hcell hx hcl hbel hlt1
      go_wp2_with fail
      refine toArc_c.mono ?_
      rintro e w2 ⟨rfl, hb2⟩
      have hc2 := Hcl.out.keep hb2 Hlt1.out
      have hA := hc2 (k * 3) (by omega)
      have hB := hc2 (k * 3 + 1) (by omega)
      have hC := hc2 (k * 3 + 2) (by omega)
      obtain ⟨hA1, hA2⟩ := hA
      obtain ⟨hB1, hB2⟩ := hB
      obtain ⟨hC1, hC2⟩ := hC
      have Hf := Lib.hid ((((hc2.set (j := k * 3) (by omega) x.1).set (j := k * 3 + 1) (by omega) x.2.1).set (j := k * 3 + 2) (by omega) x.2.2).congr fun j _ => arcF_next Hx.out j)
      have Hs := Lib.hid (show w.heap.size < w2.heap.size from Nat.lt_of_lt_of_le Hlt1.out hb2.size)
      have Hbf := Lib.hid (((((Hbel.out.trans (hb2.mono Hz.out)).setCell (p := ⟨w.heap.size, k * 3, none⟩) (Nat.le_refl _) (.int .i64 x.1))).setCell (p := ⟨w.heap.size, k * 3 + 1, none⟩) (Nat.le_refl _) (.int .i64 x.2.1)).setCell (p := ⟨w.heap.size, k * 3 + 2, none⟩) (Nat.le_refl _) (.int .i64 x.2.2))
      clear hc2 hb2
      go_wp2
      go_roundg (n - (k + 1))
      case measure => omega
      case rel => exact ⟨k + 1, by go_num, by omega, Hf.out, by simp; exact Hs.out, Hbf.out⟩
    · have e : k = n := by omega
      subst e
      have Hr := Lib.hid (show ArcsR wr (.slice (some ⟨w.heap.size, 0, none⟩) k k) xs from by
        have h := ArcsR.of_cells (xs := xs) hlt1 (by rw [← Hn.out]; omega) (by rw [← Hn.out]; exact hcl)
        rw [← Hn.out] at h
        exact h)
      clear hcl hcell
      go_wp2
      go_ret
      exact ⟨rfl, Hr.out, hbel⟩
set_option maxHeartbeats 400000 in
theorem toLabels_c {w : World} {v : Value} {x : Lb} (h : LabR w v x) (hsz : x.2.2.length ≤ 1048576) :
    Calls Tryd.prog 7 #[v] w fun e w' => ∃ v', e = .returned v' ∧ LabR w' v' x ∧ Below w.heap.size w w' := by
  obtain ⟨va, rfl, ha⟩ := h
  have Hc := Lib.hid (fun w1 (hb : Below w.heap.size w w1) => toArcS_c (ArcsR.frame _ _ _ _ ha hb) hsz)
  obtain ⟨_, aa, ac, rfl, _, _, _, _⟩ := ha
  obtain ⟨L, S, xs⟩ := x
  go_enter Tryd.func7, Tryd.ntmps7
  go_wp2_with fail
  have Hb0 := Lib.hid ((((Below.refl w.heap.size w).alloc (Nat.le_refl _) (.cells #[.int .i64 L, .int .i64 S, .slice aa xs.length ac] 24)).alloc (by simp) (.cells #[.int .i64 0, .int .i64 0, .slice none 0 0] 29)).alloc (by simp <;> omega) (.cells #[.int .i64 L, .int .i64 S, .slice none 0 0] 29))
  refine (Hc.out _ Hb0.out).mono ?_
  rintro e w1 ⟨rfl, ha1, hb1⟩
  have eB : (((w.alloc (.cells #[.int .i64 L, .int .i64 S, .slice aa xs.length ac] 24)).alloc (.cells #[.int .i64 0, .int .i64 0, .slice none 0 0] 29)).alloc (.cells #[.int .i64 L, .int .i64 S, .slice none 0 0] 29)).heap.size = w.heap.size + 1 + 1 + 1 := by simp
  rw [eB] at ha1 ⊢
  have cB : w1.cell? ⟨w.heap.size + 1, 0, none⟩ = some (.int .i64 0) := (hb1.cell (p := ⟨w.heap.size + 1, 0, none⟩) (by simp <;> omega)).trans (by simp [go_sem])
  have cC : w1.cell? ⟨w.heap.size + 1, 1, none⟩ = some (.int .i64 0) := (hb1.cell (p := ⟨w.heap.size + 1, 1, none⟩) (by simp <;> omega)).trans (by simp [go_sem])
  have cD : w1.cell? ⟨w.heap.size + 1, 2, none⟩ = some (.slice none 0 0) := (hb1.cell (p := ⟨w.heap.size + 1, 2, none⟩) (by simp <;> omega)).trans (by simp [go_sem])
  have cE : w1.cell? ⟨w.heap.size + 1 + 1, 0, none⟩ = some (.int .i64 L) := (hb1.cell (p := ⟨w.heap.size + 1 + 1, 0, none⟩) (by simp <;> omega)).trans (by simp [go_sem])
  have cF : w1.cell? ⟨w.heap.size + 1 + 1, 1, none⟩ = some (.int .i64 S) := (hb1.cell (p := ⟨w.heap.size + 1 + 1, 1, none⟩) (by simp <;> omega)).trans (by simp [go_sem])
  have cG : w1.cell? ⟨w.heap.size + 1 + 1, 2, none⟩ = some (.slice none 0 0) := (hb1.cell (p := ⟨w.heap.size + 1 + 1, 2, none⟩) (by simp <;> omega)).trans (by simp [go_sem])
  have fB : w1.frozen? ⟨w.heap.size + 1, 0, none⟩ = false := (hb1.frozen (p := ⟨w.heap.size + 1, 0, none⟩) (by simp <;> omega)).trans (by simp [go_sem])
  have fC : w1.frozen? ⟨w.heap.size + 1, 1, none⟩ = false := (hb1.frozen (p := ⟨w.heap.size + 1, 1, none⟩) (by simp <;> omega)).trans (by simp [go_sem])
  have fD : w1.frozen? ⟨w.heap.size + 1, 2, none⟩ = false := (hb1.frozen (p := ⟨w.heap.size + 1, 2, none⟩) (by simp <;> omega)).trans (by simp [go_sem])
  have fG : w1.frozen? ⟨w.heap.size + 1 + 1, 2, none⟩ = false := (hb1.frozen (p := ⟨w.heap.size + 1 + 1, 2, none⟩) (by simp <;> omega)).trans (by simp [go_sem])
  have Ha := Lib.hid ((((ha1.store_off (p := ⟨w.heap.size + 1 + 1, 2, none⟩) (by simp) (.slice (some ⟨w.heap.size + 1 + 1 + 1, 0, none⟩) xs.length xs.length)).store_off (p := ⟨w.heap.size + 1, 0, none⟩) (by simp <;> omega) (.int .i64 L)).store_off (p := ⟨w.heap.size + 1, 1, none⟩) (by simp <;> omega) (.int .i64 S)).store_off (p := ⟨w.heap.size + 1, 2, none⟩) (by simp <;> omega) (.slice (some ⟨w.heap.size + 1 + 1 + 1, 0, none⟩) xs.length xs.length))
  have Hb1 := Lib.hid (((((Hb0.out.trans (hb1.mono Hb0.out.size)).setCell (p := ⟨w.heap.size + 1 + 1, 2, none⟩) (by simp <;> omega) (.slice (some ⟨w.heap.size + 1 + 1 + 1, 0, none⟩) xs.length xs.length)).setCell (p := ⟨w.heap.size + 1, 0, none⟩) (by simp <;> omega) (.int .i64 L)).setCell (p := ⟨w.heap.size + 1, 1, none⟩) (by simp <;> omega) (.int .i64 S)).setCell (p := ⟨w.heap.size + 1, 2, none⟩) (by simp <;> omega) (.slice (some ⟨w.heap.size + 1 + 1 + 1, 0, none⟩) xs.length xs.length))
  clear ha1 hb1 eB
  go_wp2
  have s0 := (World.cell?_setCell_other w1 ⟨w.heap.size + 1 + 1, 2, none⟩ ⟨w.heap.size + 1, 0, none⟩ (.slice (some ⟨w.heap.size + 1 + 1 + 1, 0, none⟩) xs.length xs.length) (by simp)).trans cB
  have s1 := (World.cell?_setCell_other w1 ⟨w.heap.size + 1 + 1, 2, none⟩ ⟨w.heap.size + 1, 1, none⟩ (.slice (some ⟨w.heap.size + 1 + 1 + 1, 0, none⟩) xs.length xs.length) (by simp)).trans cC
  have s2 := (World.cell?_setCell_other w1 ⟨w.heap.size + 1 + 1, 2, none⟩ ⟨w.heap.size + 1, 2, none⟩ (.slice (some ⟨w.heap.size + 1 + 1 + 1, 0, none⟩) xs.length xs.length) (by simp)).trans cD
  have r0 := World.cell?_setCell_same _ _ (.int .i64 L) s0
  have u1 := (World.cell?_setCell_other _ ⟨w.heap.size + 1, 0, none⟩ _ (.int .i64 L) (by simp)).trans s1
  have r1 := World.cell?_setCell_same _ _ (.int .i64 S) u1
  have u2 := (World.cell?_setCell_other _ ⟨w.heap.size + 1, 1, none⟩ _ (.int .i64 S) (by simp)).trans ((World.cell?_setCell_other _ ⟨w.heap.size + 1, 0, none⟩ _ (.int .i64 L) (by simp)).trans s2)
  have r2 := World.cell?_setCell_same _ _ (.slice (some ⟨w.heap.size + 1 + 1 + 1, 0, none⟩) xs.length xs.length) u2
  refine bodyPost_ret (v := .agg #[.int .i64 L, .int .i64 S, .slice (some ⟨w.heap.size + 1 + 1 + 1, 0, none⟩) xs.length xs.length]) (by simp [results, Tryd.results7, go_sem, r0, r1, r2]) rfl ?_
  exact ⟨_, rfl, ⟨_, rfl, Ha.out⟩, Hb1.out⟩
set_option maxHeartbeats 400000 in
theorem eqArc_same {w : World} {a b c : Int} :
    Calls Tryd.prog 38 #[.agg #[.int .i64 a, .int .i64 b, .int .i64 c], .agg #[.int .i64 a, .int .i64 b, .int .i64 c]] w fun e w' => e = .returned (.bool true) ∧ Below w.heap.size w w' := by
  have t1 : (a != a) = false := by simp
  have t2 : (b != b) = false := by simp
  have t3 : (c != c) = false := by simp
  go_enter Tryd.func38, Tryd.ntmps38
  go_wp2
  go_ret
  exact ⟨rfl, ((Below.refl w.heap.size w).alloc (Nat.le_refl _) _).alloc (by simp) _⟩
set_option maxHeartbeats 400000 in
theorem eqArcS_same {w : World} {v1 v2 : Value} {xs : List Arc3} (h1 : ArcsR w v1 xs) (h2 : ArcsR w v2 xs) :
    Calls Tryd.prog 20 #[v1, v2] w fun e w' => e = .returned (.bool true) ∧ Below w.heap.size w w' := by
  obtain ⟨hlen, a1, c1, rfl, _, _, _, hc1⟩ := h1
  obtain ⟨_, a2, c2, rfl, _, _, _, hc2⟩ := h2
  have hl1 : ((xs.length : Int) != xs.length) = false := by simp
  obtain ⟨n, hn⟩ : ∃ n, n = xs.length := ⟨_, rfl⟩
  rw [← hn] at hl1 hc1 hc2 hlen ⊢
  have Hn := Lib.hid hn
  clear hn
  go_enter Tryd.func20, Tryd.ntmps20
  go_wp2
  go_loopg [5] n (fun g i wr => ∃ (k : Nat), i = .int .i64 k ∧ k + g = n ∧ Below w.heap.size w wr)
  case atStart => exact ⟨0, rfl, by omega, Below.refl _ _⟩
  case round =>
    obtain ⟨k, rfl, hk, hbel⟩ := hrel
    by_cases hlt : k < n
    · obtain ⟨b1, o1, rfl, hb1, hx1⟩ := hc1 (by omega)
      obtain ⟨b2, o2, rfl, hb2, hx2⟩ := hc2 (by omega)
      obtain ⟨x, hx, _⟩ := at_lt (xs := xs) (k := k) (by have := Hn.out; omega)
      obtain ⟨f0, f1, f2⟩ := hx1 k x hx
      obtain ⟨g0, g1, g2⟩ := hx2 k x hx
      have hF : wr.cell? ⟨b1, o1 + k * 3, none⟩ = some (.int .i64 x.1) ∧ wr.cell? ⟨b1, o1 + k * 3 + 1, none⟩ = some (.int .i64 x.2.1) ∧ wr.cell? ⟨b1, o1 + k * 3 + 2, none⟩ = some (.int .i64 x.2.2) ∧ wr.cell? ⟨b2, o2 + k * 3, none⟩ = some (.int .i64 x.1) ∧ wr.cell? ⟨b2, o2 + k * 3 + 1, none⟩ = some (.int .i64 x.2.1) ∧ wr.cell? ⟨b2, o2 + k * 3 + 2, none⟩ = some (.int .i64 x.2.2) :=
        ⟨(hbel.cell (p := ⟨b1, o1 + k * 3, none⟩) hb1).trans f0, (hbel.cell (p := ⟨b1, o1 + k * 3 + 1, none⟩) hb1).trans f1, (hbel.cell (p := ⟨b1, o1 + k * 3 + 2, none⟩) hb1).trans f2, (hbel.cell (p := ⟨b2, o2 + k * 3, none⟩) hb2).trans g0, (hbel.cell (p := ⟨b2, o2 + k * 3 + 1, none⟩) hb2).trans g1, (hbel.cell (p := ⟨b2, o2 + k * 3 + 2, none⟩) hb2).trans g2⟩
      have hz := hbel.size
      have hl1' : b1 < wr.heap.size := by omega
      have hl2' : b2 < wr.heap.size := by omega
      have hi1 : (k : Int) < (n : Int) := by omega
      have Hbel := Lib.hid hbel
      clear f0 f1 f2 g0 g1 g2 hx1 hx2 hc1 hc2 hx hbel
      go_wp2
      go_region_held3 (fun w' => w'.cell? ⟨b1, o1 + k * 3, none⟩ = some (.int .i64 x.1) ∧ w'.cell? ⟨b1, o1 + k * 3 + 1, none⟩ = some (.int .i64 x.2.1) ∧ w'.cell? ⟨b1, o1 + k * 3 + 2, none⟩ = some (.int .i64 x.2.2) ∧ w'.cell? ⟨b2, o2 + k * 3, none⟩ = some (.int .i64 x.1) ∧ w'.cell? ⟨b2, o2 + k * 3 + 1, none⟩ = some (.int .i64 x.2.1) ∧ w'.cell? ⟨b2, o2 + k * 3 + 2, none⟩ = some (.int .i64 x.2.2))
        (first | exact hS1 | exact hF | go_keep)
        ((first
          | (go_at_call 38; refine eqArc_same.mono ?_; rintro e w2 ⟨rfl, hb2'⟩; have hb3 := ((Below.refl wr.heap.size wr).drew).trans hb2'; have hS1 : w2.cell? ⟨b1, o1 + k * 3, none⟩ = some (.int .i64 x.1) ∧ w2.cell? ⟨b1, o1 + k * 3 + 1, none⟩ = some (.int .i64 x.2.1) ∧ w2.cell? ⟨b1, o1 + k * 3 + 2, none⟩ = some (.int .i64 x.2.2) ∧ w2.cell? ⟨b2, o2 + k * 3, none⟩ = some (.int .i64 x.1) ∧ w2.cell? ⟨b2, o2 + k * 3 + 1, none⟩ = some (.int .i64 x.2.1) ∧ w2.cell? ⟨b2, o2 + k * 3 + 2, none⟩ = some (.int .i64 x.2.2) := ⟨(hb3.cell (p := ⟨b1, o1 + k * 3, none⟩) hl1').trans hF.1, (hb3.cell (p := ⟨b1, o1 + k * 3 + 1, none⟩) hl1').trans hF.2.1, (hb3.cell (p := ⟨b1, o1 + k * 3 + 2, none⟩) hl1').trans hF.2.2.1, (hb3.cell (p := ⟨b2, o2 + k * 3, none⟩) hl2').trans hF.2.2.2.1, (hb3.cell (p := ⟨b2, o2 + k * 3 + 1, none⟩) hl2').trans hF.2.2.2.2.1, (hb3.cell (p := ⟨b2, o2 + k * 3 + 2, none⟩) hl2').trans hF.2.2.2.2.2⟩; have Hb3 := Lib.hid (Hbel.out.trans (hb3.mono hz)); clear hb2' hb3)
          | fail))
      go_wp2
      go_roundg (n - (k + 1))
      case measure => omega
      case rel => exact ⟨k + 1, by go_num, by omega, Hb3.out⟩
    · have e : k = n := by omega
      subst e
      clear hc1 hc2
      go_wp2
      go_ret
      exact ⟨rfl, hbel⟩
set_option maxHeartbeats 400000 in
theorem eqLabels_same {w : World} {v1 v2 : Value} {x : Lb} (h1 : LabR w v1 x) (h2 : LabR w v2 x) :
    Calls Tryd.prog 9 #[v1, v2] w fun e w' => e = .returned (.bool true) ∧ Below w.heap.size w w' := by
  obtain ⟨va, rfl, ha⟩ := h1
  obtain ⟨vb, rfl, hb⟩ := h2
  have Hc := Lib.hid (fun w1 (hbw : Below w.heap.size w w1) => eqArcS_same (ArcsR.frame _ _ _ _ ha hbw) (ArcsR.frame _ _ _ _ hb hbw))
  obtain ⟨_, aa, ac, rfl, _, _, _, _⟩ := ha
  obtain ⟨_, ba, bc, rfl, _, _, _, _⟩ := hb
  obtain ⟨L, S, xs⟩ := x
  have t1 : (L != L) = false := by simp
  have t2 : (S != S) = false := by simp
  have Hb := Lib.hid (fun (u u' : Obj) => ((Below.refl w.heap.size w).alloc (Nat.le_refl _) u).alloc (by simp) u')
  go_enter Tryd.func9, Tryd.ntmps9
  go_wp2_with fail
  refine (Hc.out _ (Hb.out _ _)).mono ?_
  rintro e w1 ⟨rfl, hb1⟩
  have Hb1 := Lib.hid ((Hb.out _ _).trans (hb1.mono (by simp <;> omega)))
  clear hb1
  go_wp2
  go_ret
  exact ⟨rfl, Hb1.out⟩
end Go.Proofs.YtdohepngandajaaDoor
