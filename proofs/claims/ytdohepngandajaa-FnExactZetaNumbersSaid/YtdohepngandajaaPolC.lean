/-
  Determinants, both sides.
-/
import Derived.Test.YtdohepngandajaaPolB
import Derived.Test.YtdohepngandajaaJoinSpec
import Derived.Deep.RegionHeld3
namespace Go.Proofs.Ytdohepngandajaa
open Go.RowKit Go.Deep Go.Sd
set_option linter.unusedSimpArgs false
def minF (n : Nat) (m : List (List Int)) (j : Nat) : Int := detR n (minorT m 0 j (n + 1))
theorem detR_succ (n : Nat) (m : List (List Int)) : detR (n + 1) m = detSum m (minF n m) (n + 1) := rfl
theorem detSum_zero (m : List (List Int)) (f : Nat → Int) {j : Nat} (h : ent m 0 j = 0) : detSum m f (j + 1) = detSum m f j := by
  rw [detSum, if_neg (by simp [h])]
theorem detSum_next (m : List (List Int)) (f : Nat → Int) {j : Nat} (h : ent m 0 j ≠ 0) : detSum m f (j + 1) = detSum m f j + sgn j * ent m 0 j * f j := by
  rw [detSum, if_pos h]
theorem minF_bd {n : Nat} {m : List (List Int)} (hn : n ≤ 3) (hs : Sq (n + 1) m) (h : Bd 9 m) (j : Nat) : -4374 ≤ minF n m j ∧ minF n m j ≤ 4374 := by
  have h1 := detR_bd n (minorT m 0 j (n + 1)) (by omega) (minorT_sq m 0 j (n + 1)) (minorT_bd hs h)
  have h2 : detB n ≤ 4374 := by
    match n, hn with
    | 0, _ | 1, _ | 2, _ | 3, _ => decide
  unfold minF
  omega
theorem detSum_lim {n : Nat} {m : List (List Int)} (hn : n ≤ 3) (hs : Sq (n + 1) m) (h : Bd 9 m) {j : Nat} (hj : j ≤ n + 1) : -157464 ≤ detSum m (minF n m) j ∧ detSum m (minF n m) j ≤ 157464 := by
  have h1 := detSum_bd (f := minF n m) (Y := 4374) hs (by omega) h (fun j _ => minF_bd hn hs h j) (by decide) j hj
  omega
set_option maxHeartbeats 2000000 in
set_option maxRecDepth 100000 in
theorem impl_det_c : ∀ (n : Nat), n ≤ 4 → ∀ {w : World} {va : Value} {m : List (List Int)}, Tab w va m → Sq n m → Bd 9 m →
    Calls Try.prog 204 #[va] w fun e w' => e = .returned (.int .i64 (detR n m)) ∧ Below w.heap.size w w'
  | 0, _, w, va, m, h, hs, _ => by
    obtain ⟨a, c, rfl, -⟩ := h.shape
    have hl : m.length = 0 := hs.1
    rw [hl]
    go_enter Try.func204, Try.ntmps204
    go_wp2
    go_ret
    exact ⟨rfl, Below.refl _ _⟩
  | n + 1, hn, w, va, m, h, hs, hbd => by
    have IH := Lib.hid (fun (w : World) (va : Value) (m : List (List Int)) => impl_det_c n (by omega) (w := w) (va := va) (m := m))
    have Hb1 := Lib.hid (fun (j : Nat) => minorT_bd (i := 0) (j := j) hs hbd)
    have Hlim := Lib.hid (fun (j : Nat) (hj : j ≤ n + 1) => detSum_lim (by omega) hs hbd hj)
    have HmF := Lib.hid (fun (j : Nat) => minF_bd (by omega) hs hbd j)
    have Hent := Lib.hid (fun (j : Nat) (hj : j < n + 1) => hbd.ent (i := 0) (j := j) hs.2 (by rw [hs.1]; omega) hj)
    have HC := Lib.hid (fun (w1 : World) (hb : Below w.heap.size w w1) (j : Nat) (hj : j < n + 1) => (show Calls Try.prog 228 #[va, .int .i64 0, .int .i64 j] w1 (Makes (OTab 3 50) w1 (minorT m 0 j (n + 1))) from without_c (I := 0) (Tab.frame _ _ _ _ h hb) hs (by omega) hj (by omega)))
    have HD := Lib.hid (fun (w1 : World) (v : Value) (j : Nat) (h1 : Tab w1 v (minorT m 0 j (n + 1))) => (show Calls Try.prog 204 #[v] w1 (fun e w' => e = .returned (.int .i64 (minF n m j)) ∧ Below w1.heap.size w1 w') from IH.out _ _ _ h1 (minorT_sq m 0 j (n + 1)) (Hb1.out j)))
    have HS0 := Lib.hid (fun (j : Nat) (h : ent m 0 j = 0) => detSum_zero m (minF n m) h)
    have HS1 := Lib.hid (fun (j : Nat) (h : ent m 0 j ≠ 0) => detSum_next m (minF n m) h)
    have HR := Lib.hid (detR_succ n m)
    generalize detR (n + 1) m = R at HR ⊢
    obtain ⟨ab, ao, ac, rfl, hab, hae⟩ := h.entAt hs.1 hs.2 (by omega)
    obtain ⟨rb, ro, rc, g0, hrb, hri, hA⟩ := hae.at (i := 0) (by omega) (by omega)
    rw [Nat.add_zero] at g0
    clear h hs hbd hae hri IH Hb1
    obtain ⟨n1, hn1⟩ : ∃ x, x = n + 1 := ⟨_, rfl⟩
    rw [← hn1] at HR g0 hA Hlim Hent HC ⊢
    have Hn1 := Lib.hid hn1
    have hn4 : n1 ≤ 4 := by omega
    have hn0 : 0 < n1 := by omega
    have hz0 : ((n1 : Int) == 0) = false := by simp; omega
    clear hn1 hn
    go_enter Try.func204, Try.ntmps204
    go_wp2
    go_loopg [3, 4, 14] n1 (fun g vs sg i wr => ∃ (j : Nat) (S s : Int), vs = .int .i64 S ∧ sg = .int .i64 s ∧ i = .int .i64 j ∧ j + g = n1 ∧ Hid (S = detSum m (minF n m) j ∧ s = sgn j) ∧ Hid (Below w.heap.size w wr))
    case atStart => exact ⟨0, 0, 1, rfl, rfl, rfl, by omega, Lib.hid ⟨rfl, rfl⟩, Lib.hid (Below.refl _ _)⟩
    case round =>
      obtain ⟨j, S, s, rfl, rfl, rfl, hj, HX, HB⟩ := hrel
      obtain ⟨wj, rfl⟩ : ∃ x, x = wr := ⟨_, rfl⟩
      by_cases hjn : j < n1
      · have hji : (j : Int) < (n1 : Int) := by omega
        obtain ⟨g, rfl⟩ : ∃ x, gk = x + 1 := ⟨gk - 1, by omega⟩
        have hSb := Hlim.out j (by omega)
        rw [← HX.out.1] at hSb
        have hsb : s = 1 ∨ s = -1 := by rw [HX.out.2]; exact sgn_bd j
        have hxb := Hent.out j hjn
        have hfb := HmF.out j
        have HZ := Lib.hid (HS0.out j)
        have HY := Lib.hid (HS1.out j)
        have HCj := Lib.hid (fun w1 hb => HC.out w1 hb j hjn)
        have HDj := Lib.hid (fun w1 v h => HD.out w1 v j h)
        have hneg : IntKind.i64.wrap (-s) = -s := IntWalk.i64_in _ (by omega)
        have hsb2 : -1 ≤ s ∧ s ≤ 1 := by omega
        have gA := (HB.out.cell (p := ⟨rb, ro + j, none⟩) hrb).trans (hA j hjn)
        have gB := (HB.out.cell (p := ⟨ab, ao, none⟩) hab).trans g0
        have hrbj : rb < wj.heap.size := Nat.lt_of_lt_of_le hrb HB.out.size
        have habj : ab < wj.heap.size := Nat.lt_of_lt_of_le hab HB.out.size
        obtain ⟨x, hx⟩ : ∃ x, x = ent m 0 j := ⟨_, rfl⟩
        rw [← hx] at hxb gA
        have Hx := Lib.hid hx
        have HSg := Lib.hid (show -s = sgn (j + 1) from by rw [sgn_next, HX.out.2])
        clear HC HD HS0 HS1 hx hsb
        by_cases hx0 : x = 0
        · have hne : (x != 0) = false := by simp [hx0]
          have HS2 := Lib.hid (show S = detSum m (minF n m) (j + 1) from by rw [HZ.out (by rw [← Hx.out]; exact hx0)]; exact HX.out.1)
          clear hx0 HX HCj HDj HZ HY hSb hfb
          go_wp2
          go_roundg g
          case measure => omega
          case rel => exact ⟨j + 1, S, -s, rfl, by rfl, by go_num, by omega, Lib.hid ⟨HS2.out, HSg.out⟩, HB⟩
        · have hne : (x != 0) = true := by simp [hx0]
          obtain ⟨D, hD⟩ : ∃ D, D = minF n m j := ⟨_, rfl⟩
          have HS2 := Lib.hid (show S + s * x * D = detSum m (minF n m) (j + 1) from by rw [HY.out (by rw [← Hx.out]; exact hx0), HX.out.1, HX.out.2, Hx.out, hD])
          rw [← hD] at hfb
          have HDk := Lib.hid (fun w1 v (h : Tab w1 v (minorT m 0 j n1)) => (show Calls Try.prog 204 #[v] w1 (fun e w' => e = .returned (.int .i64 D) ∧ Below w1.heap.size w1 w') from by rw [hD]; exact HDj.out w1 v (by rw [← Hn1.out]; exact h)))
          have hp1 : -9 ≤ s * x ∧ s * x ≤ 9 := by
            have := prod_bd (X := 1) (Y := 9) hsb2 hxb
            omega
          have hp2 : -39366 ≤ s * x * D ∧ s * x * D ≤ 39366 := by
            have := prod_bd (X := 9) (Y := 4374) hp1 hfb
            omega
          have hw1 : IntKind.i64.wrap (s * x) = s * x := IntWalk.i64_in _ (by omega)
          have hw2 : IntKind.i64.wrap (s * x * D) = s * x * D := IntWalk.i64_in _ (by omega)
          have hw3 : IntKind.i64.wrap (S + s * x * D) = S + s * x * D := IntWalk.i64_in _ (by omega)
          have hfb2 := hfb
          clear hx0 HX HDj HZ HY hSb hfb hp1 hp2 hD
          go_wp2_with fail
          (with_reducible refine (HCj.out _ HB.out).mono ?_)
          rintro e w1 ⟨v1, rfl, hn1, hb1⟩
          have HB1 := Lib.hid (HB.out.trans (hb1.mono HB.out.size))
          have HDl := Lib.hid (HDk.out w1 v1 hn1.tab)
          clear hn1 hb1 HB HCj HDk
          go_wp2_with fail
          (with_reducible refine HDl.out.mono ?_)
          rintro e w2 ⟨rfl, hb2⟩
          have HB2 := Lib.hid (HB1.out.trans (hb2.mono HB1.out.size))
          clear hb2 HB1 HDl
          go_wp2
          go_roundg g
          case measure => omega
          case rel => exact ⟨j + 1, _, -s, rfl, by rfl, by go_num, by omega, Lib.hid ⟨HS2.out, HSg.out⟩, HB2⟩
      · have hji : ¬ ((j : Int) < (n1 : Int)) := by omega
        have HF := Lib.hid (show R = S from by rw [HR.out, HX.out.1, show n1 = j from by omega])
        clear HX HR
        go_wp2
        go_ret
        exact ⟨by rw [HF.out]; rfl, HB.out⟩
set_option maxHeartbeats 2000000 in
set_option maxRecDepth 100000 in
theorem spec_det_c : ∀ (n : Nat), n ≤ 4 → ∀ {w : World} {va : Value} {m : List (List Int)}, Tab w va m → Sq n m → Bd 9 m →
    Calls Try.prog 201 #[va] w fun e w' => e = .returned (.int .i64 (detR n m)) ∧ Below w.heap.size w w'
  | 0, _, w, va, m, h, hs, _ => by
    obtain ⟨a, c, rfl, -⟩ := h.shape
    have hl : m.length = 0 := hs.1
    rw [hl]
    go_enter Try.func201, Try.ntmps201
    go_wp2
    go_ret
    exact ⟨rfl, Below.refl _ _⟩
  | n + 1, hn, w, va, m, h, hs, hbd => by
    have IH := Lib.hid (fun (w : World) (va : Value) (m : List (List Int)) => spec_det_c n (by omega) (w := w) (va := va) (m := m))
    have Hb1 := Lib.hid (fun (j : Nat) => minorT_bd (i := 0) (j := j) hs hbd)
    have Hlim := Lib.hid (fun (j : Nat) (hj : j ≤ n + 1) => detSum_lim (by omega) hs hbd hj)
    have HmF := Lib.hid (fun (j : Nat) => minF_bd (by omega) hs hbd j)
    have Hent := Lib.hid (fun (j : Nat) (hj : j < n + 1) => hbd.ent (i := 0) (j := j) hs.2 (by rw [hs.1]; omega) hj)
    have HC := Lib.hid (fun (w1 : World) (hb : Below w.heap.size w w1) (j : Nat) (hj : j < n + 1) => (show Calls Try.prog 198 #[va, .int .i64 0, .int .i64 j] w1 (Makes (OTab 3 50) w1 (minorT m 0 j (n + 1))) from l7Minor_c (I := 0) (Tab.frame _ _ _ _ h hb) hs (by omega) hj (by omega)))
    have HD := Lib.hid (fun (w1 : World) (v : Value) (j : Nat) (h1 : Tab w1 v (minorT m 0 j (n + 1))) => (show Calls Try.prog 201 #[v] w1 (fun e w' => e = .returned (.int .i64 (minF n m j)) ∧ Below w1.heap.size w1 w') from IH.out _ _ _ h1 (minorT_sq m 0 j (n + 1)) (Hb1.out j)))
    have HS0 := Lib.hid (fun (j : Nat) (h : ent m 0 j = 0) => detSum_zero m (minF n m) h)
    have HS1 := Lib.hid (fun (j : Nat) (h : ent m 0 j ≠ 0) => detSum_next m (minF n m) h)
    have HR := Lib.hid (detR_succ n m)
    generalize detR (n + 1) m = R at HR ⊢
    obtain ⟨ab, ao, ac, rfl, hab, hae⟩ := h.entAt hs.1 hs.2 (by omega)
    obtain ⟨rb, ro, rc, g0, hrb, hri, hA⟩ := hae.at (i := 0) (by omega) (by omega)
    rw [Nat.add_zero] at g0
    clear h hs hbd hae hri IH Hb1
    obtain ⟨n1, hn1⟩ : ∃ x, x = n + 1 := ⟨_, rfl⟩
    rw [← hn1] at HR g0 hA Hlim Hent HC ⊢
    have Hn1 := Lib.hid hn1
    have hn4 : n1 ≤ 4 := by omega
    have hn0 : 0 < n1 := by omega
    have hz0 : ((n1 : Int) == 0) = false := by simp; omega
    clear hn1 hn
    go_enter Try.func201, Try.ntmps201
    go_wp2
    go_loopg [3, 4, 5] n1 (fun g vs sg i wr => ∃ (j : Nat) (S s : Int), vs = .int .i64 S ∧ sg = .int .i64 s ∧ i = .int .i64 j ∧ j + g = n1 ∧ Hid (S = detSum m (minF n m) j ∧ s = sgn j) ∧ Hid (Below w.heap.size w wr))
    case atStart => exact ⟨0, 0, 1, rfl, rfl, rfl, by omega, Lib.hid ⟨rfl, rfl⟩, Lib.hid (Below.refl _ _)⟩
    case round =>
      obtain ⟨j, S, s, rfl, rfl, rfl, hj, HX, HB⟩ := hrel
      obtain ⟨wj, rfl⟩ : ∃ x, x = wr := ⟨_, rfl⟩
      by_cases hjn : j < n1
      · have hji : (j : Int) < (n1 : Int) := by omega
        obtain ⟨g, rfl⟩ : ∃ x, gk = x + 1 := ⟨gk - 1, by omega⟩
        have hSb := Hlim.out j (by omega)
        rw [← HX.out.1] at hSb
        have hsb : s = 1 ∨ s = -1 := by rw [HX.out.2]; exact sgn_bd j
        have hxb := Hent.out j hjn
        have hfb := HmF.out j
        have HZ := Lib.hid (HS0.out j)
        have HY := Lib.hid (HS1.out j)
        have HCj := Lib.hid (fun w1 hb => HC.out w1 hb j hjn)
        have HDj := Lib.hid (fun w1 v h => HD.out w1 v j h)
        have hneg : IntKind.i64.wrap (-s) = -s := IntWalk.i64_in _ (by omega)
        have hsb2 : -1 ≤ s ∧ s ≤ 1 := by omega
        have gA := (HB.out.cell (p := ⟨rb, ro + j, none⟩) hrb).trans (hA j hjn)
        have gB := (HB.out.cell (p := ⟨ab, ao, none⟩) hab).trans g0
        have hrbj : rb < wj.heap.size := Nat.lt_of_lt_of_le hrb HB.out.size
        have habj : ab < wj.heap.size := Nat.lt_of_lt_of_le hab HB.out.size
        obtain ⟨x, hx⟩ : ∃ x, x = ent m 0 j := ⟨_, rfl⟩
        rw [← hx] at hxb gA
        have Hx := Lib.hid hx
        have HSg := Lib.hid (show -s = sgn (j + 1) from by rw [sgn_next, HX.out.2])
        clear HC HD HS0 HS1 hx hsb
        by_cases hx0 : x = 0
        · have hne : (x != 0) = false := by simp [hx0]
          have HS2 := Lib.hid (show S = detSum m (minF n m) (j + 1) from by rw [HZ.out (by rw [← Hx.out]; exact hx0)]; exact HX.out.1)
          clear hx0 HX HCj HDj HZ HY hSb hfb
          go_wp2
          go_roundg g
          case measure => omega
          case rel => exact ⟨j + 1, S, -s, rfl, by rfl, by go_num, by omega, Lib.hid ⟨HS2.out, HSg.out⟩, HB⟩
        · have hne : (x != 0) = true := by simp [hx0]
          obtain ⟨D, hD⟩ : ∃ D, D = minF n m j := ⟨_, rfl⟩
          have HS2 := Lib.hid (show S + s * x * D = detSum m (minF n m) (j + 1) from by rw [HY.out (by rw [← Hx.out]; exact hx0), HX.out.1, HX.out.2, Hx.out, hD])
          rw [← hD] at hfb
          have HDk := Lib.hid (fun w1 v (h : Tab w1 v (minorT m 0 j n1)) => (show Calls Try.prog 201 #[v] w1 (fun e w' => e = .returned (.int .i64 D) ∧ Below w1.heap.size w1 w') from by rw [hD]; exact HDj.out w1 v (by rw [← Hn1.out]; exact h)))
          have hp1 : -9 ≤ s * x ∧ s * x ≤ 9 := by
            have := prod_bd (X := 1) (Y := 9) hsb2 hxb
            omega
          have hp2 : -39366 ≤ s * x * D ∧ s * x * D ≤ 39366 := by
            have := prod_bd (X := 9) (Y := 4374) hp1 hfb
            omega
          have hw1 : IntKind.i64.wrap (s * x) = s * x := IntWalk.i64_in _ (by omega)
          have hw2 : IntKind.i64.wrap (s * x * D) = s * x * D := IntWalk.i64_in _ (by omega)
          have hw3 : IntKind.i64.wrap (S + s * x * D) = S + s * x * D := IntWalk.i64_in _ (by omega)
          have hfb2 := hfb
          clear hx0 HX HDj HZ HY hSb hfb hp1 hp2 hD
          go_wp2
          have hS0 : wj.cell? ⟨ab, ao, none⟩ = some (.slice (some ⟨rb, ro, none⟩) n1 rc) ∧ wj.cell? ⟨rb, ro + j, none⟩ = some (.int .i64 x) := ⟨gB, gA⟩
          have hSd : wj.drew.cell? ⟨ab, ao, none⟩ = some (.slice (some ⟨rb, ro, none⟩) n1 rc) ∧ wj.drew.cell? ⟨rb, ro + j, none⟩ = some (.int .i64 x) := hS0
          have HS := Lib.hid (fun (wz : World) (hb3 : Below wj.heap.size wj wz) => (show wz.cell? ⟨ab, ao, none⟩ = some (.slice (some ⟨rb, ro, none⟩) n1 rc) ∧ wz.cell? ⟨rb, ro + j, none⟩ = some (.int .i64 x) from ⟨(hb3.cell (p := ⟨ab, ao, none⟩) habj).trans gB, (hb3.cell (p := ⟨rb, ro + j, none⟩) hrbj).trans gA⟩))
          have HC1 := Lib.hid (HCj.out _ HB.out.drew)
          have B1 := (Below.refl wj.heap.size wj).drew
          clear HCj
          go_region_held3 (fun w' => w'.cell? ⟨ab, ao, none⟩ = some (.slice (some ⟨rb, ro, none⟩) n1 rc) ∧ w'.cell? ⟨rb, ro + j, none⟩ = some (.int .i64 x))
            (first | with_reducible exact hS2 | with_reducible exact hS1 | with_reducible exact hSd | with_reducible exact hS0 | go_keep)
            ((first
              | (go_at_call 201; (with_reducible refine (HDk.out _ _ hn1.tab).mono ?_); rintro e w2 ⟨rfl, hb⟩; have B3 := B2.trans (hb.mono B2.size); have hS2 := HS.out _ B3; clear hb)
              | (go_at_call 198; (with_reducible refine HC1.out.mono ?_); rintro e w1 ⟨v1, rfl, hn1, hb⟩; have B2 := B1.trans (hb.mono B1.size); have hS1 := HS.out _ B2; clear hb)
              | fail))
          have HB2 := Lib.hid (HB.out.trans (B3.mono HB.out.size))
          clear hS0 hSd HS HC1 B1 B2 B3 hS1 hS2 hn1 HB HDk
          go_wp2
          go_roundg g
          case measure => omega
          case rel => exact ⟨j + 1, _, -s, rfl, by rfl, by go_num, by omega, Lib.hid ⟨HS2.out, HSg.out⟩, HB2⟩
      · have hji : ¬ ((j : Int) < (n1 : Int)) := by omega
        have HF := Lib.hid (show R = S from by rw [HR.out, HX.out.1, show n1 = j from by omega])
        clear HX HR
        go_wp2
        go_ret
        exact ⟨by rw [HF.out]; rfl, HB.out⟩
end Go.Proofs.Ytdohepngandajaa
