/-
  TurnedPoly, ZetaNumbers and SameAwayFromZero, both sides.
-/
import Derived.Test.YtdohepngandajaaPolF
import Derived.Test.YtdohepngandajaaEqual
import Derived.Test.YtdohepngandajaaPartsP
import Derived.Test.YtdohepngandajaaMoeb
namespace Go.Proofs.Ytdohepngandajaa
open Go.RowKit Go.Deep Go.Sd
set_option linter.unusedSimpArgs false
theorem coefs_len (m : List (List Int)) (n : Nat) : (coefs m n).length = n + 1 := by simp [coefs]
theorem coefs_at (m : List (List Int)) {n j : Nat} (h : j ≤ n) : (coefs m n)[j]? = some (coef m n j) := by simp [coefs, Nat.lt_succ_of_le h]
theorem charL_at (m : List (List Int)) {n j : Nat} (h : j ≤ n) : (charL m n)[n - j]? = some (coef m n j) := by
  unfold charL
  rw [rowOf_at (by omega), show n - (n - j) = j by omega]
theorem take_at {xs : List Int} {j : Nat} {x : Int} (h : xs[j]? = some x) : xs.take (j + 1) = xs.take j ++ [x] := by
  rw [List.take_add_one, h]; rfl
set_option maxHeartbeats 1000000 in
set_option maxRecDepth 100000 in
theorem impl_TurnedPoly_c {w : World} {va : Value} {m : List (List Int)} (h : Tab w va m) :
    Calls Try.prog 107 #[va] w (Makes (OInts 3) w (turnedP m)) := by
  have HI := Lib.hid (impl_IsSmall_c h)
  have HT := Lib.hid h
  obtain ⟨va0, vc0, rfl, -⟩ := h.shape
  clear h
  cases hsm : smallM m with
  | false =>
    have HF := Lib.hid (show turnedP m = [] from by unfold turnedP; rw [if_neg (by rw [hsm]; simp)])
    rw [hsm] at HI
    clear hsm HT
    go_enter Try.func107, Try.ntmps107
    go_wp2_with fail
    (with_reducible refine HI.out.mono ?_)
    rintro e w9 ⟨rfl, hw9⟩
    rw [hw9]
    clear hw9 w9
    go_wp2
    go_ret
    exact ⟨_, rfl, by rw [HF.out]; exact New.nil _ _, Below.refl _ _⟩
  | true =>
  obtain ⟨hm1, hm4, hbd⟩ := smallM_sq hsm
  have hsq := (isMat_sq hm1).1
  have HF := Lib.hid (show turnedP m = cutL (coefs m m.length) from by unfold turnedP; rw [if_pos hsm])
  rw [hsm] at HI
  have HC := Lib.hid (charPoly_c HT.out hsq hm4 hbd)
  generalize turnedP m = R at HF ⊢
  obtain ⟨n, hn⟩ : ∃ n, n = m.length := ⟨_, rfl⟩
  rw [← hn] at HI HF HC hm4 ⊢
  have HAt := Lib.hid (fun j (h : j ≤ n) => coefs_at m h)
  have HCt := Lib.hid (fun j (h : j ≤ n) => charL_at m h)
  have HCl := Lib.hid (show (charL m n).length = n + 1 from rowOf_len _ _)
  have Hcl := Lib.hid (coefs_len m n)
  generalize coefs m n = cs at HF HAt Hcl
  generalize charL m n = ch at HC HCt HCl
  clear hsm hm1 hbd hsq hn HT
  go_enter Try.func107, Try.ntmps107
  go_wp2_with fail
  (with_reducible refine HI.out.mono ?_)
  rintro e w9 ⟨rfl, hw9⟩
  rw [hw9]
  clear hw9 w9
  go_wp2_with fail
  (with_reducible refine HC.out.mono ?_)
  rintro e w1 ⟨vp, rfl, hnp, hb1⟩
  obtain ⟨pa, pc, rfl, -, -, hpx⟩ := (New.ints hnp).shape
  have HPx := Lib.hid hpx
  have hz1 := hb1.size
  have HB1 := Lib.hid hb1
  rw [HCl.out]
  have hw0 : IntKind.i64.wrap ((n : Int) + 1 - 1) = (n : Int) := by rw [IntWalk.i64_in _ (by omega)]; omega
  have hw00 : wrap64 ((n : Int) + 1 - 1) = (n : Int) := by rw [IntWalk.wrap64_in _ (by omega)]; omega
  clear HI HC hnp hpx hb1
  have HN0 := Lib.hid (New.empty (e := 3) (R := OIntR) w1 (Nat.le_refl w1.heap.size))
  have HB0 := Lib.hid ((Below.refl w1.heap.size w1).alloc (Nat.le_refl _) (.cells #[] 3))
  go_wp2
  go_loopg [4, 5] (n + 1) (fun g v i wr => ∃ (t : Int) (j : Nat), i = .int .i64 t ∧ t + 1 = (g : Int) ∧ j + g = n + 1 ∧ Hid (New (OInts 3) w1.heap.size wr v (cs.take j)) ∧ Hid (Below w1.heap.size w1 wr))
  case atStart => exact ⟨n, 0, rfl, by omega, by omega, HN0, HB0⟩
  case round =>
    clear HN0 HB0
    obtain ⟨t, j, rfl, ht, hj, Hn, Hb⟩ := hrel
    obtain ⟨wk, rfl⟩ : ∃ x, x = wr := ⟨_, rfl⟩
    have hle := Hb.out.size
    obtain ⟨oa, oc, rfl, -⟩ := (New.ints Hn.out).shape
    by_cases hg : 0 < gk
    · obtain ⟨g, hgk⟩ : ∃ g, gk = g + 1 := ⟨gk - 1, by omega⟩
      subst hgk
      obtain rfl : t = (g : Int) := by omega
      have hji : (0 : Int) ≤ (g : Int) := by omega
      obtain ⟨b, o, rfl, hb, hc⟩ := HPx.out (by have := HCl.out; omega)
      obtain ⟨u, hu, hux⟩ := hc (n - j) _ (HCt.out j (by omega))
      have hgj : n - j = g := by omega
      rw [hgj] at hu
      have hux' : u = .int .i64 (coef m n j) := hux
      rw [hux'] at hu
      have gx := (Hb.out.cell (p := ⟨b, o + g, none⟩) hb).trans hu
      have HTk := Lib.hid (take_at (HAt.out j (by omega)))
      have hrl := Lib.hid (show (cs.take j).length ≤ 9 from by rw [List.length_take]; omega)
      have hgn : (g : Int) < (n : Int) + 1 := by omega
      obtain ⟨ln, hln⟩ : ∃ x, x = (cs.take j).length := ⟨_, rfl⟩
      have Hln := Lib.hid hln
      rw [← hln] at Hn ⊢
      generalize coef m n j = x at gx HTk
      have hw1 : IntKind.i64.wrap ((g : Int) - 1) = (g : Int) - 1 := IntWalk.i64_in _ (by omega)
      have hw2 : wrap64 ((g : Int) - 1) = (g : Int) - 1 := IntWalk.wrap64_in _ (by omega)
      clear hu hux hux' hc hgj hln ht
      go_wp2_with (at_builtin; refine wpl_push (w0 := wk) (lo := w1.heap.size) (y := x) OIntR.kept rfl (.tmp 19) (.tmp 24) 50 rfl 3 (.int .i64 0) 8 Try.underlying50 infoI rfl Hn.out hle ((Below.refl _ _).alloc (Nat.le_refl _) _) ⟨[], ⟨rfl, rfl⟩, by simp [Fresh]⟩ (bb := wk.heap.size) (c := 1) (by simp) rfl rfl (by have := hrl.out; omega) (by have := hrl.out; omega) ?_; intro v3 w3 hn3 _ _ hb3; have Hn3 := Lib.hid hn3; have Hb3 := Lib.hid hb3; clear hn3 hb3)
      go_roundg g
      case measure => omega
      case rel => exact ⟨(g : Int) - 1, j + 1, rfl, by omega, by omega, Lib.hid (by rw [HTk.out]; exact Hn3.out), Lib.hid (Hb.out.trans Hb3.out)⟩
    · obtain rfl : gk = 0 := by omega
      have hji : ¬ ((0 : Int) ≤ t) := by omega
      have hj1 : j = n + 1 := by omega
      have hnn := Hn.out
      rw [hj1, List.take_of_length_le (by rw [Hcl.out]; exact Nat.le_refl _)] at hnn
      have hcl := Hcl.out
      obtain ⟨bz, cz, hvz, -⟩ := hnn.int_at (i := 0) (x := coef m n 0) (HAt.out 0 (by omega))
      simp only [Value.slice.injEq] at hvz
      obtain ⟨rfl, -, rfl⟩ := hvz
      have HTr := Lib.hid (trimmed_c hnn (by omega))
      rw [hj1, List.take_of_length_le (by rw [Hcl.out]; exact Nat.le_refl _)]
      clear hj1 hnn hcl Hn
      go_wp2_with fail
      (with_reducible refine HTr.out.mono ?_)
      rintro e w4 ⟨r, rfl, hnr, rfl⟩
      have HNr := Lib.hid (hnr.mono hz1)
      clear hnr HTr
      go_wp2
      go_ret
      exact ⟨_, rfl, by rw [HF.out]; exact HNr.out, HB1.out.trans (Hb.out.mono hz1)⟩
set_option maxHeartbeats 1000000 in
set_option maxRecDepth 100000 in
theorem spec_TurnedPoly_c {w : World} {va : Value} {m : List (List Int)} (h : Tab w va m) :
    Calls Try.prog 105 #[va] w (Makes (OInts 3) w (turnedP m)) := by
  have HI := Lib.hid (spec_IsSmall_c h)
  have HT := Lib.hid h
  obtain ⟨va0, vc0, rfl, -⟩ := h.shape
  clear h
  cases hsm : smallM m with
  | false =>
    have HF := Lib.hid (show turnedP m = [] from by unfold turnedP; rw [if_neg (by rw [hsm]; simp)])
    rw [hsm] at HI
    clear hsm HT
    go_enter Try.func105, Try.ntmps105
    go_wp2_with fail
    (with_reducible refine HI.out.mono ?_)
    rintro e w9 ⟨rfl, hw9⟩
    rw [hw9]
    clear hw9 w9
    go_wp2
    go_ret
    exact ⟨_, rfl, by rw [HF.out]; exact New.empty _ (Nat.le_refl _), (Below.refl _ _).alloc (Nat.le_refl _) _⟩
  | true =>
  obtain ⟨hm1, hm4, hbd⟩ := smallM_sq hsm
  have hsq := (isMat_sq hm1).1
  have HF := Lib.hid (show turnedP m = cutL (coefs m m.length) from by unfold turnedP; rw [if_pos hsm])
  rw [hsm] at HI
  have HC := Lib.hid (fun w1 (k : Nat) (hb : Below w.heap.size w w1) => l7Minors_c (k := k) (Tab.frame _ _ _ _ HT.out hb) hsq hm4 hbd)
  have HMb := Lib.hid (fun (k : Nat) => (show -2519424 ≤ minS m m.length k (2 ^ m.length) ∧ minS m m.length k (2 ^ m.length) ≤ 2519424 from by
    have h1 := minS_bd16 (k := k) hsq hm4 hbd (Nat.le_refl (2 ^ m.length))
    have h2 := detB_mono k
    omega))
  have HCo := Lib.hid (fun (k : Nat) => (show coef m m.length k = sgn k * minS m m.length k (2 ^ m.length) from rfl))
  generalize turnedP m = R at HF ⊢
  obtain ⟨n, hn⟩ : ∃ n, n = m.length := ⟨_, rfl⟩
  rw [← hn] at HI HF HC HMb HCo hm4 ⊢
  have HAt := Lib.hid (fun j (h : j ≤ n) => coefs_at m h)
  have Hcl := Lib.hid (coefs_len m n)
  generalize coefs m n = cs at HF HAt Hcl
  clear hsm hm1 hbd hsq hn HT
  go_enter Try.func105, Try.ntmps105
  go_wp2_with fail
  (with_reducible refine HI.out.mono ?_)
  rintro e w9 ⟨rfl, hw9⟩
  rw [hw9]
  clear hw9 w9
  have HN0 := Lib.hid (New.empty (e := 3) (R := OIntR) w (Nat.le_refl w.heap.size))
  have HB0 := Lib.hid ((Below.refl w.heap.size w).alloc (Nat.le_refl _) (.cells #[] 3))
  clear HI
  go_wp2
  go_loopg [3, 4, 5] (n + 1) (fun g v sg i wr => ∃ (j : Nat) (s : Int), sg = .int .i64 s ∧ i = .int .i64 j ∧ j + g = n + 1 ∧ Hid (s = sgn j) ∧ Hid (New (OInts 3) w.heap.size wr v (cs.take j)) ∧ Hid (Below w.heap.size w wr))
  case atStart => exact ⟨0, 1, rfl, rfl, by omega, Lib.hid rfl, HN0, HB0⟩
  case round =>
    clear HN0 HB0
    obtain ⟨j, s, rfl, rfl, hj, Hs, Hn, Hb⟩ := hrel
    obtain ⟨wk, rfl⟩ : ∃ x, x = wr := ⟨_, rfl⟩
    have hle := Hb.out.size
    obtain ⟨oa, oc, rfl, -⟩ := (New.ints Hn.out).shape
    by_cases hjn : j ≤ n
    · have hji : (j : Int) ≤ (n : Int) := by omega
      obtain ⟨g, rfl⟩ : ∃ x, gk = x + 1 := ⟨gk - 1, by omega⟩
      have hsb : s = 1 ∨ s = -1 := by rw [Hs.out]; exact sgn_bd j
      have hneg : IntKind.i64.wrap (-s) = -s := IntWalk.i64_in _ (by omega)
      have HSg := Lib.hid (show -s = sgn (j + 1) from by rw [sgn_next, Hs.out])
      have HCk := Lib.hid (HC.out wk j Hb.out)
      have hmb := HMb.out j
      have hcj := HCo.out j
      rw [← Hs.out] at hcj
      have hat := HAt.out j hjn
      rw [hcj] at hat
      have HTk := Lib.hid (take_at hat)
      have hrl := Lib.hid (show (cs.take j).length ≤ 9 from by rw [List.length_take]; omega)
      obtain ⟨ln, hln⟩ : ∃ x, x = (cs.take j).length := ⟨_, rfl⟩
      have Hln := Lib.hid hln
      rw [← hln] at Hn ⊢
      generalize minS m n j (2 ^ n) = D at HCk hmb HTk
      have hp : -2519424 ≤ s * D ∧ s * D ≤ 2519424 := by
        have := prod_bd (X := 1) (Y := 2519424) (x := s) (y := D) (by omega) hmb
        omega
      have hw1 : IntKind.i64.wrap (s * D) = s * D := IntWalk.i64_in _ (by omega)
      clear hln hcj hat hp hmb hsb
      go_wp2_with fail
      (with_reducible refine HCk.out.mono ?_)
      rintro e w2 ⟨rfl, hb2⟩
      have Hb2 := Lib.hid (Hb.out.trans (hb2.mono hle))
      have hz2 := Hb2.out.size
      have Hn2 := Lib.hid (Hn.out.keep (OInts.kept _) hb2 (Nat.le_refl _))
      clear hb2 HCk Hn
      go_wp2_with (at_builtin; refine wpl_push (w0 := w2) (lo := w.heap.size) (y := (s * D)) OIntR.kept rfl (.tmp 17) (.tmp 23) 50 rfl 3 (.int .i64 0) 8 Try.underlying50 infoI rfl Hn2.out hz2 ((Below.refl _ _).alloc (Nat.le_refl _) _) ⟨[], ⟨rfl, rfl⟩, by simp [Fresh]⟩ (bb := w2.heap.size) (c := 1) (by simp) rfl rfl (by have := hrl.out; omega) (by have := hrl.out; omega) ?_; intro v3 w3 hn3 _ _ hb3; have Hn3 := Lib.hid hn3; have Hb3 := Lib.hid hb3; clear hn3 hb3)
      go_roundg g
      case measure => omega
      case rel => exact ⟨j + 1, -s, rfl, by go_num, by omega, HSg, Lib.hid (by rw [HTk.out]; exact Hn3.out), Lib.hid (Hb2.out.trans Hb3.out)⟩
    · have hji : ¬ ((j : Int) ≤ (n : Int)) := by omega
      have hj1 : j = n + 1 := by omega
      have hnn := Hn.out
      rw [hj1, List.take_of_length_le (by rw [Hcl.out]; exact Nat.le_refl _)] at hnn
      have hcl := Hcl.out
      have HTr := Lib.hid (l7Cut_c (New.ints hnn) (by omega) (by omega))
      rw [hj1, List.take_of_length_le (by rw [Hcl.out]; exact Nat.le_refl _)]
      clear hj1 hnn hcl Hn hjn hji
      have hji : ¬ ((n : Int) + 1 ≤ (n : Int)) := by omega
      go_wp2_with fail
      (with_reducible refine HTr.out.mono ?_)
      rintro e w4 ⟨r, rfl, hnr, hb4⟩
      have HNr := Lib.hid (hnr.mono hle)
      have Hb4 := Lib.hid (Hb.out.trans (hb4.mono hle))
      clear hnr hb4 HTr
      go_wp2
      go_ret
      exact ⟨_, rfl, by rw [HF.out]; exact HNr.out, Hb4.out⟩
set_option maxHeartbeats 2000000 in
set_option maxRecDepth 100000 in
theorem impl_ZetaNumbers_c {w : World} {va : Value} {m : List (List Int)} {n : Int} (h : Tab w va m) :
    Calls Try.prog 41 #[va, .int .i64 n] w (Makes (OInts 3) w (zetaV m n)) := by
  have HI := Lib.hid (impl_IsSmall_c h)
  have HP := Lib.hid (impl_TurnedPoly_c h)
  obtain ⟨va0, vc0, rfl, -⟩ := h.shape
  clear h
  have HV := Lib.hid (show zetaV m n = if smallM m = true ∧ 0 ≤ n ∧ n ≤ 8 then zetaL (turnedP m) n.toNat else [] from rfl)
  generalize zetaV m n = R at HV ⊢
  have Htb := Lib.hid (turnedP_tbd m)
  generalize turnedP m = t at HV HP Htb
  cases hsm : smallM m with
  | false =>
    have HF := Lib.hid (show R = [] from by rw [HV.out, if_neg (by rw [hsm]; simp)])
    rw [hsm] at HI
    clear hsm HV HP
    go_enter Try.func41, Try.ntmps41
    go_wp2_with fail
    (with_reducible refine HI.out.mono ?_)
    rintro e w9 ⟨rfl, hw9⟩
    rw [hw9]
    clear hw9 w9
    go_wp2
    go_ret
    exact ⟨_, rfl, by rw [HF.out]; exact New.nil _ _, Below.refl _ _⟩
  | true =>
  rw [hsm] at HI
  by_cases hc : n < 0
  · have HF := Lib.hid (show R = [] from by rw [HV.out, if_neg (by omega)])
    have d0 : decide (n < 0) = true := decide_eq_true hc
    clear hsm HV HP
    go_enter Try.func41, Try.ntmps41
    go_wp2_with fail
    (with_reducible refine HI.out.mono ?_)
    rintro e w9 ⟨rfl, hw9⟩
    rw [hw9]
    clear hw9 w9
    go_wp2
    go_ret
    exact ⟨_, rfl, by rw [HF.out]; exact New.nil _ _, Below.refl _ _⟩
  have hc0 : 0 ≤ n := by omega
  clear hc
  by_cases hc : 8 < n
  · have HF := Lib.hid (show R = [] from by rw [HV.out, if_neg (by omega)])
    have d0 : decide (n < 0) = false := decide_eq_false (by omega)
    have d1 : decide (8 < n) = true := decide_eq_true hc
    clear hsm HV HP
    go_enter Try.func41, Try.ntmps41
    go_wp2_with fail
    (with_reducible refine HI.out.mono ?_)
    rintro e w9 ⟨rfl, hw9⟩
    rw [hw9]
    clear hw9 w9
    go_wp2
    go_ret
    exact ⟨_, rfl, by rw [HF.out]; exact New.nil _ _, Below.refl _ _⟩
  have hc8 : n ≤ 8 := by omega
  clear hc
  have d0 : decide (n < 0) = false := decide_eq_false (by omega)
  have d1 : decide (8 < n) = false := decide_eq_false (by omega)
  have HF := Lib.hid (show R = zetaL t n.toNat from by rw [HV.out, if_pos ⟨hsm, hc0, hc8⟩])
  obtain ⟨N, hN⟩ : ∃ N : Nat, n = N := ⟨n.toNat, by omega⟩
  subst hN
  have HF2 := Lib.hid (show R = zetaL t N from by rw [HF.out]; rfl)
  have hN8 : N ≤ 8 := by omega
  clear hsm HV HF
  go_enter Try.func41, Try.ntmps41
  go_wp2_with fail
  (with_reducible refine HI.out.mono ?_)
  rintro e w9 ⟨rfl, hw9⟩
  rw [hw9]
  clear hw9 w9
  go_wp2_with fail
  (with_reducible refine HP.out.mono ?_)
  rintro e w1 ⟨vt, rfl, hnt, hb1⟩
  obtain ⟨ta, tc, rfl, -, -, htx⟩ := (New.ints hnt).shape
  have HTx := Lib.hid htx
  have hz1 := hb1.size
  have HB1 := Lib.hid hb1
  obtain ⟨M, hM⟩ : ∃ M, M = t.length := ⟨_, rfl⟩
  have HM := Lib.hid hM
  have hM5 : M ≤ 5 := by have := Htb.out.1; omega
  rw [← hM] at HTx ⊢
  have HN0 := Lib.hid (show New (OInts 3) w1.heap.size (w1.alloc (.cells #[.int .i64 1] 3)) (.slice (some ⟨w1.heap.size, 0, none⟩) 1 1) (zetaL t 0) from New.one OIntR.kept (u := .int .i64 1) (x := 1) ⟨[], ⟨rfl, rfl⟩, by simp [Fresh]⟩ (Nat.le_refl _))
  have HB0 := Lib.hid ((Below.refl w1.heap.size w1).alloc (Nat.le_refl _) (.cells #[.int .i64 1] 3))
  clear HI HP hnt htx hb1 hM hc0 hc8
  go_wp2
  go_loopg [6, 7] N (fun g v i wr => ∃ (q : Nat), i = .int .i64 ((q : Int) + 1) ∧ q + g = N ∧ Hid (New (OInts 3) w1.heap.size wr v (zetaL t q)) ∧ Hid (Below w1.heap.size w1 wr))
  case atStart => exact ⟨0, by go_num, by omega, HN0, HB0⟩
  case round =>
    clear HN0 HB0
    obtain ⟨q, rfl, hq, Hn, Hb⟩ := hrel
    obtain ⟨wo, rfl⟩ : ∃ x, x = wr := ⟨_, rfl⟩
    have hle := Hb.out.size
    by_cases hqN : q < N
    · have hqi : (q : Int) + 1 ≤ (N : Int) := by omega
      obtain ⟨g, rfl⟩ : ∃ x, gk = x + 1 := ⟨gk - 1, by omega⟩
      have hzl := zetaL_len t q
      have Hzb := Lib.hid (zetaL_bd Htb.out q)
      obtain ⟨zb, zc, hvz, -, hzb1, hzb2, -⟩ := Hn.out.int_at (i := 0) (getD_at (l := zetaL t q) (i := 0) (by omega))
      subst hvz
      have HZc := Lib.hid (fun (i : Nat) (hi : i ≤ q) => (show wo.cell? ⟨zb, i, none⟩ = some (.int .i64 ((zetaL t q).getD i 0)) from by
        obtain ⟨b2, c2, hv2, -, -, -, hc2, -⟩ := Hn.out.int_at (i := i) (getD_at (l := zetaL t q) (i := i) (by omega))
        simp only [Value.slice.injEq, Option.some.injEq, Addr.mk.injEq] at hv2
        obtain ⟨⟨rfl, -, -⟩, -, -⟩ := hv2
        exact hc2))
      have HSb := Lib.hid (fun i (hi : i ≤ zRnd t (q + 1)) => (zSum_bd (k := q + 1) Htb.out Hzb.out (zetaL_len t q) i hi).1)
      have HSn := Lib.hid (fun i => (show zSum t (zetaL t q) (q + 1) (i + 1) = zSum t (zetaL t q) (q + 1) i - t.getD (i + 1) 0 * (zetaL t q).getD (q + 1 - (i + 1)) 0 from rfl))
      have HTm := Lib.hid (fun i (h1 : 1 ≤ i) (h2 : i ≤ q + 1) (h3 : i < t.length) => zTerm_bd (t := t) (out := zetaL t q) (k := q + 1) (i := i) Htb.out Hzb.out h1 h2 h3 (by rw [zetaL_len]; omega))
      have HP8 := Lib.hid (P200_le (k := q + 1) (by omega))
      have HPp := Lib.hid (P200_pos (q + 1))
      have Hnx := Lib.hid (show zetaL t (q + 1) = zetaL t q ++ [zSum t (zetaL t q) (q + 1) (zRnd t (q + 1))] from rfl)
      have HRn := Lib.hid (show zRnd t (q + 1) = min (q + 1) (M - 1) from by unfold zRnd; rw [HM.out])
      generalize zetaL t q = Z at *
      obtain ⟨Rn, hRn⟩ : ∃ Rn, Rn = zRnd t (q + 1) := ⟨_, rfl⟩
      rw [← hRn] at HSb Hnx HRn
      have hR1 : Rn ≤ q + 1 := by have := HRn.out; omega
      have hR2 : Rn = 0 ∨ Rn < M := by have := HRn.out; omega
      have hR3 : Rn = q + 1 ∨ M ≤ Rn + 1 := by have := HRn.out; omega
      rw [hzl]
      have Hzl := Lib.hid hzl
      have hN8' : q ≤ 8 := by omega
      clear hRn hzl
      go_wp2
      go_loopg [8, 9] Rn (fun g2 z i wr2 => ∃ (j : Nat) (S : Int), z = .int .i64 S ∧ i = .int .i64 ((j : Int) + 1) ∧ j + g2 = Rn ∧ Hid (S = zSum t Z (q + 1) j) ∧ Hid (Drawn wo wr2))
      case atStart => exact ⟨0, 0, rfl, by go_num, by omega, Lib.hid rfl, Lib.hid (Drawn.refl _)⟩
      case round =>
        obtain ⟨j, S, rfl, rfl, hj, HS, Hd⟩ := hrel
        obtain ⟨wi, rfl⟩ : ∃ x, x = wr := ⟨_, rfl⟩
        by_cases hjR : j < Rn
        · obtain ⟨g2, rfl⟩ : ∃ x, gk = x + 1 := ⟨gk - 1, by omega⟩
          have h1i : (j : Int) + 1 ≤ (q : Int) + 1 := by omega
          have h2i : (j : Int) + 1 < (M : Int) := by omega
          have hjM : j + 1 < M := by omega
          obtain ⟨b, o, rfl, hb, hc⟩ := HTx.out (by omega)
          obtain ⟨u, hu, hux⟩ := hc (j + 1) _ (getD_at (l := t) (i := j + 1) (by have := HM.out; omega))
          have hux' : u = .int .i64 (t.getD (j + 1) 0) := hux
          rw [hux'] at hu
          obtain ⟨r, hr⟩ : ∃ r, r + j = q := ⟨q - j, by omega⟩
          have hgz := HZc.out r (by omega)
          have hsb := HSb.out j (by omega)
          have hsb1 := HSb.out (j + 1) (by omega)
          have hsn := HSn.out j
          have htm := HTm.out (j + 1) (by omega) (by omega) (by have := HM.out; omega)
          rw [show q + 1 - (j + 1) = r from by omega] at hsn htm
          have hp8 := HP8.out
          have hpp := HPp.out
          generalize P200 (q + 1) = PP at hsb hsb1 htm hp8 hpp
          have hwg : wgt (j + 1) ≤ 72 ∧ 0 ≤ wgt (j + 1) := by
            match j with
            | 0 => decide
            | j + 1 => exact ⟨show (7 : Int) ≤ 72 by decide, show (0 : Int) ≤ 7 by decide⟩
          have hwp : wgt (j + 1) * PP ≤ 72 * PP := Int.mul_le_mul_of_nonneg_right hwg.1 (by omega)
          generalize wgt (j + 1) * PP = WP at htm hwp
          rw [← HS.out] at hsb hsn
          rw [hsn] at hsb1
          have HS2 := Lib.hid (show S - t.getD (j + 1) 0 * Z.getD r 0 = zSum t Z (q + 1) (j + 1) from hsn.symm)
          have ga := (Hd.out.cell ⟨b, o + (j + 1), none⟩).trans (((Hb.out.cell (p := ⟨b, o + (j + 1), none⟩) hb)).trans hu)
          have gb := (Hd.out.cell ⟨zb, r, none⟩).trans hgz
          generalize t.getD (j + 1) 0 = x at *
          generalize Z.getD r 0 = y at *
          have hw1 : IntKind.i64.wrap (x * y) = x * y := IntWalk.i64_in _ (by omega)
          have hw2 : IntKind.i64.wrap (S - x * y) = S - x * y := IntWalk.i64_in _ (by omega)
          have hw3 : wrap64 (x * y) = x * y := IntWalk.wrap64_in _ (by omega)
          have hw4 : wrap64 (S - x * y) = S - x * y := IntWalk.wrap64_in _ (by omega)
          have hw5 : IntKind.i64.wrap ((q : Int) + 1 - ((j : Int) + 1)) = (r : Int) := by rw [IntWalk.i64_in _ (by omega)]; omega
          have hw6 : wrap64 ((q : Int) + 1 - ((j : Int) + 1)) = (r : Int) := by rw [IntWalk.wrap64_in _ (by omega)]; omega
          have hi1 : (0 : Int) ≤ (j : Int) + 1 := by omega
          have hi2 : ((j : Int) + 1).toNat = j + 1 := by omega
          have hi3 : (r : Int) < (q : Int) + 1 := by omega
          have hw7 : IntKind.i64.wrap ((j : Int) + 1 + 1) = (j : Int) + 1 + 1 := IntWalk.i64_in _ (by omega)
          clear hsb hsb1 hsn htm hp8 hpp hwg hwp hu hux hux' hc hgz hr
          go_wp2
          go_quiet (fail)
          go_wp2
          go_roundg g2
          case measure => omega
          case rel => exact ⟨j + 1, S - x * y, rfl, by go_num, by omega, HS2, Lib.hid (Hd.out.drewN _)⟩
        · obtain rfl : gk = 0 := by omega
          have hjR' : j = Rn := by omega
          have HB3 := Lib.hid (Hd.out.below wo.heap.size)
          have hrl := Lib.hid (show Z.length ≤ 9 from by rw [Hzl.out]; omega)
          have HSv := Lib.hid (show Z ++ [S] = zetaL t (q + 1) from by rw [Hnx.out, HS.out, hjR'])
          have hwi : wi.heap.size = wo.heap.size := by rw [Hd.out.heap]
          have Hwi := Lib.hid hwi
          have Hnw := Lib.hid (show New (OInts 3) w1.heap.size wo (.slice (some ⟨zb, 0, none⟩) (q + 1) zc) Z from by have h := Hn.out; rw [Hzl.out] at h; exact h)
          have hw9 : IntKind.i64.wrap ((q : Int) + 1 + 1) = (q : Int) + 1 + 1 := IntWalk.i64_in _ (by omega)
          clear hwi Hn
          by_cases hR4 : Rn = q + 1
          · have h1i : ¬ ((j : Int) + 1 ≤ (q : Int) + 1) := by omega
            clear hR4 hjR' hR1 hR2 hR3 hjR hj
            go_wp2_with (at_builtin; refine wpl_push (w0 := wo) (lo := w1.heap.size) (y := S) OIntR.kept rfl (.tmp 53) (.tmp 55) 50 rfl 3 (.int .i64 0) 8 Try.underlying50 infoI rfl Hnw.out hle (HB3.out.alloc HB3.out.size _) ⟨[], ⟨rfl, rfl⟩, by simp [Fresh]⟩ (bb := wi.heap.size) (c := 1) (by simp) rfl rfl (by have := hrl.out; omega) (by have := hrl.out; omega) ?_; intro v3 w3 hn3 _ _ hb3; have Hn3 := Lib.hid hn3; have Hb3 := Lib.hid hb3; clear hn3 hb3)
            go_roundg g
            case measure => omega
            case rel => exact ⟨q + 1, by go_num, by omega, Lib.hid (by rw [← HSv.out]; exact Hn3.out), Lib.hid (Hb.out.trans Hb3.out)⟩
          · have h1i : (j : Int) + 1 ≤ (q : Int) + 1 := by omega
            have h2i : ¬ ((j : Int) + 1 < (M : Int)) := by omega
            clear hR4 hjR' hR1 hR2 hR3 hjR hj
            go_wp2_with (at_builtin; refine wpl_push (w0 := wo) (lo := w1.heap.size) (y := S) OIntR.kept rfl (.tmp 53) (.tmp 55) 50 rfl 3 (.int .i64 0) 8 Try.underlying50 infoI rfl Hnw.out hle (HB3.out.alloc HB3.out.size _) ⟨[], ⟨rfl, rfl⟩, by simp [Fresh]⟩ (bb := wi.heap.size) (c := 1) (by simp) rfl rfl (by have := hrl.out; omega) (by have := hrl.out; omega) ?_; intro v3 w3 hn3 _ _ hb3; have Hn3 := Lib.hid hn3; have Hb3 := Lib.hid hb3; clear hn3 hb3)
            go_roundg g
            case measure => omega
            case rel => exact ⟨q + 1, by go_num, by omega, Lib.hid (by rw [← HSv.out]; exact Hn3.out), Lib.hid (Hb.out.trans Hb3.out)⟩
    · have hqi : ¬ ((q : Int) + 1 ≤ (N : Int)) := by omega
      have HR := Lib.hid (show New (OInts 3) w1.heap.size wo _ R from by rw [HF2.out, show N = q from by omega]; exact Hn.out)
      have HRm := Lib.hid (HR.out.mono hz1)
      clear Hn HR
      go_wp2
      go_ret
      exact ⟨_, rfl, HRm.out, HB1.out.trans (Hb.out.mono hz1)⟩
set_option maxHeartbeats 2000000 in
set_option maxRecDepth 100000 in
theorem spec_ZetaNumbers_c {w : World} {va : Value} {m : List (List Int)} {n : Int} (h : Tab w va m) :
    Calls Try.prog 40 #[va, .int .i64 n] w (Makes (OInts 3) w (zetaV m n)) := by
  have HI := Lib.hid (spec_IsSmall_c h)
  have HP := Lib.hid (spec_TurnedPoly_c h)
  obtain ⟨va0, vc0, rfl, -⟩ := h.shape
  clear h
  have HV := Lib.hid (show zetaV m n = if smallM m = true ∧ 0 ≤ n ∧ n ≤ 8 then zetaL (turnedP m) n.toNat else [] from rfl)
  generalize zetaV m n = R at HV ⊢
  have Htb := Lib.hid (turnedP_tbd m)
  generalize turnedP m = t at HV HP Htb
  cases hsm : smallM m with
  | false =>
    have HF := Lib.hid (show R = [] from by rw [HV.out, if_neg (by rw [hsm]; simp)])
    rw [hsm] at HI
    clear hsm HV HP
    go_enter Try.func40, Try.ntmps40
    go_wp2_with fail
    (with_reducible refine HI.out.mono ?_)
    rintro e w9 ⟨rfl, hw9⟩
    rw [hw9]
    clear hw9 w9
    go_wp2
    go_ret
    exact ⟨_, rfl, by rw [HF.out]; exact New.empty _ (Nat.le_refl _), (Below.refl _ _).alloc (Nat.le_refl _) _⟩
  | true =>
  rw [hsm] at HI
  by_cases hc : ¬ (0 ≤ n ∧ n ≤ 8)
  · have HF := Lib.hid (show R = [] from by rw [HV.out, if_neg (by omega)])
    have HIn := Lib.hid (fun w1 => l1In_no (a := n) (b := 0) (c := 8) w1 (by omega))
    clear hsm HV HP hc
    go_enter Try.func40, Try.ntmps40
    go_wp2_with fail
    (with_reducible refine HI.out.mono ?_)
    rintro e w9 ⟨rfl, hw9⟩
    rw [hw9]
    clear hw9 w9
    go_wp2_with fail
    (with_reducible refine (HIn.out _).mono ?_)
    rintro e w9 ⟨rfl, hw9⟩
    rw [← hw9]
    clear hw9 w9
    go_wp2
    go_ret
    exact ⟨_, rfl, by rw [HF.out]; exact New.empty _ (Nat.le_refl _), (Below.refl _ _).alloc (Nat.le_refl _) _⟩
  have hc0 : 0 ≤ n := by omega
  have hc8 : n ≤ 8 := by omega
  have HIn := Lib.hid (fun w1 => l1In_yes (a := n) (b := 0) (c := 8) w1 hc0 hc8)
  clear hc
  have HF := Lib.hid (show R = zetaL t n.toNat from by rw [HV.out, if_pos ⟨hsm, hc0, hc8⟩])
  obtain ⟨N, hN⟩ : ∃ N : Nat, n = N := ⟨n.toNat, by omega⟩
  subst hN
  have HF2 := Lib.hid (show R = zetaL t N from by rw [HF.out]; rfl)
  have hN8 : N ≤ 8 := by omega
  clear hsm HV HF
  go_enter Try.func40, Try.ntmps40
  go_wp2_with fail
  (with_reducible refine HI.out.mono ?_)
  rintro e w9 ⟨rfl, hw9⟩
  rw [hw9]
  clear hw9 w9
  go_wp2_with fail
  (with_reducible refine (HIn.out _).mono ?_)
  rintro e w9 ⟨rfl, hw9⟩
  rw [← hw9]
  clear hw9 w9
  clear HIn
  go_wp2_with fail
  (with_reducible refine HP.out.mono ?_)
  rintro e w1 ⟨vt, rfl, hnt, hb1⟩
  obtain ⟨ta, tc, rfl, -, -, htx⟩ := (New.ints hnt).shape
  have HTx := Lib.hid htx
  have hz1 := hb1.size
  have HB1 := Lib.hid hb1
  obtain ⟨M, hM⟩ : ∃ M, M = t.length := ⟨_, rfl⟩
  have HM := Lib.hid hM
  have hM5 : M ≤ 5 := by have := Htb.out.1; omega
  rw [← hM] at HTx ⊢
  have HN0 := Lib.hid (show New (OInts 3) w1.heap.size (w1.alloc (.cells #[.int .i64 1] 3)) (.slice (some ⟨w1.heap.size, 0, none⟩) 1 1) (zetaL t 0) from New.one OIntR.kept (u := .int .i64 1) (x := 1) ⟨[], ⟨rfl, rfl⟩, by simp [Fresh]⟩ (Nat.le_refl _))
  have HB0 := Lib.hid ((Below.refl w1.heap.size w1).alloc (Nat.le_refl _) (.cells #[.int .i64 1] 3))
  clear HI HP hnt htx hb1 hM hc0 hc8
  go_wp2
  go_loopg [6, 7] N (fun g v i wr => ∃ (q : Nat), i = .int .i64 ((q : Int) + 1) ∧ q + g = N ∧ Hid (New (OInts 3) w1.heap.size wr v (zetaL t q)) ∧ Hid (Below w1.heap.size w1 wr))
  case atStart => exact ⟨0, by go_num, by omega, HN0, HB0⟩
  case round =>
    clear HN0 HB0
    obtain ⟨q, rfl, hq, Hn, Hb⟩ := hrel
    obtain ⟨wo, rfl⟩ : ∃ x, x = wr := ⟨_, rfl⟩
    have hle := Hb.out.size
    by_cases hqN : q < N
    · have hqi : (q : Int) + 1 ≤ (N : Int) := by omega
      obtain ⟨g, rfl⟩ : ∃ x, gk = x + 1 := ⟨gk - 1, by omega⟩
      have hzl := zetaL_len t q
      have Hzb := Lib.hid (zetaL_bd Htb.out q)
      obtain ⟨zb, zc, hvz, -, hzb1, hzb2, -⟩ := Hn.out.int_at (i := 0) (getD_at (l := zetaL t q) (i := 0) (by omega))
      subst hvz
      have HZc := Lib.hid (fun (i : Nat) (hi : i ≤ q) => (show wo.cell? ⟨zb, i, none⟩ = some (.int .i64 ((zetaL t q).getD i 0)) from by
        obtain ⟨b2, c2, hv2, -, -, -, hc2, -⟩ := Hn.out.int_at (i := i) (getD_at (l := zetaL t q) (i := i) (by omega))
        simp only [Value.slice.injEq, Option.some.injEq, Addr.mk.injEq] at hv2
        obtain ⟨⟨rfl, -, -⟩, -, -⟩ := hv2
        exact hc2))
      have HSb := Lib.hid (fun i (hi : i ≤ zRnd t (q + 1)) => (zSum_bd (k := q + 1) Htb.out Hzb.out (zetaL_len t q) i hi).1)
      have HSn := Lib.hid (fun i => (show zSum t (zetaL t q) (q + 1) (i + 1) = zSum t (zetaL t q) (q + 1) i - t.getD (i + 1) 0 * (zetaL t q).getD (q + 1 - (i + 1)) 0 from rfl))
      have HTm := Lib.hid (fun i (h1 : 1 ≤ i) (h2 : i ≤ q + 1) (h3 : i < t.length) => zTerm_bd (t := t) (out := zetaL t q) (k := q + 1) (i := i) Htb.out Hzb.out h1 h2 h3 (by rw [zetaL_len]; omega))
      have HP8 := Lib.hid (P200_le (k := q + 1) (by omega))
      have HPp := Lib.hid (P200_pos (q + 1))
      have Hnx := Lib.hid (show zetaL t (q + 1) = zetaL t q ++ [zSum t (zetaL t q) (q + 1) (zRnd t (q + 1))] from rfl)
      have HRn := Lib.hid (show zRnd t (q + 1) = min (q + 1) (M - 1) from by unfold zRnd; rw [HM.out])
      generalize zetaL t q = Z at *
      obtain ⟨Rn, hRn⟩ : ∃ Rn, Rn = zRnd t (q + 1) := ⟨_, rfl⟩
      rw [← hRn] at HSb Hnx HRn
      have hR1 : Rn ≤ q + 1 := by have := HRn.out; omega
      have hR2 : Rn = 0 ∨ Rn < M := by have := HRn.out; omega
      have hR3 : Rn = q + 1 ∨ M ≤ Rn + 1 := by have := HRn.out; omega
      rw [hzl]
      have Hzl := Lib.hid hzl
      have hN8' : q ≤ 8 := by omega
      clear hRn hzl
      go_wp2
      go_loopg [8, 9] Rn (fun g2 z i wr2 => ∃ (j : Nat) (S : Int), z = .int .i64 S ∧ i = .int .i64 ((j : Int) + 1) ∧ j + g2 = Rn ∧ Hid (S = zSum t Z (q + 1) j) ∧ Hid (Drawn wo wr2))
      case atStart => exact ⟨0, 0, rfl, by go_num, by omega, Lib.hid rfl, Lib.hid (Drawn.refl _)⟩
      case round =>
        obtain ⟨j, S, rfl, rfl, hj, HS, Hd⟩ := hrel
        obtain ⟨wi, rfl⟩ : ∃ x, x = wr := ⟨_, rfl⟩
        by_cases hjR : j < Rn
        · obtain ⟨g2, rfl⟩ : ∃ x, gk = x + 1 := ⟨gk - 1, by omega⟩
          have h1i : (j : Int) + 1 ≤ (q : Int) + 1 := by omega
          have h2i : (j : Int) + 1 < (M : Int) := by omega
          have hjM : j + 1 < M := by omega
          obtain ⟨b, o, rfl, hb, hc⟩ := HTx.out (by omega)
          obtain ⟨u, hu, hux⟩ := hc (j + 1) _ (getD_at (l := t) (i := j + 1) (by have := HM.out; omega))
          have hux' : u = .int .i64 (t.getD (j + 1) 0) := hux
          rw [hux'] at hu
          obtain ⟨r, hr⟩ : ∃ r, r + j = q := ⟨q - j, by omega⟩
          have hgz := HZc.out r (by omega)
          have hsb := HSb.out j (by omega)
          have hsb1 := HSb.out (j + 1) (by omega)
          have hsn := HSn.out j
          have htm := HTm.out (j + 1) (by omega) (by omega) (by have := HM.out; omega)
          rw [show q + 1 - (j + 1) = r from by omega] at hsn htm
          have hp8 := HP8.out
          have hpp := HPp.out
          generalize P200 (q + 1) = PP at hsb hsb1 htm hp8 hpp
          have hwg : wgt (j + 1) ≤ 72 ∧ 0 ≤ wgt (j + 1) := by
            match j with
            | 0 => decide
            | j + 1 => exact ⟨show (7 : Int) ≤ 72 by decide, show (0 : Int) ≤ 7 by decide⟩
          have hwp : wgt (j + 1) * PP ≤ 72 * PP := Int.mul_le_mul_of_nonneg_right hwg.1 (by omega)
          generalize wgt (j + 1) * PP = WP at htm hwp
          rw [← HS.out] at hsb hsn
          rw [hsn] at hsb1
          have HS2 := Lib.hid (show S - t.getD (j + 1) 0 * Z.getD r 0 = zSum t Z (q + 1) (j + 1) from hsn.symm)
          have ga := (Hd.out.cell ⟨b, o + (j + 1), none⟩).trans (((Hb.out.cell (p := ⟨b, o + (j + 1), none⟩) hb)).trans hu)
          have gb := (Hd.out.cell ⟨zb, r, none⟩).trans hgz
          generalize t.getD (j + 1) 0 = x at *
          generalize Z.getD r 0 = y at *
          have hw1 : IntKind.i64.wrap (x * y) = x * y := IntWalk.i64_in _ (by omega)
          have hw2 : IntKind.i64.wrap (S - x * y) = S - x * y := IntWalk.i64_in _ (by omega)
          have hw3 : wrap64 (x * y) = x * y := IntWalk.wrap64_in _ (by omega)
          have hw4 : wrap64 (S - x * y) = S - x * y := IntWalk.wrap64_in _ (by omega)
          have hw5 : IntKind.i64.wrap ((q : Int) + 1 - ((j : Int) + 1)) = (r : Int) := by rw [IntWalk.i64_in _ (by omega)]; omega
          have hw6 : wrap64 ((q : Int) + 1 - ((j : Int) + 1)) = (r : Int) := by rw [IntWalk.wrap64_in _ (by omega)]; omega
          have hi1 : (0 : Int) ≤ (j : Int) + 1 := by omega
          have hi2 : ((j : Int) + 1).toNat = j + 1 := by omega
          have hi3 : (r : Int) < (q : Int) + 1 := by omega
          have hw7 : IntKind.i64.wrap ((j : Int) + 1 + 1) = (j : Int) + 1 + 1 := IntWalk.i64_in _ (by omega)
          clear hsb hsb1 hsn htm hp8 hpp hwg hwp hu hux hux' hc hgz hr
          go_wp2
          go_quiet (fail)
          go_wp2
          go_roundg g2
          case measure => omega
          case rel => exact ⟨j + 1, S - x * y, rfl, by go_num, by omega, HS2, Lib.hid (Hd.out.drewN _)⟩
        · obtain rfl : gk = 0 := by omega
          have hjR' : j = Rn := by omega
          have HB3 := Lib.hid (Hd.out.below wo.heap.size)
          have hrl := Lib.hid (show Z.length ≤ 9 from by rw [Hzl.out]; omega)
          have HSv := Lib.hid (show Z ++ [S] = zetaL t (q + 1) from by rw [Hnx.out, HS.out, hjR'])
          have hwi : wi.heap.size = wo.heap.size := by rw [Hd.out.heap]
          have Hwi := Lib.hid hwi
          have Hnw := Lib.hid (show New (OInts 3) w1.heap.size wo (.slice (some ⟨zb, 0, none⟩) (q + 1) zc) Z from by have h := Hn.out; rw [Hzl.out] at h; exact h)
          have hw9 : IntKind.i64.wrap ((q : Int) + 1 + 1) = (q : Int) + 1 + 1 := IntWalk.i64_in _ (by omega)
          clear hwi Hn
          by_cases hR4 : Rn = q + 1
          · have h1i : ¬ ((j : Int) + 1 ≤ (q : Int) + 1) := by omega
            clear hR4 hjR' hR1 hR2 hR3 hjR hj
            go_wp2_with (at_builtin; refine wpl_push (w0 := wo) (lo := w1.heap.size) (y := S) OIntR.kept rfl (.tmp 51) (.tmp 53) 50 rfl 3 (.int .i64 0) 8 Try.underlying50 infoI rfl Hnw.out hle (HB3.out.alloc HB3.out.size _) ⟨[], ⟨rfl, rfl⟩, by simp [Fresh]⟩ (bb := wi.heap.size) (c := 1) (by simp) rfl rfl (by have := hrl.out; omega) (by have := hrl.out; omega) ?_; intro v3 w3 hn3 _ _ hb3; have Hn3 := Lib.hid hn3; have Hb3 := Lib.hid hb3; clear hn3 hb3)
            go_roundg g
            case measure => omega
            case rel => exact ⟨q + 1, by go_num, by omega, Lib.hid (by rw [← HSv.out]; exact Hn3.out), Lib.hid (Hb.out.trans Hb3.out)⟩
          · have h1i : (j : Int) + 1 ≤ (q : Int) + 1 := by omega
            have h2i : ¬ ((j : Int) + 1 < (M : Int)) := by omega
            clear hR4 hjR' hR1 hR2 hR3 hjR hj
            go_wp2_with (at_builtin; refine wpl_push (w0 := wo) (lo := w1.heap.size) (y := S) OIntR.kept rfl (.tmp 51) (.tmp 53) 50 rfl 3 (.int .i64 0) 8 Try.underlying50 infoI rfl Hnw.out hle (HB3.out.alloc HB3.out.size _) ⟨[], ⟨rfl, rfl⟩, by simp [Fresh]⟩ (bb := wi.heap.size) (c := 1) (by simp) rfl rfl (by have := hrl.out; omega) (by have := hrl.out; omega) ?_; intro v3 w3 hn3 _ _ hb3; have Hn3 := Lib.hid hn3; have Hb3 := Lib.hid hb3; clear hn3 hb3)
            go_roundg g
            case measure => omega
            case rel => exact ⟨q + 1, by go_num, by omega, Lib.hid (by rw [← HSv.out]; exact Hn3.out), Lib.hid (Hb.out.trans Hb3.out)⟩
    · have hqi : ¬ ((q : Int) + 1 ≤ (N : Int)) := by omega
      have HR := Lib.hid (show New (OInts 3) w1.heap.size wo _ R from by rw [HF2.out, show N = q from by omega]; exact Hn.out)
      have HRm := Lib.hid (HR.out.mono hz1)
      clear Hn HR
      go_wp2
      go_ret
      exact ⟨_, rfl, HRm.out, HB1.out.trans (Hb.out.mono hz1)⟩
theorem zetaV_cnt (m : List (List Int)) (n : Int) : ((zetaV m n).length : Int) ≤ 1099511627776 := by have := zetaV_len m n; omega
def sameZ (a b : List (List Int)) : Bool := smallM a && (smallM b && decide (turnedP a = turnedP b))
set_option maxHeartbeats 1000000 in
set_option maxRecDepth 100000 in
theorem impl_SameAway_c {w : World} {va vb : Value} {a b : List (List Int)} (h1 : Tab w va a) (h2 : Tab w vb b) :
    Calls Try.prog 46 #[va, vb] w fun e w' => e = .returned (.bool (sameZ a b)) ∧ Below w.heap.size w w' := by
  have HIa := Lib.hid (impl_IsSmall_c h1)
  have HIb := Lib.hid (impl_IsSmall_c h2)
  have HPa := Lib.hid (impl_TurnedPoly_c h1)
  have HPb := Lib.hid (fun w1 (hb : Below w.heap.size w w1) => impl_TurnedPoly_c (Tab.frame _ _ _ _ h2 hb))
  obtain ⟨va0, vc0, rfl, -⟩ := h1.shape
  obtain ⟨vb0, vd0, rfl, -⟩ := h2.shape
  have HM := Lib.hid (show sameZ a b = (smallM a && (smallM b && decide (turnedP a = turnedP b))) from rfl)
  generalize sameZ a b = R at HM ⊢
  clear h1 h2
  cases ha : smallM a with
  | false =>
    rw [ha] at HIa HM
    have HF := Lib.hid (show R = false from by rw [HM.out]; rfl)
    clear HM HPa HPb ha
    go_enter Try.func46, Try.ntmps46
    go_wp2_with fail
    (with_reducible refine HIa.out.mono ?_)
    rintro e w9 ⟨rfl, hw9⟩
    rw [hw9]
    clear hw9 w9
    go_wp2
    go_ret
    exact ⟨by rw [HF.out]; rfl, Below.refl _ _⟩
  | true =>
  rw [ha] at HIa HM
  cases hb : smallM b with
  | false =>
    rw [hb] at HIb HM
    have HF := Lib.hid (show R = false from by rw [HM.out]; rfl)
    clear HM HPa HPb ha hb
    go_enter Try.func46, Try.ntmps46
    go_wp2_with fail
    (with_reducible refine HIa.out.mono ?_)
    rintro e w9 ⟨rfl, hw9⟩
    rw [hw9]
    clear hw9 w9
    go_wp2_with fail
    (with_reducible refine HIb.out.mono ?_)
    rintro e w9 ⟨rfl, hw9⟩
    rw [hw9]
    clear hw9 w9
    go_wp2
    go_ret
    exact ⟨by rw [HF.out]; rfl, Below.refl _ _⟩
  | true =>
  rw [hb] at HIb HM
  have HF := Lib.hid (show R = decide (turnedP a = turnedP b) from by rw [HM.out]; rfl)
  clear HM ha hb
  generalize turnedP a = pa at *
  generalize turnedP b = pb at *
  go_enter Try.func46, Try.ntmps46
  go_wp2_with fail
  (with_reducible refine HIa.out.mono ?_)
  rintro e w9 ⟨rfl, hw9⟩
  rw [hw9]
  clear hw9 w9
  go_wp2_with fail
  (with_reducible refine HIb.out.mono ?_)
  rintro e w9 ⟨rfl, hw9⟩
  rw [hw9]
  clear hw9 w9
  go_wp2_with fail
  (with_reducible refine HPa.out.mono ?_)
  rintro e w1 ⟨v1, rfl, hn1, hb1⟩
  have hz1 := hb1.size
  obtain ⟨x1, y1, rfl, -⟩ := (New.ints hn1).shape
  have hl1 := New.one (e := 50) (OInts.kept 3) hn1 hz1
  have hb1' := hb1.alloc hz1 (.cells #[.slice x1 pa.length y1] 50)
  obtain ⟨w2, e2⟩ : ∃ x, x = w1.alloc (.cells #[.slice x1 pa.length y1] 50) := ⟨_, rfl⟩
  rw [← e2] at hl1 hb1'
  have HB2 := Lib.hid hb1'
  have HL1 := Lib.hid hl1
  have e2s := e2.symm
  clear hn1 hb1 hl1 hb1' e2 HPa HIa HIb
  go_wp2_with fail
  (with_reducible refine (HPb.out w2 HB2.out).mono ?_)
  rintro e w3 ⟨v3, rfl, hn3, hb3⟩
  obtain ⟨x3, y3, rfl, -⟩ := (New.ints hn3).shape
  have hz3 := hb3.size
  have hl3 := New.one (e := 50) (OInts.kept 3) hn3 hz3
  have hb3' := hb3.alloc hz3 (.cells #[.slice x3 pb.length y3] 50)
  obtain ⟨w4, e4⟩ : ∃ x, x = w3.alloc (.cells #[.slice x3 pb.length y3] 50) := ⟨_, rfl⟩
  rw [← e4] at hl3 hb3'
  have HE := Lib.hid (impl_EqualMatrix_c (Tab.frame _ _ _ _ HL1.out.tab hb3') hl3.tab)
  have HB4 := Lib.hid (HB2.out.trans (hb3'.mono HB2.out.size))
  have hq : decide ([pa] = [pb]) = decide (pa = pb) := by simp
  rw [hq] at HE
  have e4s := e4.symm
  clear hn3 hb3 hl3 hb3' e4 HPb e2s hq HL1
  go_wp2_with fail
  (with_reducible refine HE.out.mono ?_)
  rintro e w5 ⟨rfl, hd⟩
  have HB5 := Lib.hid (HB4.out.trans (hd.below _))
  clear hd HE e4s
  generalize decide (pa = pb) = D at *
  go_wp2
  go_ret
  exact ⟨by rw [HF.out]; rfl, HB5.out⟩
set_option maxHeartbeats 1000000 in
set_option maxRecDepth 100000 in
theorem spec_SameAway_c {w : World} {va vb : Value} {a b : List (List Int)} (h1 : Tab w va a) (h2 : Tab w vb b) :
    Calls Try.prog 45 #[va, vb] w fun e w' => e = .returned (.bool (sameZ a b)) ∧ Below w.heap.size w w' := by
  have HIa := Lib.hid (spec_IsSmall_c h1)
  have HIb := Lib.hid (spec_IsSmall_c h2)
  have HPa := Lib.hid (spec_TurnedPoly_c h1)
  have HPb := Lib.hid (fun w1 (hb : Below w.heap.size w w1) => spec_TurnedPoly_c (Tab.frame _ _ _ _ h2 hb))
  obtain ⟨va0, vc0, rfl, -⟩ := h1.shape
  obtain ⟨vb0, vd0, rfl, -⟩ := h2.shape
  have HM := Lib.hid (show sameZ a b = (smallM a && (smallM b && decide (turnedP a = turnedP b))) from rfl)
  generalize sameZ a b = R at HM ⊢
  clear h1 h2
  cases ha : smallM a with
  | false =>
    rw [ha] at HIa HM
    have HF := Lib.hid (show R = false from by rw [HM.out]; rfl)
    clear HM HPa HPb ha
    go_enter Try.func45, Try.ntmps45
    go_wp2_with fail
    (with_reducible refine HIa.out.mono ?_)
    rintro e w9 ⟨rfl, hw9⟩
    rw [hw9]
    clear hw9 w9
    go_wp2
    go_ret
    exact ⟨by rw [HF.out]; rfl, Below.refl _ _⟩
  | true =>
  rw [ha] at HIa HM
  cases hb : smallM b with
  | false =>
    rw [hb] at HIb HM
    have HF := Lib.hid (show R = false from by rw [HM.out]; rfl)
    clear HM HPa HPb ha hb
    go_enter Try.func45, Try.ntmps45
    go_wp2_with fail
    (with_reducible refine HIa.out.mono ?_)
    rintro e w9 ⟨rfl, hw9⟩
    rw [hw9]
    clear hw9 w9
    go_wp2_with fail
    (with_reducible refine HIb.out.mono ?_)
    rintro e w9 ⟨rfl, hw9⟩
    rw [hw9]
    clear hw9 w9
    go_wp2
    go_ret
    exact ⟨by rw [HF.out]; rfl, Below.refl _ _⟩
  | true =>
  rw [hb] at HIb HM
  have HF := Lib.hid (show R = decide (turnedP a = turnedP b) from by rw [HM.out]; rfl)
  clear HM ha hb
  generalize turnedP a = pa at *
  generalize turnedP b = pb at *
  go_enter Try.func45, Try.ntmps45
  go_wp2_with fail
  (with_reducible refine HIa.out.mono ?_)
  rintro e w9 ⟨rfl, hw9⟩
  rw [hw9]
  clear hw9 w9
  go_wp2_with fail
  (with_reducible refine HIb.out.mono ?_)
  rintro e w9 ⟨rfl, hw9⟩
  rw [hw9]
  clear hw9 w9
  go_wp2_with fail
  (with_reducible refine HPa.out.mono ?_)
  rintro e w1 ⟨v1, rfl, hn1, hb1⟩
  have hz1 := hb1.size
  obtain ⟨x1, y1, rfl, -⟩ := (New.ints hn1).shape
  have HB2 := Lib.hid hb1
  have HN1 := Lib.hid hn1
  clear hn1 hb1 HPa HIa HIb
  go_wp2_with fail
  (with_reducible refine (HPb.out w1 HB2.out).mono ?_)
  rintro e w3 ⟨v3, rfl, hn3, hb3⟩
  obtain ⟨x3, y3, rfl, -⟩ := (New.ints hn3).shape
  have HE := Lib.hid (l4SameRow_c (Ints.frame _ _ _ _ HN1.out.ints hb3) hn3.ints)
  have HB4 := Lib.hid (HB2.out.trans (hb3.mono hz1))
  clear hn3 hb3 HPb HN1
  go_wp2_with fail
  (with_reducible refine HE.out.mono ?_)
  rintro e w5 ⟨rfl, hd⟩
  have HB5 := Lib.hid (HB4.out.trans (hd.below _))
  clear hd HE
  generalize decide (pa = pb) = D at *
  go_wp2
  go_ret
  exact ⟨by rw [HF.out]; rfl, HB5.out⟩
end Go.Proofs.Ytdohepngandajaa
