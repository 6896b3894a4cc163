/-
  Texts of this claim joined: laws for its walks, contracts of the functions that the law reaches.
-/
import Derived.Test.YtlkgkfgpnnahdaaFnLagsM8
import Derived.Test.YtlkgkfgpnnahdaaFnLagsM3
import Derived.Test.YtlkgkfgpnnahdaaFnLagsM1
import Derived.Test.YtlkgkfgpnnahdaaRows
import Derived.Test.YtlkgkfgpnnahdaaFnLagsM2
import Derived.IntWalk
section
/-
  The characteristic polynomial, the program's; a polynomial without zeros at its end, both sides.
-/
namespace Go.Sd
open Go.RowKit Go.Deep
/-- A number of the first of some own things: its cell, and what a store leaves. -/
theorem Sep.intSet {e : TypeId} {lo : Nat} {w : World} {v : Value} {xs : List Int} {rs : List Res} (h : Sep lo w (Res.of (OInts e) (OInts.kept e).held v xs :: rs)) {i : Nat} {x : Int} (hx : xs[i]? = some x) :
    ∃ b c, v = .slice (some ⟨b, 0, none⟩) xs.length c ∧ lo ≤ b ∧ b < w.heap.size ∧ w.cell? ⟨b, i, none⟩ = some (.int .i64 x) ∧ w.frozen? ⟨b, i, none⟩ = false ∧
      ∀ y, Sep lo (w.setCell ⟨b, i, none⟩ (.int .i64 y)) (Res.of (OInts e) (OInts.kept e).held v (xs.set i y) :: rs) := by
  obtain ⟨F, ⟨G, H, rfl, h1, h2⟩, hn, hge⟩ := h
  have hnd := List.nodup_append.1 hn
  obtain ⟨b, c, u, G1, hv, hc, hbF, hbG, hcell, hfr, ⟨rfl, rfl⟩, _, _, _, hst⟩ := OwnOf.focus OIntR.kept h1 hnd.1 hx
  refine ⟨b, c, hv, hge b (List.mem_append_left _ hbF), (OInts.kept e).lt _ _ _ _ h1 b hbF, hcell, hfr, fun y => ?_⟩
  obtain ⟨F', hF', hsub, hn', -⟩ := hst w (.int .i64 y) y [] ⟨rfl, rfl⟩ (by simp) (fun _ _ _ => rfl)
  have hsub' : ∀ q, q ∈ F' → q ∈ G := fun q hq => (hsub q hq).elim id (by simp)
  refine ⟨F' ++ H, ⟨F', H, rfl, hF', h2.keep fun q hq => Below.heap_setCell _ _ _ _ fun e => ?_⟩, List.nodup_append.2 ⟨hn' (by simp) (by simp), hnd.2.1, fun p hp q hq => hnd.2.2 p (hsub' p hp) q hq⟩, fun q hq => ?_⟩
  · have e2 : q = b := e
    subst e2
    exact hnd.2.2 q hbF q hq rfl
  · rcases List.mem_append.1 hq with hq | hq
    · exact hge q (List.mem_append_left _ (hsub' q hq))
    · exact hge q (List.mem_append_right _ hq)
/-- The beginning of an own slice. -/
theorem New.pre {e : TypeId} {lo : Nat} {w : World} {b n c : Nat} {xs : List Int} (h : New (OInts e) lo w (.slice (some ⟨b, 0, none⟩) n c) xs) {k : Nat} (hk : k ≤ xs.length) : New (OInts e) lo w (.slice (some ⟨b, 0, none⟩) k c) (xs.take k) := by
  obtain ⟨F, ⟨us, Fs, ⟨hul, hor⟩, hFl, hr, rfl⟩, hnd, hge⟩ := h
  rcases hor with ⟨h0, _⟩ | ⟨g, cap, cur, hv, hg, hh, hnc, hcm, hcs, htake⟩
  · cases h0
  simp only [Value.slice.injEq, Option.some.injEq, Addr.mk.injEq] at hv
  obtain ⟨⟨rfl, -, -⟩, rfl, rfl⟩ := hv
  have hFs : ∀ G, G ∈ Fs → G = [] := fun G hG => by
    obtain ⟨j, hj⟩ := List.getElem?_of_mem hG
    have hj1 : j < Fs.length := (List.getElem?_eq_some_iff.1 hj).1
    exact (hr j us[j] xs[j] G (List.getElem?_eq_getElem (by omega)) (List.getElem?_eq_getElem (by omega)) hj).2
  have hfl : Fs.flatten = [] := List.flatten_eq_nil_iff.2 hFs
  have hfl2 : (Fs.take k).flatten = [] := List.flatten_eq_nil_iff.2 fun G hG => hFs G (List.mem_of_mem_take hG)
  refine ⟨_, ⟨us.take k, Fs.take k, ⟨by simp; omega, .inr ⟨b, c, cur, by simp; omega, hg, hh, by simp; omega, hcm, hcs, ?_⟩⟩, by simp; omega, ?_, rfl⟩, ?_, ?_⟩
  · rw [← htake, List.take_take, List.length_take]
    congr 1
    omega
  · intro i u x G hu hx hG
    rw [List.getElem?_take] at hu hx hG
    split at hu
    · rename_i hi
      rw [if_pos hi] at hx hG
      exact hr i u x G hu hx hG
    · cases hu
  · rw [hfl2]; simp [Value.ownBlock]
  · intro q hq
    rw [hfl2] at hq
    have e : q = b := by simpa [Value.ownBlock] using hq
    rw [e]
    exact hge b (List.mem_append_left _ (by simp [Value.ownBlock]))
end Go.Sd
namespace Go.Proofs.Ytlkgkfgpnnahdaa
open Go.RowKit Go.Deep Go.Sd
set_option linter.unusedSimpArgs false
theorem cutN_succ (p : List Int) (n : Nat) : cutN p (n + 1) = if p.getD n 0 = 0 then cutN p n else n + 1 := rfl
def csum (m : List (List Int)) (k : Nat) (ls : List (List Int)) : Nat → Int
  | 0 => 0
  | j + 1 => csum m k ls j + sgn k * detP m (ls.getD j [])
theorem csum_pre (m : List (List Int)) (k : Nat) (ls rs : List (List Int)) : ∀ j, j ≤ ls.length → csum m k (ls ++ rs) j = csum m k ls j
  | 0, _ => rfl
  | j + 1, h => by
    have e : (ls ++ rs).getD j [] = ls.getD j [] := by simp [List.getD, List.getElem?_append_left (show j < ls.length by omega)]
    rw [csum, csum, csum_pre m k ls rs j (by omega), e]
theorem csum_full (m : List (List Int)) (n k : Nat) : ∀ s, csum m k (chL n k s) (chL n k s).length = sgn k * minS m n k s
  | 0 => by simp [chL, csum, minS]
  | s + 1 => by
    have ih := csum_full m n k s
    by_cases h : (subL s n).length = k
    · rw [chL_yes h, minS_yes h, List.length_append, List.length_singleton, csum, csum_pre m k _ _ _ (Nat.le_refl _), ih]
      have e : (chL n k s ++ [subL s n]).getD (chL n k s).length [] = subL s n := by simp [List.getD]
      rw [e, Int.mul_add]
    · rw [chL_no h, minS_no h, ih]
theorem csum_bd {m : List (List Int)} {n k : Nat} {ls : List (List Int)} (hs : Sq n m) (hn : n ≤ 4) (h : Bd 9 m) (hl : ∀ l, l ∈ ls → l.length ≤ n ∧ ∀ x, x ∈ l → 0 ≤ x ∧ x < (n : Int)) : ∀ j, j ≤ ls.length → -((j : Int) * 157464) ≤ csum m k ls j ∧ csum m k ls j ≤ (j : Int) * 157464
  | 0, _ => by simp [csum]
  | j + 1, hj => by
    have h1 := csum_bd (k := k) hs hn h hl j (by omega)
    have e : ls.getD j [] = ls[j] := by simp [List.getD, show j < ls.length by omega]
    have hm := hl ls[j] (List.getElem_mem _)
    have h2 := detP_bd hs hn h hm.2 hm.1
    have h3 := detB_mono ls[j].length
    have h4 := sgn_mul_bd k (B := 157464) (x := detP m ls[j]) (by omega)
    rw [csum, e]
    omega
/-- The numbers of the polynomial while the k-th one is summed up. -/
def stR (m : List (List Int)) (n k : Nat) (q : Int) : List Int := rowOf' (n + 1) (fun i => if n < k + i then coef m n (n - i) else if i + k = n then q else 0)
def charL (m : List (List Int)) (n : Nat) : List Int := rowOf' (n + 1) (fun i => coef m n (n - i))
theorem stR_len (m : List (List Int)) (n k : Nat) (q : Int) : (stR m n k q).length = n + 1 := rowOf_len _ _
theorem stR_start (m : List (List Int)) (n : Nat) : stR m n 0 0 = List.replicate (n + 1) 0 := by
  unfold stR
  apply List.ext_getElem?
  intro i
  by_cases h : i < n + 1
  · rw [rowOf_at h, List.getElem?_replicate, if_pos h, if_neg (by omega)]
    split <;> rfl
  · rw [List.getElem?_eq_none (by rw [rowOf_len]; omega), List.getElem?_eq_none (by simp; omega)]
theorem stR_at (m : List (List Int)) {n k r : Nat} (q : Int) (h : r + k = n) : (stR m n k q)[r]? = some q := by
  unfold stR
  rw [rowOf_at (by omega), if_neg (by omega), if_pos h]
theorem stR_set (m : List (List Int)) {n k r : Nat} (q y : Int) (h : r + k = n) : (stR m n k q).set r y = stR m n k y := by
  unfold stR
  apply List.ext_getElem?
  intro i
  by_cases hi : i < n + 1
  · rw [rowOf_at hi]
    by_cases e : i = r
    · subst e
      rw [List.getElem?_set_self (by rw [rowOf_len]; exact hi), if_neg (by omega), if_pos h]
    · rw [List.getElem?_set_ne (Ne.symm e), rowOf_at hi]
      split
      · rfl
      · rw [if_neg (by omega), if_neg (by omega)]
  · rw [List.getElem?_eq_none (by rw [List.length_set, rowOf_len]; omega), List.getElem?_eq_none (by rw [rowOf_len]; omega)]
theorem stR_next (m : List (List Int)) {n k : Nat} (hk : k ≤ n) : stR m n k (coef m n k) = stR m n (k + 1) 0 := by
  unfold stR
  refine rowOf_congr fun i hi => ?_
  by_cases h : n < k + i
  · rw [if_pos h, if_pos (by omega)]
  · rw [if_neg h]
    by_cases e : i + k = n
    · rw [if_pos e, if_pos (show n < k + 1 + i by omega), show n - i = k by omega]
    · rw [if_neg e, if_neg (show ¬ n < k + 1 + i by omega)]
      split <;> rfl
theorem stR_end (m : List (List Int)) (n : Nat) : stR m n (n + 1) 0 = charL m n := by
  unfold stR charL
  exact rowOf_congr fun i _ => by rw [if_pos (by omega)]
theorem OIntR.zero3 : ∀ w : World, OIntR w (.int .i64 0) 0 [] := fun _ => ⟨rfl, rfl⟩
abbrev ResI (v : Value) (xs : List Int) : Res := Res.of (OInts 3) (OInts.kept _).held v xs
abbrev ResT (v : Value) (M : List (List Int)) : Res := Res.of (OTab 3 33) (OTab.kept _ _).held v M
set_option maxHeartbeats 2000000 in
set_option maxRecDepth 100000 in
theorem charPoly_c {w : World} {va : Value} {m : List (List Int)} {n : Nat} (h : Tab w va m) (hsq : Sq n m) (hn : n ≤ 4) (hbd : Bd 9 m) :
    Calls Try.prog 180 #[va] w (Makes (OInts 3) w (charL m n)) := by
  have HT := Lib.hid h
  have Hch := Lib.hid (fun w1 k => choices_c (w := w1) (n := n) (k := k) hn)
  have Hcb := Lib.hid (fun (k s : Nat) => csum_bd (k := k) (ls := chL n k s) hsq hn hbd (fun l hl => by
    obtain ⟨-, t, rfl⟩ := chL_mem n k s l hl
    exact ⟨subL_len t n, fun x hx => subL_mem hx⟩))
  have Hmem := Lib.hid (fun (k s : Nat) (l : List Int) (hl : l ∈ chL n k s) => (show (l.length ≤ n ∧ ∀ x, x ∈ l → 0 ≤ x ∧ x < (n : Int)) from by
    obtain ⟨-, t, rfl⟩ := chL_mem n k s l hl
    exact ⟨subL_len t n, fun x hx => subL_mem hx⟩))
  have HDb := Lib.hid (fun (l : List Int) (hl : l.length ≤ n ∧ ∀ x, x ∈ l → 0 ≤ x ∧ x < (n : Int)) => (show -157464 ≤ detP m l ∧ detP m l ≤ 157464 from by
    have h2 := detP_bd hsq hn hbd hl.2 hl.1
    have h3 := detB_mono l.length
    omega))
  have HC := Lib.hid (fun (w1 : World) (vl : Value) (l : List Int) (hb : Below w.heap.size w w1) (hl : Ints w1 vl l) (hm : l.length ≤ n ∧ ∀ x, x ∈ l → 0 ≤ x ∧ x < (n : Int)) => picked_c (Tab.frame _ _ _ _ h hb) hsq (by omega) hl hm.2 (by omega))
  have HD := Lib.hid (fun (w1 : World) (v : Value) (l : List Int) (hm : l.length ≤ n ∧ ∀ x, x ∈ l → 0 ≤ x ∧ x < (n : Int)) (h1 : Tab w1 v (partT m l)) => (show Calls Try.prog 208 #[v] w1 (fun e w' => e = .returned (.int .i64 (detP m l)) ∧ Below w1.heap.size w1 w') from impl_det_c _ (by omega) h1 (partT_sq m _) (partT_bd hsq hbd hm.2)))
  obtain ⟨va0, vc0, rfl, -⟩ := h.shape
  rw [hsq.1] at HC ⊢
  have hP16 := pow16 hn
  clear h hsq hbd
  go_enter Try.func180, Try.ntmps180
  go_wp2_with (at_make; refine wpl_make (R := OIntR) rfl (.tmp 12) (.tmp 12) 33 rfl 3 (.int .i64 0) 8 Try.underlying33 infoI rfl (n + 1) (by rfl) (by rfl) (by omega) (by omega) OIntR.zero3 ?_; intro wm hzm hnm hbm; have Hnm := Lib.hid hnm; have Hbm := Lib.hid hbm; clear hnm hbm hzm)
  obtain ⟨vo, hvo⟩ : ∃ v : Value, v = .slice (some ⟨w.heap.size, 0, none⟩) (n + 1) (n + 1) := ⟨_, rfl⟩
  have Hvo := Lib.hid hvo
  have HS0 := Lib.hid (show Sep w.heap.size wm (ResI vo (stR m n 0 0) :: []) from by rw [hvo, stR_start]; exact Sep.one (OInts.kept _).held Hnm.out)
  clear hvo Hnm
  go_loopg [5, 6] (n + 1) (fun g sg i wr => ∃ (k : Nat) (s : Int), sg = .int .i64 s ∧ i = .int .i64 k ∧ k + g = n + 1 ∧ Hid (s = sgn k) ∧ Hid (Sep w.heap.size wr (ResI vo (stR m n k 0) :: [])) ∧ Hid (Below w.heap.size w wr))
  case atStart => exact ⟨0, 1, rfl, rfl, by omega, Lib.hid rfl, HS0, Hbm⟩
  case round =>
    clear HS0 Hbm
    obtain ⟨k, s, rfl, rfl, hk, Hs, HS, Hb⟩ := hrel
    obtain ⟨wo, rfl⟩ : ∃ x, x = wr := ⟨_, rfl⟩
    have hle := Hb.out.size
    by_cases hkn : k ≤ n
    · have hki : (k : Int) ≤ (n : Int) := by omega
      obtain ⟨g, rfl⟩ : ∃ x, gk = x + 1 := ⟨gk - 1, by omega⟩
      have hsb : s = 1 ∨ s = -1 := by rw [Hs.out]; exact sgn_bd k
      have hsb2 : -1 ≤ s ∧ s ≤ 1 := by omega
      have hneg : IntKind.i64.wrap (-s) = -s := IntWalk.i64_in _ (by omega)
      have HSg := Lib.hid (show -s = sgn (k + 1) from by rw [sgn_next, Hs.out])
      have Hchk := Lib.hid (Hch.out wo k)
      have Hcsb := Lib.hid (Hcb.out k (2 ^ n))
      have Hmk := Lib.hid (Hmem.out k (2 ^ n))
      have HF := Lib.hid (show csum m k (chL n k (2 ^ n)) (chL n k (2 ^ n)).length = coef m n k from csum_full m n k (2 ^ n))
      have hll := Lib.hid (show (chL n k (2 ^ n)).length ≤ 16 from by have := chL_len n k (2 ^ n); omega)
      generalize chL n k (2 ^ n) = ls at Hchk Hcsb Hmk HF hll
      clear hsb
      go_wp2_with fail
      (with_reducible refine Hchk.out.mono ?_)
      rintro e wl ⟨vl, rfl, hnl, hbl⟩
      obtain ⟨la, lc, rfl, -⟩ := (New.tab hnl).shape
      have HSl := Lib.hid (HS.out.new (OTab.kept 3 33).held hbl hle hnl).swap
      have HBl := Lib.hid (Hb.out.trans (hbl.mono hle))
      obtain ⟨N, hN⟩ : ∃ N, N = ls.length := ⟨_, rfl⟩
      have HN := Lib.hid hN
      rw [← hN] at HSl hll ⊢
      clear hN hnl hbl HS Hb Hchk
      go_wp2
      go_loopg [23] N (fun g2 jj wr2 => ∃ (j : Nat), jj = .int .i64 j ∧ j + g2 = N ∧ Hid (Sep w.heap.size wr2 (ResI vo (stR m n k (csum m k ls j)) :: ResT (.slice la N lc) ls :: [])) ∧ Hid (Below w.heap.size w wr2))
      case atStart => exact ⟨0, rfl, by omega, HSl, HBl⟩
      case round =>
        clear HSl HBl
        obtain ⟨j, rfl, hj, HSi, HBi⟩ := hrel
        obtain ⟨wi, rfl⟩ : ∃ x, x = wr := ⟨_, rfl⟩
        have hzi := HBi.out.size
        by_cases hjn : j < N
        · have hji : (j : Int) < (N : Int) := by omega
          obtain ⟨g2, rfl⟩ : ∃ x, gk = x + 1 := ⟨gk - 1, by omega⟩
          obtain ⟨l, hl, -⟩ := at_lt (xs := ls) (k := j) (by have := HN.out; omega)
          obtain ⟨b, o, c, ra, rc, hv, hbw, gl, hri⟩ := (New.tab HSi.out.swap.headNew).rowOf hl
          simp only [Value.slice.injEq] at hv
          obtain ⟨rfl, -, rfl⟩ := hv
          have hm := Hmk.out l (List.mem_of_getElem? hl)
          obtain ⟨r, hr⟩ : ∃ r, r + k = n := ⟨n - k, by omega⟩
          obtain ⟨q, hq⟩ : ∃ q, q = csum m k ls j := ⟨_, rfl⟩
          have hqb := Hcsb.out j (by have := HN.out; omega)
          rw [← hq] at HSi hqb
          have HQ := Lib.hid (show csum m k ls (j + 1) = q + s * detP m l from by rw [csum, ← hq, Hs.out]; simp [List.getD, hl])
          have hdb := HDb.out l hm
          have HDl := Lib.hid (fun w1 v h => HD.out w1 v l hm h)
          have HCl := Lib.hid (fun w1 vl hb hl => HC.out w1 vl l hb hl hm)
          generalize detP m l = D at HQ hdb HDl
          have hp1 : -157464 ≤ s * D ∧ s * D ≤ 157464 := by
            have := prod_bd (X := 1) (Y := 157464) hsb2 hdb
            omega
          have hllo := hll.out
          have hq2 : -2519424 ≤ q ∧ q ≤ 2519424 := by omega
          have hw1 : IntKind.i64.wrap (s * D) = s * D := IntWalk.i64_in _ (by omega)
          have hw2 : IntKind.i64.wrap (q + s * D) = q + s * D := IntWalk.i64_in _ (by omega)
          have hw0 : IntKind.i64.wrap ((n : Int) - (k : Int)) = (r : Int) := by rw [IntWalk.i64_in _ (by omega)]; omega
          have hrn : (r : Int) < (n : Int) + 1 := by omega
          have hrn2 : r < n + 1 := by omega
          obtain ⟨bo, co, hvb, hbo1, hbo2, gq, gf, hst⟩ := HSi.out.intSet (stR_at m q hr)
          rw [stR_len] at hvb
          have hvo := Hvo.out
          rw [hvo] at hvb
          simp only [Value.slice.injEq, Option.some.injEq, Addr.mk.injEq] at hvb
          obtain ⟨⟨rfl, -, -⟩, -, rfl⟩ := hvb
          have HRi := Lib.hid hri
          have Hst := Lib.hid (fun (w2 : World) (hb : Below wi.heap.size wi w2) => (show w2.frozen? ⟨w.heap.size, r, none⟩ = false ∧ Sep w.heap.size (w2.setCell ⟨w.heap.size, r, none⟩ (.int .i64 (q + s * D))) (ResI vo (stR m n k (csum m k ls (j + 1))) :: ResT (.slice (some ⟨b, o, none⟩) N lc) ls :: []) from by
            have h2 := HSi.out.below hb (Nat.le_refl _)
            obtain ⟨b2, c2, hv2, -, -, -, f2, s2⟩ := h2.intSet (stR_at m q hr)
            rw [stR_len, Hvo.out] at hv2
            simp only [Value.slice.injEq, Option.some.injEq, Addr.mk.injEq] at hv2
            obtain ⟨⟨rfl, -, -⟩, -, -⟩ := hv2
            refine ⟨f2, ?_⟩
            have h3 := s2 (q + s * D)
            rw [stR_set m q _ hr] at h3
            rw [HQ.out]
            exact h3))
          generalize l.length = ll at *
          have hSd : wi.drew.cell? ⟨w.heap.size, r, none⟩ = some (.int .i64 q) := gq
          have Hvk := Lib.hid hvo.symm
          have HSc := Lib.hid (fun (w2 : World) (hb : Below wi.heap.size wi w2) => (hb.cell (p := ⟨w.heap.size, r, none⟩) hbo2).trans gq)
          have HB1 := Lib.hid (show Below wi.heap.size wi wi.drew from (Below.refl _ _).drew)
          have HCw := Lib.hid (HCl.out wi.drew _ (HBi.out.trans (HB1.out.mono hzi)) (Ints.frame _ _ _ _ HRi.out HB1.out))
          clear hst hri hl hm hdb hqb hq2 hq hsb2 hneg hr HSi HD HC HDb hvo gf hp1
          go_wp2
          refine wp_region_L (fun w' => w'.cell? ⟨w.heap.size, r, none⟩ = some (.int .i64 q)) (by kernel_rfl) ?_
          refine wpAnyL_take 0 (v := ?_) rfl (by kernel_rfl) (by kernel_rfl) (by kernel_rfl) (by kernel_rfl) (fun _ _ _ h => h) (Or.inl ⟨by rfl, ?_⟩) hSd ?_
          rotate_left
          · (intro w hSw; (try dsimp only at hSw); go_simp) <;> (try with_reducible rfl)
          try simp only [Act.put, List.getElem_toArray, List.getElem_cons_zero, List.getElem_cons_succ, List.setIfInBounds_toArray, List.set_cons_zero, List.set_cons_succ]
          refine wpAnyL_take 1 (v := ?_) rfl (by kernel_rfl) (by kernel_rfl) (by kernel_rfl) (by kernel_rfl) (fun _ _ _ h => h) (Or.inl ⟨by rfl, ?_⟩) hSd ?_
          rotate_left
          · (intro w hSw; (try dsimp only at hSw); go_simp) <;> (try with_reducible rfl)
          try simp only [Act.put, List.getElem_toArray, List.getElem_cons_zero, List.getElem_cons_succ, List.setIfInBounds_toArray, List.set_cons_zero, List.set_cons_succ]
          refine wpAnyL_take 2 (v := ?_) rfl (by kernel_rfl) (by kernel_rfl) (by kernel_rfl) (by kernel_rfl) (fun _ _ _ h => h) (Or.inl ⟨by rfl, ?_⟩) hSd ?_
          rotate_left
          · (intro w hSw; (try dsimp only at hSw); go_simp) <;> (try with_reducible rfl)
          try simp only [Act.put, List.getElem_toArray, List.getElem_cons_zero, List.getElem_cons_succ, List.setIfInBounds_toArray, List.set_cons_zero, List.set_cons_succ]
          refine wpAnyL_take 3 (v := ?_) rfl (by kernel_rfl) (by kernel_rfl) (by kernel_rfl) (by kernel_rfl) (fun _ _ _ h => h) (Or.inl ⟨by rfl, ?_⟩) hSd ?_
          rotate_left
          · (intro w hSw; (try dsimp only at hSw); go_simp) <;> (try with_reducible rfl)
          try simp only [Act.put, List.getElem_toArray, List.getElem_cons_zero, List.getElem_cons_succ, List.setIfInBounds_toArray, List.set_cons_zero, List.set_cons_succ]
          refine wpAnyL_take 4 (v := ?_) rfl (by kernel_rfl) (by kernel_rfl) (by kernel_rfl) (by kernel_rfl) (fun _ _ _ h => h) (Or.inl ⟨by rfl, ?_⟩) hSd ?_
          rotate_left
          · (intro w hSw; (try dsimp only at hSw); go_simp) <;> (try with_reducible rfl)
          try simp only [Act.put, List.getElem_toArray, List.getElem_cons_zero, List.getElem_cons_succ, List.setIfInBounds_toArray, List.set_cons_zero, List.set_cons_succ]
          refine wpAnyL_take 5 (v := ?_) rfl (by kernel_rfl) (by kernel_rfl) (by kernel_rfl) (by kernel_rfl) (fun _ _ _ h => h) (Or.inl ⟨by rfl, ?_⟩) hSd ?_
          rotate_left
          · (intro w hSw; (try dsimp only at hSw); go_simp) <;> (try with_reducible rfl)
          try simp only [Act.put, List.getElem_toArray, List.getElem_cons_zero, List.getElem_cons_succ, List.setIfInBounds_toArray, List.set_cons_zero, List.set_cons_succ]
          refine wpAnyL_take 6 (v := ?_) rfl (by kernel_rfl) (by kernel_rfl) (by kernel_rfl) (by kernel_rfl) (fun _ _ _ h => h) (Or.inl ⟨by rfl, ?_⟩) hSd ?_
          rotate_left
          · (intro w hSw; (try dsimp only at hSw); go_simp) <;> (try with_reducible rfl)
          try simp only [Act.put, List.getElem_toArray, List.getElem_cons_zero, List.getElem_cons_succ, List.setIfInBounds_toArray, List.set_cons_zero, List.set_cons_succ]
          refine wpAnyL_take 7 (v := ?_) rfl (by kernel_rfl) (by kernel_rfl) (by kernel_rfl) (by kernel_rfl) (fun _ _ _ h => h) (Or.inl ⟨by rfl, ?_⟩) hSd ?_
          rotate_left
          · (intro w hSw; (try dsimp only at hSw); go_simp) <;> (try with_reducible rfl)
          try simp only [Act.put, List.getElem_toArray, List.getElem_cons_zero, List.getElem_cons_succ, List.setIfInBounds_toArray, List.set_cons_zero, List.set_cons_succ]
          refine wpAnyL_take 8 (v := ?_) rfl (by kernel_rfl) (by kernel_rfl) (by kernel_rfl) (by kernel_rfl) (fun _ _ _ h => h) (Or.inl ⟨by rfl, ?_⟩) hSd ?_
          rotate_left
          · (intro w hSw; (try dsimp only at hSw); go_simp) <;> (try with_reducible rfl)
          try simp only [Act.put, List.getElem_toArray, List.getElem_cons_zero, List.getElem_cons_succ, List.setIfInBounds_toArray, List.set_cons_zero, List.set_cons_succ]
          refine wpAnyL_one 9 (by kernel_rfl) rfl (fun K hK => ?_)
          go_simp
          (with_reducible refine HCw.out.mono ?_)
          rintro e w2 ⟨v2, rfl, hn2, hb2⟩
          have HB2 := Lib.hid (HB1.out.trans (hb2.mono HB1.out.size))
          have hS2 : w2.cell? ⟨w.heap.size, r, none⟩ = some (.int .i64 q) := HSc.out _ HB2.out
          have HDw := Lib.hid (HDl.out w2 v2 hn2.tab)
          clear hn2 hb2
          go_wp2_with fail
          refine hK.out _ _ (fun _ => hS2) ?_
          clear hK K
          try simp only [Act.put, List.getElem_toArray, List.getElem_cons_zero, List.getElem_cons_succ, List.setIfInBounds_toArray, List.set_cons_zero, List.set_cons_succ]
          refine wpAnyL_one 10 (by kernel_rfl) rfl (fun K hK => ?_)
          go_simp
          (with_reducible refine HDw.out.mono ?_)
          rintro e w3 ⟨rfl, hb3⟩
          have HB3 := Lib.hid (HB2.out.trans (hb3.mono HB2.out.size))
          have hS3 : w3.cell? ⟨w.heap.size, r, none⟩ = some (.int .i64 q) := HSc.out _ HB3.out
          have hf3 := (Hst.out w3 HB3.out).1
          clear hb3
          go_wp2_with fail
          refine hK.out _ _ (fun _ => hS3) ?_
          clear hK K
          try simp only [Act.put, List.getElem_toArray, List.getElem_cons_zero, List.getElem_cons_succ, List.setIfInBounds_toArray, List.set_cons_zero, List.set_cons_succ]
          refine wpAnyL_take 11 (v := ?_) rfl (by kernel_rfl) (by kernel_rfl) (by kernel_rfl) (by kernel_rfl) (fun _ _ _ h => h) (Or.inl ⟨by rfl, ?_⟩) hS3 ?_
          rotate_left
          · (intro w hSw; (try dsimp only at hSw); go_simp) <;> (try with_reducible rfl)
          try simp only [Act.put, List.getElem_toArray, List.getElem_cons_zero, List.getElem_cons_succ, List.setIfInBounds_toArray, List.set_cons_zero, List.set_cons_succ]
          refine wpAnyL_take 12 (v := ?_) rfl (by kernel_rfl) (by kernel_rfl) (by kernel_rfl) (by kernel_rfl) (fun _ _ _ h => h) (Or.inl ⟨by rfl, ?_⟩) hS3 ?_
          rotate_left
          · (intro w hSw; (try dsimp only at hSw); go_simp) <;> (try with_reducible rfl)
          try simp only [Act.put, List.getElem_toArray, List.getElem_cons_zero, List.getElem_cons_succ, List.setIfInBounds_toArray, List.set_cons_zero, List.set_cons_succ]
          refine wpAnyL_take 13 (v := ?_) rfl (by kernel_rfl) (by kernel_rfl) (by kernel_rfl) (by kernel_rfl) (fun _ _ _ h => h) (Or.inl ⟨by rfl, ?_⟩) hS3 ?_
          rotate_left
          · (intro w hSw; (try dsimp only at hSw); go_simp) <;> (try with_reducible rfl)
          try simp only [Act.put, List.getElem_toArray, List.getElem_cons_zero, List.getElem_cons_succ, List.setIfInBounds_toArray, List.set_cons_zero, List.set_cons_succ]
          refine wpAnyL_one 14 (by kernel_rfl) rfl (fun K hK => ?_)
          go_simp
          refine hK.out _ _ (fun h => absurd h (not_rem (by kernel_rfl))) ?_
          clear hK K
          try simp only [Act.put, List.getElem_toArray, List.getElem_cons_zero, List.getElem_cons_succ, List.setIfInBounds_toArray, List.set_cons_zero, List.set_cons_succ]
          refine wpAnyL_done (by kernel_rfl) ?_ _
          go_wp2
          go_roundg g2
          case measure => omega
          case rel => exact ⟨j + 1, by go_num, by omega, Lib.hid (Hst.out w3 HB3.out).2, Lib.hid ((HBi.out.trans (HB3.out.mono hzi)).setCell (p := ⟨w.heap.size, r, none⟩) (Nat.le_refl _) _)⟩
        · have hji : ¬ ((j : Int) < (N : Int)) := by omega
          have HSn := Lib.hid (show Sep w.heap.size wi (ResI vo (stR m n (k + 1) 0) :: []) from by
            have h := HSi.out.swap.tail
            rw [show j = ls.length from by have := HN.out; omega, HF.out, stR_next m hkn] at h
            exact h)
          clear HSi
          go_wp2
          go_roundg g
          case measure => omega
          case rel => exact ⟨k + 1, -s, rfl, by go_num, by omega, HSg, HSn, HBi⟩
    · have hki : ¬ ((k : Int) ≤ (n : Int)) := by omega
      have HR := Lib.hid (show New (OInts 3) w.heap.size wo (.slice (some ⟨w.heap.size, 0, none⟩) (n + 1) (n + 1)) (charL m n) from by
        have h := HS.out.headNew
        rw [show k = n + 1 from by omega, stR_end, Hvo.out] at h
        exact h)
      clear HS
      go_wp2
      go_ret
      exact ⟨_, rfl, HR.out, Hb.out⟩
set_option maxHeartbeats 1000000 in
set_option maxRecDepth 100000 in
theorem trimmed_c {w : World} {lo b n c : Nat} {p : List Int} (h : New (OInts 3) lo w (.slice (some ⟨b, 0, none⟩) n c) p) (hl : p.length ≤ 9) :
    Calls Try.prog 181 #[.slice (some ⟨b, 0, none⟩) n c] w fun e w' => ∃ r, e = .returned r ∧ New (OInts 3) lo w r (cutL p) ∧ w' = w := by
  obtain ⟨a', c', hv, hc1, hc2, -⟩ := (New.ints h).shape
  simp only [Value.slice.injEq] at hv
  obtain ⟨-, rfl, rfl⟩ := hv
  have HC := Lib.hid (fun i x (hx : p[i]? = some x) => (New.ints h).elOf hx)
  have HP := Lib.hid (fun k hk => h.pre (k := k) hk)
  have HR := Lib.hid (show cutL p = p.take (cutN p p.length) from rfl)
  generalize cutL p = R at HR ⊢
  obtain ⟨n, hn⟩ : ∃ n, n = p.length := ⟨_, rfl⟩
  have Hn := Lib.hid hn
  rw [← hn] at HP HR hc1 hl ⊢
  clear h hn
  have hnc : (n : Int) ≤ (c : Int) := by omega
  go_enter Try.func181, Try.ntmps181
  go_wp2
  go_loopg [3] n (fun g i wr => i = .int .i64 g ∧ g ≤ n ∧ Hid (R = p.take (cutN p g)) ∧ wr = w)
  case atStart => exact ⟨rfl, Nat.le_refl _, HR, rfl⟩
  case round =>
    clear HR
    obtain ⟨rfl, hg, HR, rfl⟩ := hrel
    by_cases h0 : 0 < gk
    · have h0i : (0 : Int) < (gk : Int) := by omega
      obtain ⟨g, hgk⟩ : ∃ g, gk = g + 1 := ⟨gk - 1, by omega⟩
      subst hgk
      obtain ⟨x, hx, -⟩ := at_lt (xs := p) (k := g) (by have := Hn.out; omega)
      obtain ⟨b2, o2, c2, hv, -, gc⟩ := HC.out g x hx
      simp only [Value.slice.injEq, Option.some.injEq, Addr.mk.injEq] at hv
      obtain ⟨⟨rfl, rfl, -⟩, -, -⟩ := hv
      rw [Nat.zero_add] at gc
      have hw1 : IntKind.i64.wrap ((g : Int) + 1 - 1) = (g : Int) := by rw [IntWalk.i64_in _ (by omega)]; omega
      have hw2 : wrap64 ((g : Int) + 1 - 1) = (g : Int) := by rw [IntWalk.wrap64_in _ (by omega)]; omega
      have hgi : (g : Int) < (n : Int) := by omega
      have HR1 := Lib.hid (show R = p.take (if x = 0 then cutN p g else g + 1) from by rw [HR.out, cutN_succ, show p.getD g 0 = x from by simp [List.getD, hx]])
      clear hx HR
      by_cases hx0 : x = 0
      · have t1 : (x == 0) = true := by simp [hx0]
        have HR2 := Lib.hid (show R = p.take (cutN p g) from by rw [HR1.out, if_pos hx0])
        clear hx0 HR1
        go_wp2
        go_roundg g
        case measure => omega
        case rel => exact ⟨by go_num, by omega, HR2, rfl⟩
      · have t1 : (x == 0) = false := by simp [hx0]
        have HR2 := Lib.hid (show R = p.take (g + 1) from by rw [HR1.out, if_neg hx0])
        have hgc : (g : Int) + 1 ≤ (c : Int) := by omega
        have hgc2 : g + 1 ≤ c := by omega
        have hg0 : (0 : Int) ≤ (g : Int) + 1 := by omega
        have hgt : ((g : Int) + 1).toNat = g + 1 := by omega
        clear hx0 HR1
        go_wp2
        go_ret
        exact ⟨_, rfl, by rw [HR2.out]; exact HP.out (g + 1) (by have := Hn.out; omega), rfl⟩
    · obtain rfl : gk = 0 := by omega
      have HR2 := Lib.hid (show R = p.take 0 from HR.out)
      clear HR
      go_wp2
      go_ret
      exact ⟨_, rfl, by rw [HR2.out]; exact HP.out 0 (Nat.zero_le _), rfl⟩
set_option maxHeartbeats 1000000 in
set_option maxRecDepth 100000 in
theorem l7Cut_c {w : World} {a : Option Addr} {n c : Nat} {p : List Int} (h : Ints w (.slice a n c) p) (hl : p.length ≤ 9) (h0 : 0 < p.length) :
    Calls Try.prog 183 #[.slice a n c] w (Makes (OInts 3) w (cutL p)) := by
  obtain ⟨a', c', hv, hc1, hc2, hx⟩ := h.shape
  simp only [Value.slice.injEq] at hv
  obtain ⟨rfl, rfl, rfl⟩ := hv
  obtain ⟨b, o, rfl, hb, hcell⟩ := hx h0
  have HC := Lib.hid (fun i x (hx : p[i]? = some x) => (show w.cell? ⟨b, o + i, none⟩ = some (.int .i64 x) from by obtain ⟨u, hu, hux⟩ := hcell i x hx; rw [hu, show u = .int .i64 x from hux]))
  have HP := Lib.hid (fun k (hk : k ≤ p.length) => (show Ints w (.slice (some ⟨b, o, none⟩) k c) (p.take k) from by
    have h1 := Ints.part (w := w) (b := b) (o := o) (l := p.length) (g := fun i => p.getD i 0) (fun j hj => HC.out j _ (by simp [List.getD, hj])) hb (s := 0) (len := k) (c := c) (by omega) (by omega) hc2
    have e : rowOf' k (fun t => p.getD (0 + t) 0) = p.take k := by
      apply List.ext_getElem?
      intro i
      by_cases hi : i < k
      · rw [rowOf_at hi, List.getElem?_take, if_pos hi, Nat.zero_add]
        simp [List.getD, show i < p.length by omega]
      · rw [List.getElem?_eq_none (by rw [rowOf_len]; omega), List.getElem?_eq_none (by simp; omega)]
    rw [e] at h1
    exact h1))
  have HR := Lib.hid (show cutL p = p.take (cutN p p.length) from rfl)
  generalize cutL p = R at HR ⊢
  obtain ⟨n, hn⟩ : ∃ n, n = p.length := ⟨_, rfl⟩
  have Hn := Lib.hid hn
  rw [← hn] at HP HR hc1 hl ⊢
  clear h hn hcell hx h0
  have hnc : (n : Int) ≤ (c : Int) := by omega
  go_enter Try.func183, Try.ntmps183
  go_wp2
  go_loopg [3] n (fun g i wr => i = .int .i64 g ∧ g ≤ n ∧ Hid (R = p.take (cutN p g)) ∧ wr = w)
  case atStart => exact ⟨rfl, Nat.le_refl _, HR, rfl⟩
  case round =>
    clear HR
    obtain ⟨rfl, hg, HR, rfl⟩ := hrel
    by_cases h0 : 0 < gk
    · have h0i : (0 : Int) < (gk : Int) := by omega
      obtain ⟨g, hgk⟩ : ∃ g, gk = g + 1 := ⟨gk - 1, by omega⟩
      subst hgk
      obtain ⟨x, hx, -⟩ := at_lt (xs := p) (k := g) (by have := Hn.out; omega)
      have gc := HC.out g x hx
      have hw1 : IntKind.i64.wrap ((g : Int) + 1 - 1) = (g : Int) := by rw [IntWalk.i64_in _ (by omega)]; omega
      have hw2 : wrap64 ((g : Int) + 1 - 1) = (g : Int) := by rw [IntWalk.wrap64_in _ (by omega)]; omega
      have hgi : (g : Int) < (n : Int) := by omega
      have HR1 := Lib.hid (show R = p.take (if x = 0 then cutN p g else g + 1) from by rw [HR.out, cutN_succ, show p.getD g 0 = x from by simp [List.getD, hx]])
      clear hx HR
      by_cases hx0 : x = 0
      · have t1 : (x == 0) = true := by simp [hx0]
        have HR2 := Lib.hid (show R = p.take (cutN p g) from by rw [HR1.out, if_pos hx0])
        clear hx0 HR1
        go_wp2
        go_roundg g
        case measure => omega
        case rel => exact ⟨by go_num, by omega, HR2, rfl⟩
      · have t1 : (x == 0) = false := by simp [hx0]
        have HR2 := Lib.hid (show R = p.take (g + 1) from by rw [HR1.out, if_neg hx0])
        have hgc : (g : Int) + 1 ≤ (c : Int) := by omega
        have hgc2 : g + 1 ≤ c := by omega
        have hg0 : (0 : Int) ≤ (g : Int) + 1 := by omega
        have hgt : ((g : Int) + 1).toNat = g + 1 := by omega
        have Hq := Lib.hid (HP.out (g + 1) (by have := Hn.out; omega))
        have Hql := Lib.hid (show (p.take (g + 1)).length ≤ 9 from by rw [List.length_take]; omega)
        clear hx0 HR1 HP HC
        go_wp2_with (at_builtin; refine wpl_append_vals (f := Value.int .i64) (fun _ => rfl) rfl (.tmp 18) (.tmp 21) 33 rfl 3 (.int .i64 0) 8 Try.underlying33 infoI rfl (New.empty (R := OValR (Value.int .i64)) (lo := wr.heap.size) wr (Nat.le_refl _)) (by simp) (Ints.frame _ _ _ _ Hq.out ((Below.refl _ _).alloc (Nat.le_refl _) _)) rfl rfl (by have := Hql.out; simp only [List.length_nil]; omega) (by have := Hql.out; simp only [List.length_nil]; omega) ?_; intro v1 w1 hn1 _ _ hb1; have Hn1 := Lib.hid hn1; have Hb1 := Lib.hid (((Below.refl wr.heap.size wr).alloc (Nat.le_refl _) _).trans hb1); clear hn1 hb1)
        go_ret
        exact ⟨_, rfl, by rw [HR2.out]; exact Hn1.out, Hb1.out⟩
    · obtain rfl : gk = 0 := by omega
      have HR2 := Lib.hid (show R = p.take 0 from HR.out)
      have Hq := Lib.hid (HP.out 0 (Nat.zero_le _))
      clear HR HP HC
      go_wp2_with (at_builtin; refine wpl_append_vals (f := Value.int .i64) (fun _ => rfl) rfl (.tmp 18) (.tmp 21) 33 rfl 3 (.int .i64 0) 8 Try.underlying33 infoI rfl (New.empty (R := OValR (Value.int .i64)) (lo := wr.heap.size) wr (Nat.le_refl _)) (by simp) (Ints.frame _ _ _ _ Hq.out ((Below.refl _ _).alloc (Nat.le_refl _) _)) rfl rfl (by simp) (by simp) ?_; intro v1 w1 hn1 _ _ hb1; have Hn1 := Lib.hid hn1; have Hb1 := Lib.hid (((Below.refl wr.heap.size wr).alloc (Nat.le_refl _) _).trans hb1); clear hn1 hb1)
      go_ret
      exact ⟨_, rfl, by rw [HR2.out]; exact Hn1.out, Hb1.out⟩
end Go.Proofs.Ytlkgkfgpnnahdaa
end

section
/-
  append of one element, by footprints.
-/
namespace Go.Sd
open Go.RowKit Go.Deep
section
variable {P : Program} {w : World} {ops : Array Oper} {rest : List Oper} {o : Oper} {a : Act} {Q : Exit → Act → World → Prop}
theorem wpl_pushF {α : Type} {R : OwnRel α} (hR : Kept R) (hgd : Region.wanted o (yielded ops a.tmps) = true) (s x : Operand) (t : TypeId)
    (ho : o.op = .call { callee := .builtin .append, args := #[s, x], argTypes := #[t, t] })
    (e : TypeId) (z : Value) (bytes : Nat) (ht : P.underlying t = some (.slice e)) (hinfo : (P.info? e).map (fun i => (i.zero, i.size, i.bytes)) = some (some z, 1, bytes)) (hz1 : z.cells = #[z])
    {F : List Nat} {v : Value} {xs : List α} (h0 : OwnOf e R w v xs F) (hnd : F.Nodup)
    {G : List Nat} {u : Value} {y : α} (hG : R w u y G) (hGn : G.Nodup) (hd : ∀ b, b ∈ G → b ∉ F) {bb : Nat} {c : Nat} (hcell : w.cell? ⟨bb, 0, none⟩ = some u)
    (hs : a.eval s = v) (hx : a.eval x = .slice (some ⟨bb, 0, none⟩) 1 c)
    (hbytes : (xs.length + 1) * bytes ≤ 140737488355328) (h63 : xs.length + 1 ≤ 9223372036854775807)
    (h : ∀ v' w' F', OwnOf e R w' v' (xs ++ [y]) F' → F'.Nodup → (∀ b, b ∈ F' → b ∈ F ∨ b ∈ G ∨ w.heap.size ≤ b) → Off F w w' → wpList P ops Q rest (a.put o.dst v') w') :
    wpList P ops Q (o :: rest) a w := by
  obtain ⟨i, hi, hzz⟩ := Option.map_eq_some_iff.1 hinfo
  simp only [Prod.mk.injEq] at hzz
  obtain ⟨hz, hsz, hby⟩ := hzz
  obtain ⟨us, Fs, how, hl, hr, rfl⟩ := h0
  have hul : us.length = xs.length := by simpa using how.1
  obtain ⟨v', w', hrun, how', hg, _, hat⟩ := run_append_own_at (P := P) w 0 t o.type e i z 1 bytes ht hi hz hsz hby (by rw [hz1]; rfl) (by decide) v xs.length us how ⟨bb, 0, none⟩ 1 c [u] (by simp)
    (by
      intro j u' hj
      match j, hj with
      | 0, hj =>
        simp at hj
        subst hj
        simpa [Addr.add] using hcell)
    (by
      intro u' hu'
      simp at hu'
      subst hu'
      exact hR.one _ _ _ _ hG) h63 hbytes (Nat.zero_le _)
  refine wpl_append_run hgd s x t ho hs hx hrun ?_
  have hlt0 : ∀ b, b ∈ Fs.flatten → b < w.heap.size := fun b hb' => by
    obtain ⟨H, hH, hb2⟩ := List.mem_flatten.1 hb'
    obtain ⟨j, hj⟩ := List.getElem?_of_mem hH
    have hj1 : j < Fs.length := (List.getElem?_eq_some_iff.1 hj).1
    exact hR.lt _ _ _ _ (hr j us[j] xs[j] H (List.getElem?_eq_getElem (by omega)) (List.getElem?_eq_getElem (by omega)) hj) b hb2
  have hvlt : ∀ k, v.ownBlock = some k → k < w.heap.size := fun k hk => (how.lt k hk).2
  have hGlt : ∀ b, b ∈ G → b < w.heap.size := hR.lt _ _ _ _ hG
  have hnd' := List.nodup_append.1 hnd
  have hnv : ∀ k, v.ownBlock = some k → k ∉ Fs.flatten := fun k hk hm => hnd'.2.2 k (by simp [hk]) k hm rfl
  have hGv : ∀ k, v.ownBlock = some k → k ∉ G := fun k hk hm => hd k hm (by simp [hk])
  have hGF : ∀ b, b ∈ G → b ∉ Fs.flatten := fun b hb hm => hd b hb (List.mem_append_right _ hm)
  refine h v' w' (v'.ownBlock.toList ++ (Fs ++ [G]).flatten) ⟨us ++ [u], Fs ++ [G], by simpa using how', by simp [hl], ?_, rfl⟩ ?_ ?_ ?_
  · intro j u' x' G' hu' hx' hG'
    by_cases hj : j < xs.length
    · rw [List.getElem?_append_left (by omega)] at hu' hx' hG'
      refine hR.keep _ _ _ _ _ (hr j u' x' G' hu' hx' hG') fun b hb' => ?_
      have hm : b ∈ Fs.flatten := List.mem_flatten_of_mem (List.mem_of_getElem? hG') hb'
      exact hg.block b (hlt0 b hm) (fun e => hnv b e.symm hm)
    · have hj2 : j = xs.length := by
        have := (List.getElem?_eq_some_iff.1 hx').1
        simp at this; omega
      subst hj2
      rw [List.getElem?_append_right (by omega)] at hu' hx' hG'
      simp [hul, hl] at hu' hx' hG'
      subst hu' hx' hG'
      exact hR.keep _ _ _ _ _ hG fun b hb' => hg.block b (hGlt b hb') fun e => hGv b e.symm hb'
  · simp only [List.flatten_append, List.flatten_cons, List.flatten_nil, List.append_nil]
    refine List.nodup_append.2 ⟨by cases v'.ownBlock <;> simp, List.nodup_append.2 ⟨hnd'.2.1, hGn, ?_⟩, ?_⟩
    · intro p hp q hq e
      subst e
      exact hGF p hq hp
    · intro p hp q hq e
      subst e
      simp at hp
      rcases hat with hat | hat
      · rw [hat] at hp
        rcases List.mem_append.1 hq with hq | hq
        · exact hnv p hp hq
        · exact hGv p hp hq
      · rw [hat] at hp
        simp at hp
        rcases List.mem_append.1 hq with hq | hq
        · have := hlt0 p hq; omega
        · have := hGlt p hq; omega
  · intro b hb'
    simp only [List.flatten_append, List.flatten_cons, List.flatten_nil, List.append_nil] at hb'
    rcases List.mem_append.1 hb' with hb' | hb'
    · simp at hb'
      rcases hat with hat | hat
      · rw [hat] at hb'
        exact Or.inl (List.mem_append_left _ (by simp [hb']))
      · rw [hat] at hb'
        simp at hb'
        exact Or.inr (Or.inr (by omega))
    · rcases List.mem_append.1 hb' with hb' | hb'
      · exact Or.inl (List.mem_append_right _ hb')
      · exact Or.inr (Or.inl hb')
  · exact ⟨hg.os, hg.tape, hg.output, hg.size, fun b hb hf => hg.block b hb fun e => hf (List.mem_append_left _ (by simp [← e]))⟩
end
/-- What has grown out of F. -/
def Out (F : List Nat) (w : World) (F' : List Nat) : Prop := ∀ b, b ∈ F' → b ∈ F ∨ w.heap.size ≤ b
theorem Off.step {F F' : List Nat} {w w1 w2 : World} (h : Off F w w1) (hF : Out F w F') (k : Off F' w1 w2) : Off F w w2 :=
  ⟨k.os.trans h.os, k.tape.trans h.tape, k.output.trans h.output, Nat.le_trans h.size k.size, fun b hb hf => (k.block b (Nat.lt_of_lt_of_le hb h.size) fun hm => by rcases hF b hm with h1 | h1; exact hf h1; omega).trans (h.block b hb hf)⟩
theorem Off.of_below {F : List Nat} {w w1 : World} (h : Below w.heap.size w w1) : Off F w w1 := ⟨h.os, h.tape, h.output, h.size, fun b hb _ => h.block b hb⟩
end Go.Sd
end

section
/-
  The cursor of the drawn inputs: what its calls answer lies within bounds, and its own block alone changes.
-/
namespace Go.Sd
open Go.RowKit Go.Deep
/-- A slice of bytes. -/
abbrev BytR : World → Value → List Int → Prop := SlOf (ValR (Value.int .u8))
theorem BytR.frame : Framed BytR := SlOf.frame fun _ _ _ _ h _ => h
theorem BytR.cellsB {w : World} {v : Value} {xs : List Int} (h : BytR w v xs) : ∃ a c, v = .slice a xs.length c ∧ (0 < xs.length → ∃ b o, a = some ⟨b, o, none⟩ ∧ b < w.heap.size ∧ ∀ i, i < xs.length → w.cell? ⟨b, o + i, none⟩ = some (.int .u8 (xs.getD i 0))) := by
  obtain ⟨a, c, rfl, -, -, hx⟩ := h.shape
  refine ⟨a, c, rfl, fun h0 => ?_⟩
  obtain ⟨b, o, rfl, hb, hc⟩ := hx h0
  refine ⟨b, o, rfl, hb, fun i hi => ?_⟩
  obtain ⟨u, hu, hux⟩ := hc i _ (List.getElem?_eq_getElem hi)
  rw [hu, show u = .int .u8 xs[i] from hux]
  simp [List.getD, hi]
end Go.Sd
namespace Go.Proofs.Ytlkgkfgpnnahdaa
open Go.RowKit Go.Deep Go.Sd
set_option linter.unusedSimpArgs false
theorem i64_and255 (n : Int) : bits .and .i64 n 255 = n % 256 := by
  have h1 : (BitVec.ofInt 64 255).toNat = 2 ^ 8 - 1 := by decide
  have key : (BitVec.ofInt 64 n &&& BitVec.ofInt 64 255).toNat = (n % ((2 ^ 64 : Nat) : Int)).toNat % 2 ^ 8 := by
    rw [BitVec.toNat_and, BitVec.toNat_ofInt, h1, Nat.and_two_pow_sub_one_eq_mod]
  show IntKind.i64.wrap ((BitVec.ofInt 64 n &&& BitVec.ofInt 64 255).toNat : Nat) = n % 256
  rw [key, IntKind.wrap_i64]
  omega
set_option maxHeartbeats 1000000 in
set_option maxRecDepth 100000 in
theorem l1New_c {w : World} {vc : Value} {xs : List Int} (h : BytR w vc xs) :
    Calls Try.prog 88 #[vc] w fun e w' => e = .returned (.pointer (some ⟨w.heap.size, 0, none⟩)) ∧ (∃ hh : Int, Sep w.heap.size w' [Res.box w.heap.size [vc, .int .i64 0, .int .i64 hh]]) ∧ Below w.heap.size w w' := by
  have hlen := h.len
  obtain ⟨a, c, rfl, hcell⟩ := h.cellsB
  obtain ⟨n, hn⟩ : ∃ n, n = xs.length := ⟨_, rfl⟩
  rw [← hn] at hcell hlen ⊢
  clear h hn
  obtain ⟨M, hM⟩ : ∃ M, M = min n 4000 := ⟨_, rfl⟩
  have hM1 : M ≤ n := by omega
  have hM2 : M ≤ 4000 := by omega
  have hM3 : M = n ∨ M = 4000 := by omega
  clear hM
  go_enter Try.func88, Try.ntmps88
  go_wp2
  go_loopg [3, 4] M (fun g v i wr => ∃ (k : Nat) (H : Int), v = .int .i64 H ∧ i = .int .i64 k ∧ k + g = M ∧ wr = w)
  case atStart => exact ⟨0, _, rfl, rfl, by omega, rfl⟩
  case round =>
    obtain ⟨k, H, rfl, rfl, hk, rfl⟩ := hrel
    by_cases hkM : k < M
    · obtain ⟨g, rfl⟩ : ∃ x, gk = x + 1 := ⟨gk - 1, by omega⟩
      have h1 : (k : Int) < (n : Int) := by omega
      have h2 : (k : Int) < 4000 := by omega
      obtain ⟨b, o, rfl, hb, hc⟩ := hcell (by omega)
      have gx := hc k (by omega)
      clear hc hcell
      go_wp2
      go_roundg g
      case measure => omega
      case rel => exact ⟨k + 1, _, rfl, by go_num, by omega, rfl⟩
    · have hend : ¬ ((k : Int) < (n : Int)) ∨ ((k : Int) < (n : Int) ∧ ¬ ((k : Int) < 4000)) := by omega
      have hs := Lib.hid ((Sep.nil wr.heap.size wr).boxNew (Nat.le_refl _) [.slice a n c, .int .i64 0, .int .i64 H] 146)
      have hb := Lib.hid ((Below.refl wr.heap.size wr).alloc (Nat.le_refl _) (.cells #[.slice a n c, .int .i64 0, .int .i64 H] 146))
      clear hcell
      rcases hend with h1 | ⟨h1, h2⟩
      · go_wp2
        go_ret
        exact ⟨rfl, ⟨H, hs.out⟩, hb.out⟩
      · go_wp2
        go_ret
        exact ⟨rfl, ⟨H, hs.out⟩, hb.out⟩
/-- The cursor: its block apart from other own things. -/
def Cur (lo : Nat) (w : World) (cb : Nat) (K : Value) (n : Nat) (rs : List Res) : Prop := ∃ (i : Nat) (h : Int), i ≤ n ∧ Sep lo w (Res.box cb [K, .int .i64 i, .int .i64 h] :: rs)
/-- A call that draws a number. -/
def DrawsN (lo : Nat) (w : World) (cb : Nat) (K : Value) (n : Nat) (rs : List Res) (B : Nat) (e : Ending) (w' : World) : Prop := ∃ x : Nat, e = .returned (.int .i64 x) ∧ x < B ∧ Cur lo w' cb K n rs ∧ Below lo w w' ∧ Off [cb] w w'
set_option maxHeartbeats 1000000 in
set_option maxRecDepth 100000 in
theorem l1Byte_c {lo : Nat} {w : World} {cb : Nat} {K : Value} {xs : List Int} {rs : List Res} (hK : ∀ w', Below lo w w' → BytR w' K xs) (hc : Cur lo w cb K xs.length rs) (hlo : lo ≤ w.heap.size) :
    Calls Try.prog 166 #[.pointer (some ⟨cb, 0, none⟩)] w (DrawsN lo w cb K xs.length rs 256) := by
  obtain ⟨i, h, hi, hs⟩ := hc
  have hlen := (hK w (Below.refl _ _)).len
  obtain ⟨hlb, mb, hcb⟩ := hs.headBox
  have c0 := (hcb 0 _ rfl).1
  have c1 := (hcb 1 _ rfl).1
  have c2 := (hcb 2 _ rfl).1
  have f2 := (hcb 2 _ rfl).2
  obtain ⟨a, c, rfl, -⟩ := (hK w (Below.refl _ _)).cellsB
  have HS := Lib.hid hs
  have HK := Lib.hid hK
  clear hs hcb hK
  go_enter Try.func166, Try.ntmps166
  go_wp2
  obtain ⟨H, hH⟩ : ∃ H : Int, H = wrap64 (wrap64 (h * 6364136223846793005) + 1442695040888963407) := ⟨_, rfl⟩
  rw [← hH]
  clear hH
  have hs1 := HS.out.boxStore hlo (j := 2) rfl (.int .i64 H)
  have hb1 := Lib.hid ((Below.refl lo w).setCell (p := ⟨cb, 2, none⟩) hlb (.int .i64 H))
  have ho1 := Lib.hid (Off.setCell (F := [cb]) (w := w) (p := ⟨cb, 2, none⟩) (by simp) (.int .i64 H))
  obtain ⟨w1, e1⟩ : ∃ x, x = w.setCell ⟨cb, 2, none⟩ (.int .i64 H) := ⟨_, rfl⟩
  rw [← e1] at hs1 hb1 ho1 ⊢
  obtain ⟨-, mb1, hcb⟩ := hs1.headBox
  have g0 : w1.cell? ⟨cb, 0, none⟩ = some (.slice a xs.length c) := (hcb 0 _ rfl).1
  have g1 : w1.cell? ⟨cb, 1, none⟩ = some (.int .i64 i) := (hcb 1 _ rfl).1
  have g2 : w1.cell? ⟨cb, 2, none⟩ = some (.int .i64 H) := (hcb 2 _ rfl).1
  have k1 : w1.frozen? ⟨cb, 1, none⟩ = false := (hcb 1 _ rfl).2
  have HS1 := Lib.hid (show Sep lo w1 (Res.box cb [.slice a xs.length c, .int .i64 i, .int .i64 H] :: rs) from hs1)
  have hlo1 : lo ≤ w1.heap.size := Nat.le_trans hlo hb1.out.size
  have HK1 := Lib.hid (HK.out w1 hb1.out)
  clear hs1 hcb c0 c1 c2 f2 e1 HS mb
  go_quiet (fail)
  go_wp2
  rw [i64_and255]
  generalize bits BinOp.xor IntKind.i64 (H / 8589934592) (H / 35184372088832) = X
  obtain ⟨Y, hY, hY2⟩ : ∃ Y : Nat, X % 256 = (Y : Int) ∧ Y < 256 := ⟨(X % 256).toNat, by omega, by omega⟩
  rw [hY]
  clear hY
  have hlo2 := hlo1
  by_cases hin : i < xs.length
  · have h1 : (i : Int) < (xs.length : Int) := by omega
    obtain ⟨a', c', hv, hcell⟩ := HK1.out.cellsB
    simp only [Value.slice.injEq] at hv
    obtain ⟨rfl, -, rfl⟩ := hv
    obtain ⟨b, o, rfl, hb, hcx⟩ := hcell (by omega)
    have gx := hcx i hin
    generalize xs.getD i 0 = x at gx
    clear hcx hcell
    go_quiet (fail)
    go_wp2
    go_quiet (fail)
    go_wp2
    rw [i64_and255]
    generalize wrap64 ((Y : Int) + wrap64 x) = Z0
    obtain ⟨Z, hZ, hZ2⟩ : ∃ Z : Nat, Z0 % 256 = (Z : Int) ∧ Z < 256 := ⟨(Z0 % 256).toNat, by omega, by omega⟩
    rw [hZ]
    have hd := fun N => below_drewN (Below.refl lo w1) N
    have hst := fun N => (HS1.out.below (below_drewN (Below.refl w1.heap.size w1) N) (Nat.le_refl _)).boxStore (by simpa using hlo1) (j := 1) rfl (.int .i64 ((i : Int) + 1))
    go_ret
    exact ⟨Z, rfl, hZ2, ⟨i + 1, H, by omega, hst _⟩, (hb1.out.trans (hd _)).setCell (p := ⟨cb, 1, none⟩) hlb _, (ho1.out.trans (Off.of_below (below_drewN (Below.refl w1.heap.size w1) _))).trans (Off.setCell (p := ⟨cb, 1, none⟩) (by simp) _)⟩
  · have h1 : ¬ ((i : Int) < (xs.length : Int)) := by omega
    go_quiet (fail)
    go_wp2
    go_ret
    exact ⟨Y, rfl, hY2, ⟨i, H, hi, HS1.out.below (below_drewN (Below.refl w1.heap.size w1) _) (Nat.le_refl _)⟩, hb1.out.trans (below_drewN (Below.refl lo w1) _), ho1.out.trans (Off.of_below (below_drewN (Below.refl w1.heap.size w1) _))⟩
set_option maxHeartbeats 1000000 in
set_option maxRecDepth 100000 in
theorem l1Below_c {lo : Nat} {w : World} {cb : Nat} {K : Value} {xs : List Int} {rs : List Res} {N : Nat} (hK : ∀ w', Below lo w w' → BytR w' K xs) (hc : Cur lo w cb K xs.length rs) (hlo : lo ≤ w.heap.size) (hN : 1 ≤ N) (hN2 : N ≤ 256) :
    Calls Try.prog 92 #[.pointer (some ⟨cb, 0, none⟩), .int .i64 N] w (DrawsN lo w cb K xs.length rs N) := by
  have HB := Lib.hid (l1Byte_c hK hc hlo)
  have h0 : ¬ ((N : Int) ≤ 0) := by omega
  have h1 : (N : Int) ≤ 256 := by omega
  have h2 : (0 : Int) < (N : Int) := by omega
  have h3 : ¬ ((N : Int) = 0) := by omega
  clear hK hc
  go_enter Try.func92, Try.ntmps92
  go_wp2_with fail
  (with_reducible refine HB.out.mono ?_)
  rintro e w1 ⟨x, rfl, hx, hc, hb, ho⟩
  have HO := Lib.hid ho
  clear ho
  have HC := Lib.hid hc
  have HBl := Lib.hid hb
  have hmod : (x : Int) % (N : Int) = ((x % N : Nat) : Int) := by omega
  have hlt : x % N < N := Nat.mod_lt _ (by omega)
  clear hc hb HB
  go_wp2
  go_ret
  exact ⟨x % N, by rw [show ((x % N : Nat) : Int) = (x : Int) % (N : Int) from hmod.symm]; rfl, hlt, HC.out, HBl.out, HO.out⟩
set_option maxHeartbeats 1000000 in
theorem l1Below_zero {w : World} {cb : Nat} {N : Int} (h : N ≤ 0) :
    Calls Try.prog 92 #[.pointer (some ⟨cb, 0, none⟩), .int .i64 N] w fun e w' => e = .returned (.int .i64 0) ∧ w' = w := by
  go_enter Try.func92, Try.ntmps92
  go_wp2
  go_ret
  exact ⟨rfl, rfl⟩
set_option maxHeartbeats 1000000 in
set_option maxRecDepth 100000 in
theorem l1Once_c {lo : Nat} {w : World} {cb : Nat} {K : Value} {xs : List Int} {rs : List Res} {N : Nat} (hK : ∀ w', Below lo w w' → BytR w' K xs) (hc : Cur lo w cb K xs.length rs) (hlo : lo ≤ w.heap.size) (hN : 1 ≤ N) (hN2 : N ≤ 256) :
    Calls Try.prog 91 #[.pointer (some ⟨cb, 0, none⟩), .int .i64 N] w fun e w' => ∃ b : Bool, e = .returned (.bool b) ∧ Cur lo w' cb K xs.length rs ∧ Below lo w w' ∧ Off [cb] w w' := by
  have HB := Lib.hid (l1Below_c hK hc hlo hN hN2)
  clear hK hc
  go_enter Try.func91, Try.ntmps91
  go_wp2_with fail
  (with_reducible refine HB.out.mono ?_)
  rintro e w1 ⟨x, rfl, hx, hc, hb, ho⟩
  have HO := Lib.hid ho
  clear ho
  have HC := Lib.hid hc
  have HBl := Lib.hid hb
  clear hc hb HB
  go_wp2
  go_ret
  exact ⟨_, rfl, HC.out, HBl.out, HO.out⟩
theorem Cur.perm {lo : Nat} {w : World} {cb : Nat} {K : Value} {n : Nat} {rs ss : List Res} (h : Cur lo w cb K n rs) (hp : rs.Perm ss) : Cur lo w cb K n ss := by
  obtain ⟨i, x, hi, hs⟩ := h
  exact ⟨i, x, hi, hs.perm (hp.cons _)⟩
theorem Cur.rest {lo : Nat} {w : World} {cb : Nat} {K : Value} {n : Nat} {r : Res} {rs : List Res} (h : Cur lo w cb K n (r :: rs)) : Cur lo w cb K n rs := by
  obtain ⟨i, x, hi, hs⟩ := h
  exact ⟨i, x, hi, hs.swap.tail⟩
theorem Cur.out {lo : Nat} {w : World} {cb : Nat} {K : Value} {n : Nat} {rs : List Res} (h : Cur lo w cb K n rs) : Sep lo w rs := by
  obtain ⟨i, x, hi, hs⟩ := h
  exact hs.tail
/-- What is made besides. -/
theorem Cur.new {α : Type} {R : OwnRel α} (hR : Held R) {lo : Nat} {w w' : World} {cb : Nat} {K : Value} {n : Nat} {rs : List Res} (h : Cur lo w cb K n rs) (hb : Below w.heap.size w w') (hlo : lo ≤ w.heap.size) {v : Value} {x : α} (hn : New R w.heap.size w' v x) : Cur lo w' cb K n (Res.of R hR v x :: rs) := by
  obtain ⟨i, z, hi, hs⟩ := h
  exact ⟨i, z, hi, (hs.new hR hb hlo hn).swap⟩
theorem Cur.box {lo : Nat} {w : World} {cb : Nat} {K : Value} {n : Nat} {rs : List Res} (h : Cur lo w cb K n rs) (hlo : lo ≤ w.heap.size) (vs : List Value) (ty : TypeId) : Cur lo (w.alloc (.cells vs.toArray ty)) cb K n (Res.box w.heap.size vs :: rs) := by
  obtain ⟨i, z, hi, hs⟩ := h
  exact ⟨i, z, hi, (hs.boxNew hlo vs ty).swap⟩
theorem Cur.below {lo : Nat} {w w' : World} {cb : Nat} {K : Value} {n : Nat} {rs : List Res} (h : Cur lo w cb K n rs) (hb : Below w.heap.size w w') : Cur lo w' cb K n rs := by
  obtain ⟨i, z, hi, hs⟩ := h
  exact ⟨i, z, hi, hs.below hb (Nat.le_refl _)⟩
set_option maxHeartbeats 1000000 in
set_option maxRecDepth 100000 in
theorem l1PickInt_c {lo : Nat} {w : World} {cb bl : Nat} {K : Value} {xs : List Int} {rs : List Res} {ls : List Int} {c : Nat} (hK : ∀ w', Below lo w w' → BytR w' K xs) (hc : Cur lo w cb K xs.length (Res.box bl (ls.map (Value.int .i64)) :: rs)) (hlo : lo ≤ w.heap.size) (hN : 1 ≤ ls.length) (hN2 : ls.length ≤ 256) :
    Calls Try.prog 104 #[.pointer (some ⟨cb, 0, none⟩), .slice (some ⟨bl, 0, none⟩) ls.length c] w fun e w' => ∃ x : Int, e = .returned (.int .i64 x) ∧ x ∈ ls ∧ Cur lo w' cb K xs.length (Res.box bl (ls.map (Value.int .i64)) :: rs) ∧ Below lo w w' ∧ Off [cb] w w' := by
  have HB := Lib.hid (l1Below_c hK hc hlo hN hN2)
  obtain ⟨N, hNe⟩ : ∃ N, N = ls.length := ⟨_, rfl⟩
  have HNe := Lib.hid hNe
  rw [← hNe] at HB ⊢
  clear hK hc hN hN2 hNe
  go_enter Try.func104, Try.ntmps104
  go_wp2_with fail
  (with_reducible refine HB.out.mono ?_)
  rintro e w1 ⟨x, rfl, hx, hc, hb, ho⟩
  have HO := Lib.hid ho
  clear ho
  have hcell := (hc.out.headBox).2.2 x (.int .i64 (ls[x]'(by have := HNe.out; omega))) (by rw [List.getElem?_map, List.getElem?_eq_getElem (by have := HNe.out; omega)]; rfl)
  have g0 := hcell.1
  have Hm := Lib.hid (List.getElem_mem (l := ls) (n := x) (by have := HNe.out; omega))
  generalize ls[x]'(by have := HNe.out; omega) = y at g0 Hm
  have hxi : (x : Int) < (N : Int) := by omega
  have HC := Lib.hid hc
  have HBl := Lib.hid hb
  clear hc hb HB hcell
  go_wp2
  go_ret
  exact ⟨y, rfl, Hm.out, HC.out, HBl.out, HO.out⟩
set_option maxHeartbeats 1000000 in
set_option maxRecDepth 100000 in
theorem l1Pick_c {lo : Nat} {w : World} {cb bl : Nat} {K : Value} {xs : List Int} {rs : List Res} {ls : List ByteArray} {c : Nat} (hK : ∀ w', Below lo w w' → BytR w' K xs) (hc : Cur lo w cb K xs.length (Res.box bl (ls.map Value.string) :: rs)) (hlo : lo ≤ w.heap.size) (hN : 1 ≤ ls.length) (hN2 : ls.length ≤ 256) :
    Calls Try.prog 205 #[.pointer (some ⟨cb, 0, none⟩), .slice (some ⟨bl, 0, none⟩) ls.length c] w fun e w' => ∃ x : ByteArray, e = .returned (.string x) ∧ x ∈ ls ∧ Cur lo w' cb K xs.length (Res.box bl (ls.map Value.string) :: rs) ∧ Below lo w w' ∧ Off [cb] w w' := by
  have HB := Lib.hid (l1Below_c hK hc hlo hN hN2)
  obtain ⟨N, hNe⟩ : ∃ N, N = ls.length := ⟨_, rfl⟩
  have HNe := Lib.hid hNe
  rw [← hNe] at HB ⊢
  clear hK hc hN hN2 hNe
  go_enter Try.func205, Try.ntmps205
  go_wp2_with fail
  (with_reducible refine HB.out.mono ?_)
  rintro e w1 ⟨x, rfl, hx, hc, hb, ho⟩
  have HO := Lib.hid ho
  clear ho
  have hcell := (hc.out.headBox).2.2 x (.string (ls[x]'(by have := HNe.out; omega))) (by rw [List.getElem?_map, List.getElem?_eq_getElem (by have := HNe.out; omega)]; rfl)
  have g0 := hcell.1
  have Hm := Lib.hid (List.getElem_mem (l := ls) (n := x) (by have := HNe.out; omega))
  generalize ls[x]'(by have := HNe.out; omega) = y at g0 Hm
  have hxi : (x : Int) < (N : Int) := by omega
  have HC := Lib.hid hc
  have HBl := Lib.hid hb
  clear hc hb HB hcell
  go_wp2
  go_ret
  exact ⟨y, rfl, Hm.out, HC.out, HBl.out, HO.out⟩
theorem l1Below_i {lo : Nat} {w : World} {cb : Nat} {K : Value} {xs : List Int} {rs : List Res} {z : Int} (hK : ∀ w', Below lo w w' → BytR w' K xs) (hc : Cur lo w cb K xs.length rs) (hlo : lo ≤ w.heap.size) (hN : 1 ≤ z) (hN2 : z ≤ 256) :
    Calls Try.prog 92 #[.pointer (some ⟨cb, 0, none⟩), .int .i64 z] w (DrawsN lo w cb K xs.length rs z.toNat) := by
  obtain ⟨N, rfl⟩ := Int.eq_ofNat_of_zero_le (show 0 ≤ z by omega)
  exact l1Below_c hK hc hlo (by omega) (by omega)
theorem l1Once_i {lo : Nat} {w : World} {cb : Nat} {K : Value} {xs : List Int} {rs : List Res} {z : Int} (hK : ∀ w', Below lo w w' → BytR w' K xs) (hc : Cur lo w cb K xs.length rs) (hlo : lo ≤ w.heap.size) (hN : 1 ≤ z) (hN2 : z ≤ 256) :
    Calls Try.prog 91 #[.pointer (some ⟨cb, 0, none⟩), .int .i64 z] w fun e w' => ∃ b : Bool, e = .returned (.bool b) ∧ Cur lo w' cb K xs.length rs ∧ Below lo w w' ∧ Off [cb] w w' := by
  obtain ⟨N, rfl⟩ := Int.eq_ofNat_of_zero_le (show 0 ≤ z by omega)
  exact l1Once_c hK hc hlo (by omega) (by omega)
end Go.Proofs.Ytlkgkfgpnnahdaa
end

section
/-
  Words of letters, both sides.
-/
namespace Go.Proofs.Ytlkgkfgpnnahdaa
open Go.RowKit Go.Deep Go.Sd

def letB (k : Int) : List UInt8 → Bool
  | [] => true
  | c :: l => if 97 ≤ c.toNat ∧ (c.toNat : Int) - 97 < k then letB k l else false
def wordM (k : Int) (s : ByteArray) : Bool := decide (1 ≤ k ∧ k ≤ 3) && (decide (s.size ≤ 16) && letB k s.data.toList)
theorem str_len (s : ByteArray) : s.data.toList.length = s.size := by show s.data.toList.length = s.data.size; exact Array.length_toList
theorem str_drop (s : ByteArray) (k : Nat) (h : k < s.size) : s.data.toList.drop k = s[k] :: s.data.toList.drop (k + 1) := by
  have h1 : k < s.data.toList.length := by rw [str_len]; exact h
  rw [List.drop_eq_getElem_cons h1]
  rfl
theorem str_end (s : ByteArray) (k : Nat) (h : ¬ k < s.size) : s.data.toList.drop k = [] := List.drop_eq_nil_of_le (by rw [str_len]; omega)
/-- The letters of a text. -/
def lets (l : List UInt8) : List Int := l.map fun c => (c.toNat : Int) - 97
theorem byte_lt (c : UInt8) : c.toNat < 256 := c.toNat_lt

theorem isLetters_w (k : Int) (w : World) : Calls Try.prog 188 #[.int .i64 k] w fun e w' => e = .returned (.bool (decide (1 ≤ k ∧ k ≤ 3))) ∧ w = w' := by
  by_cases h1 : 1 ≤ k
  · by_cases h2 : k ≤ 3
    · have H := Lib.hid (show decide (1 ≤ k ∧ k ≤ 3) = true from decide_eq_true ⟨h1, h2⟩)
      generalize decide (1 ≤ k ∧ k ≤ 3) = T at H ⊢
      go_enter Try.func188, Try.ntmps188
      go_wp2
      go_ret
      exact ⟨by rw [H.out]; rfl, rfl⟩
    · have H := Lib.hid (show decide (1 ≤ k ∧ k ≤ 3) = false from decide_eq_false (by omega))
      generalize decide (1 ≤ k ∧ k ≤ 3) = T at H ⊢
      go_enter Try.func188, Try.ntmps188
      go_wp2
      go_ret
      exact ⟨by rw [H.out]; rfl, rfl⟩
  · have H := Lib.hid (show decide (1 ≤ k ∧ k ≤ 3) = false from decide_eq_false (by omega))
    generalize decide (1 ≤ k ∧ k ≤ 3) = T at H ⊢
    go_enter Try.func188, Try.ntmps188
    go_wp2
    go_ret
    exact ⟨by rw [H.out]; rfl, rfl⟩
set_option maxHeartbeats 1000000 in
theorem areLetters_c (k : Int) (s : ByteArray) (w : World) (hs : s.size ≤ maxLen) :
    Calls Try.prog 243 #[.int .i64 k, .string s] w fun e w' => e = .returned (.bool (letB k s.data.toList)) ∧ w = w' := by
  unfold maxLen at hs
  have H0 := Lib.hid (show letB k s.data.toList = letB k (s.data.toList.drop 0) from rfl)
  generalize letB k s.data.toList = T at H0 ⊢
  go_enter Try.func243, Try.ntmps243
  go_wp2
  go_loopg [8] (s.size) (fun g i wr => ∃ (j : Nat), i = .int .i64 j ∧ j + g = s.size ∧ Hid (T = letB k (s.data.toList.drop j)) ∧ w = wr)
  case atStart => exact ⟨0, rfl, by omega, H0, rfl⟩
  case round =>
    obtain ⟨j, rfl, hj, HK, rfl⟩ := hrel
    by_cases hlt : j < s.size
    · have HK1 := Lib.hid (show T = if 97 ≤ s[j].toNat ∧ (s[j].toNat : Int) - 97 < k then letB k (s.data.toList.drop (j + 1)) else false from by rw [HK.out, str_drop s j hlt]; rfl)
      have hc := byte_lt s[j]
      clear HK H0
      by_cases h1 : 97 ≤ s[j].toNat
      · by_cases h2 : (s[j].toNat : Int) - 97 < k
        · have HK2 := Lib.hid (show T = letB k (s.data.toList.drop (j + 1)) from by rw [HK1.out, if_pos ⟨h1, h2⟩])
          clear HK1
          go_wp2
          go_roundg (s.size - (j + 1))
          case measure => omega
          case rel => exact ⟨j + 1, by go_num, by omega, HK2, rfl⟩
        · have HK2 := Lib.hid (show T = false from by rw [HK1.out, if_neg (fun h => h2 h.2)])
          clear HK1
          go_wp2
          go_ret
          exact ⟨by rw [HK2.out]; rfl, rfl⟩
      · have HK2 := Lib.hid (show T = false from by rw [HK1.out, if_neg (fun h => h1 h.1)])
        clear HK1
        go_wp2
        go_ret
        exact ⟨by rw [HK2.out]; rfl, rfl⟩
    · have HF := Lib.hid (show T = true from by rw [HK.out, str_end s j hlt]; rfl)
      clear HK H0
      go_wp2
      go_ret
      exact ⟨by rw [HF.out]; rfl, rfl⟩
set_option maxHeartbeats 1000000 in
theorem spec_IsWord_c (k : Int) (s : ByteArray) (w : World) (hs : s.size ≤ maxLen) :
    Calls Try.prog 192 #[.int .i64 k, .string s] w fun e w' => e = .returned (.bool (wordM k s)) ∧ w = w' := by
  unfold maxLen at hs
  have Hl := Lib.hid (fun w => (show Calls Try.prog 100 #[.int .i64 k, .int .i64 1, .int .i64 3] w fun e w' => e = .returned (.bool (decide (1 ≤ k ∧ k ≤ 3))) ∧ w = w' from by rw [Bool.decide_and]; exact l1In_c k 1 3 w))
  have H0 := Lib.hid (show wordM k s = (letB k (s.data.toList.drop 0) && (decide (1 ≤ k ∧ k ≤ 3) && decide (s.size ≤ 16))) from by
    show (decide (1 ≤ k ∧ k ≤ 3) && (decide (s.size ≤ 16) && letB k s.data.toList)) = (letB k s.data.toList && (decide (1 ≤ k ∧ k ≤ 3) && decide (s.size ≤ 16)))
    cases letB k s.data.toList <;> simp)
  generalize wordM k s = T at H0 ⊢
  generalize decide (1 ≤ k ∧ k ≤ 3) = kb at H0 Hl
  go_enter Try.func192, Try.ntmps192
  go_wp2
  go_loopg [5] (s.size) (fun g i wr => ∃ (j : Nat), i = .int .i64 j ∧ j + g = s.size ∧ Hid (T = (letB k (s.data.toList.drop j) && (kb && decide (s.size ≤ 16)))) ∧ w = wr)
  case atStart => exact ⟨0, rfl, by omega, H0, rfl⟩
  case round =>
    obtain ⟨j, rfl, hj, HK, rfl⟩ := hrel
    by_cases hlt : j < s.size
    · have HK1 := Lib.hid (show T = ((if 97 ≤ s[j].toNat ∧ (s[j].toNat : Int) - 97 < k then letB k (s.data.toList.drop (j + 1)) else false) && (kb && decide (s.size ≤ 16))) from by rw [HK.out, str_drop s j hlt]; rfl)
      have hc := byte_lt s[j]
      clear HK H0
      by_cases h1 : 97 ≤ s[j].toNat
      · by_cases h2 : (s[j].toNat : Int) - 97 < k
        · have HK2 := Lib.hid (show T = (letB k (s.data.toList.drop (j + 1)) && (kb && decide (s.size ≤ 16))) from by rw [HK1.out, if_pos ⟨h1, h2⟩])
          clear HK1
          go_wp2
          go_roundg (s.size - (j + 1))
          case measure => omega
          case rel => exact ⟨j + 1, by go_num, by omega, HK2, rfl⟩
        · have HK2 := Lib.hid (show T = false from by rw [HK1.out, if_neg (fun h => h2 h.2)]; rfl)
          clear HK1
          go_wp2
          go_ret
          exact ⟨by rw [HK2.out]; rfl, rfl⟩
      · have HK2 := Lib.hid (show T = false from by rw [HK1.out, if_neg (fun h => h1 h.1)]; rfl)
        clear HK1
        go_wp2
        go_ret
        exact ⟨by rw [HK2.out]; rfl, rfl⟩
    · have HF := Lib.hid (show T = (kb && decide (s.size ≤ 16)) from by rw [HK.out, str_end s j hlt]; rfl)
      clear HK H0
      cases kb with
      | false =>
        go_wp2_with fail
        refine (Hl.out _).mono ?_
        rintro e w' ⟨rfl, rfl⟩
        go_wp2
        go_ret
        exact ⟨by rw [HF.out]; rfl, rfl⟩
      | true =>
        by_cases h16 : s.size ≤ 16
        · have HG := Lib.hid (show T = true from by rw [HF.out, decide_eq_true h16]; rfl)
          have d16 : decide ((s.size : Int) ≤ 16) = true := decide_eq_true (by omega)
          go_wp2_with fail
          refine (Hl.out _).mono ?_
          rintro e w' ⟨rfl, rfl⟩
          go_wp2
          go_ret
          exact ⟨by rw [HG.out]; rfl, rfl⟩
        · have HG := Lib.hid (show T = false from by rw [HF.out, decide_eq_false h16]; rfl)
          have d16 : decide ((s.size : Int) ≤ 16) = false := decide_eq_false (by omega)
          go_wp2_with fail
          refine (Hl.out _).mono ?_
          rintro e w' ⟨rfl, rfl⟩
          go_wp2
          go_ret
          exact ⟨by rw [HG.out]; rfl, rfl⟩
end Go.Proofs.Ytlkgkfgpnnahdaa
end

section
/-
  Texts parted at a byte (the reference's).
-/
namespace Go.Proofs.Ytlkgkfgpnnahdaa
open Go.RowKit Go.Deep Go.Sd
set_option linter.unusedSimpArgs false
theorem slVal_kept {α : Type} {f : α → Value} (hf : ∀ x, (f x).oneCell' = true) : Kept (OValR f) := ⟨fun _ _ _ _ _ h _ => h, fun _ _ _ _ h b hb => by rw [h.2] at hb; simp at hb, fun _ _ _ _ h => by rw [h.1]; exact hf _⟩
theorem infoTx : (Try.prog.info? 9).map (fun i => (i.zero, i.size, i.bytes)) = some (some (.string ⟨#[]⟩), 1, 16) := by kernel_rfl
abbrev OTxt : OwnRel (List ByteArray) := OwnOf 9 (OValR Value.string)
theorem OTxt.kept : Kept OTxt := OwnOf.kept (slVal_kept fun _ => rfl)
abbrev TxtR : World → Value → List ByteArray → Prop := SlOf (ValR Value.string)
theorem New.txt {lo : Nat} {w : World} {v : Value} {xs : List ByteArray} (h : New OTxt lo w v xs) : TxtR w v xs := by obtain ⟨F, hF, _⟩ := h; exact OwnOf.reads (fun _ _ _ _ h => h.1) hF
theorem TxtR.frame : Framed TxtR := SlOf.frame (fun _ _ _ _ h _ => h)
def splitL (s : ByteArray) (c : Nat) : Nat → Nat → Nat → List ByteArray
  | 0, _, _ => []
  | g + 1, f, i => if h : i < s.size then (if s[i].toNat = c then s.extract f i :: splitL s c g (i + 1) (i + 1) else splitL s c g f (i + 1)) else s.extract f i :: splitL s c g (i + 1) (i + 1)
def splitB (s : ByteArray) (c : Nat) : List ByteArray := splitL s c (s.size + 1) 0 0
set_option maxHeartbeats 1000000 in
set_option maxRecDepth 100000 in
theorem SplitByte_c {w : World} {s : ByteArray} {c : Nat} (hs : s.size ≤ 1000) (hc : c < 256) :
    Calls Try.prog 233 #[.string s, .int .u8 c] w (Makes OTxt w (splitB s c)) := by
  have H0 := Lib.hid (show ([] : List ByteArray) ++ splitL s c (s.size + 1) 0 0 = splitB s c from rfl)
  generalize splitB s c = R at H0 ⊢
  have HN0 := Lib.hid (New.empty (e := 9) (R := OValR Value.string) w (Nat.le_refl w.heap.size))
  have HB0 := Lib.hid ((Below.refl w.heap.size w).alloc (Nat.le_refl _) (.cells #[] 9))
  go_enter Try.func233, Try.ntmps233
  go_wp2
  go_loopg [5, 6, 7] (s.size + 1) (fun g v fv iv wr => ∃ (f i : Nat) (L : List ByteArray), fv = .int .i64 f ∧ iv = .int .i64 i ∧ i + g = s.size + 1 ∧ f ≤ i ∧ L.length ≤ i ∧ Hid (L ++ splitL s c g f i = R) ∧ Hid (New OTxt w.heap.size wr v L) ∧ Hid (Below w.heap.size w wr))
  case atStart => exact ⟨0, 0, [], rfl, rfl, by omega, by omega, by simp, H0, HN0, HB0⟩
  case round =>
    clear H0 HN0 HB0
    obtain ⟨f, i, L, rfl, rfl, hi, hf, hL, HR, Hn, Hb⟩ := hrel
    obtain ⟨wk, rfl⟩ : ∃ x, x = wr := ⟨_, rfl⟩
    have hle := Hb.out.size
    obtain ⟨oa, oc, rfl, -⟩ := (New.txt Hn.out).shape
    by_cases hg : 0 < gk
    · obtain ⟨g, hgk⟩ : ∃ g, gk = g + 1 := ⟨gk - 1, by omega⟩
      subst hgk
      have hii : (i : Int) ≤ (s.size : Int) := by omega
      by_cases his : i < s.size
      · have hne : ((i : Int) == (s.size : Int)) = false := by simp; omega
        have hsi : (i : Int) < (s.size : Int) := by omega
        by_cases hcc : s[i].toNat = c
        · have t1 : ((s[i].toNat : Int) == (c : Int)) = true := by simp [hcc]
          have HR2 := Lib.hid (show (L ++ [s.extract f i]) ++ splitL s c g (i + 1) (i + 1) = R from by have h := HR.out; rw [splitL, dif_pos his, if_pos hcc] at h; rw [List.append_assoc]; exact h)
          clear HR hcc
          go_wp2_with (at_builtin; refine wpl_push (w0 := wk) (lo := w.heap.size) (y := s.extract f i) (slVal_kept fun _ => rfl) rfl (.tmp 26) (.tmp 31) 68 rfl 9 (.string ⟨#[]⟩) 16 Try.underlying68 infoTx rfl Hn.out hle ((Below.refl _ _).alloc (Nat.le_refl _) _) ⟨[], ⟨rfl, rfl⟩, by simp [Fresh]⟩ (bb := wk.heap.size) (c := 1) (by simp) rfl rfl (by omega) (by omega) ?_; intro v3 w3 hn3 _ _ hb3; have Hn3 := Lib.hid hn3; have Hb3 := Lib.hid hb3; clear hn3 hb3)
          go_roundg g
          case measure => omega
          case rel => exact ⟨i + 1, i + 1, _, by go_num, by go_num, by omega, by omega, by simp; omega, HR2, Hn3, Lib.hid (Hb.out.trans Hb3.out)⟩
        · have t1 : ((s[i].toNat : Int) == (c : Int)) = false := by simp; omega
          have HR2 := Lib.hid (show L ++ splitL s c g f (i + 1) = R from by have h := HR.out; rw [splitL, dif_pos his, if_neg hcc] at h; exact h)
          clear HR hcc
          go_wp2
          go_roundg g
          case measure => omega
          case rel => exact ⟨f, i + 1, L, rfl, by go_num, by omega, by omega, by omega, HR2, Hn, Hb⟩
      · have hie : i = s.size := by omega
        have heq : ((i : Int) == (s.size : Int)) = true := by simp [hie]
        have HR2 := Lib.hid (show (L ++ [s.extract f i]) ++ splitL s c g (i + 1) (i + 1) = R from by have h := HR.out; rw [splitL, dif_neg his] at h; rw [List.append_assoc]; exact h)
        clear HR hie
        go_wp2_with (at_builtin; refine wpl_push (w0 := wk) (lo := w.heap.size) (y := s.extract f i) (slVal_kept fun _ => rfl) rfl (.tmp 26) (.tmp 31) 68 rfl 9 (.string ⟨#[]⟩) 16 Try.underlying68 infoTx rfl Hn.out hle ((Below.refl _ _).alloc (Nat.le_refl _) _) ⟨[], ⟨rfl, rfl⟩, by simp [Fresh]⟩ (bb := wk.heap.size) (c := 1) (by simp) rfl rfl (by omega) (by omega) ?_; intro v3 w3 hn3 _ _ hb3; have Hn3 := Lib.hid hn3; have Hb3 := Lib.hid hb3; clear hn3 hb3)
        go_roundg g
        case measure => omega
        case rel => exact ⟨i + 1, i + 1, _, by go_num, by go_num, by omega, by omega, by simp; omega, HR2, Hn3, Lib.hid (Hb.out.trans Hb3.out)⟩
    · obtain rfl : gk = 0 := by omega
      have hii : ¬ ((i : Int) ≤ (s.size : Int)) := by omega
      have HF := Lib.hid (show L = R from by have h := HR.out; rw [splitL, List.append_nil] at h; exact h)
      clear HR
      go_wp2
      go_ret
      exact ⟨_, rfl, by rw [← HF.out]; exact Hn.out, Hb.out⟩
end Go.Proofs.Ytlkgkfgpnnahdaa
end
