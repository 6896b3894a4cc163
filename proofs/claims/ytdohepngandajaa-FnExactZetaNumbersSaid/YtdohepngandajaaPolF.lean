/-
  The characteristic polynomial, the program's; a polynomial without zeros at its end, both sides.
-/
import Derived.Test.YtdohepngandajaaPolE
import Derived.Test.YtdohepngandajaaSepK
import Derived.Test.YtdohepngandajaaPairLib
namespace Go.Sd
open Go.RowKit Go.Deep
/-- A number of the first of some own things: its cell, and what a store leaves. -/
theorem Sep.intSet {e : TypeId} {lo : Nat} {w : World} {v : Value} {xs : List Int} {rs : List Res} (h : Sep lo w (Res.of (OInts e) (OInts.kept e).held v xs :: rs)) {i : Nat} {x : Int} (hx : xs[i]? = some x) :
    ∃ b c, v = .slice (some ⟨b, 0, none⟩) xs.length c ∧ lo ≤ b ∧ b < w.heap.size ∧ w.cell? ⟨b, i, none⟩ = some (.int .i64 x) ∧ w.frozen? ⟨b, i, none⟩ = false ∧
      ∀ y, Sep lo (w.setCell ⟨b, i, none⟩ (.int .i64 y)) (Res.of (OInts e) (OInts.kept e).held v (xs.set i y) :: rs) := by
  obtain ⟨F, ⟨G, H, rfl, h1, h2⟩, hn, hge⟩ := h
  have hnd := List.nodup_append.1 hn
  obtain ⟨b, c, u, G1, hv, hc, hbF, hbG, hcell, hfr, ⟨rfl, rfl⟩, _, _, _, hst⟩ := OwnOf.focus OIntR.kept h1 hnd.1 hx
  refine ⟨b, c, hv, hge b (List.mem_append_left _ hbF), (OInts.kept e).lt _ _ _ _ h1 b hbF, hcell, hfr, fun y => ?_⟩
  obtain ⟨F', hF', hsub, hn', -⟩ := hst w (.int .i64 y) y [] ⟨rfl, rfl⟩ (by simp) (fun _ _ _ => rfl)
  have hsub' : ∀ q, q ∈ F' → q ∈ G := fun q hq => (hsub q hq).elim id (by simp)
  refine ⟨F' ++ H, ⟨F', H, rfl, hF', h2.keep fun q hq => Below.heap_setCell _ _ _ _ fun e => ?_⟩, List.nodup_append.2 ⟨hn' (by simp) (by simp), hnd.2.1, fun p hp q hq => hnd.2.2 p (hsub' p hp) q hq⟩, fun q hq => ?_⟩
  · have e2 : q = b := e
    subst e2
    exact hnd.2.2 q hbF q hq rfl
  · rcases List.mem_append.1 hq with hq | hq
    · exact hge q (List.mem_append_left _ (hsub' q hq))
    · exact hge q (List.mem_append_right _ hq)
/-- The beginning of an own slice. -/
theorem New.pre {e : TypeId} {lo : Nat} {w : World} {b n c : Nat} {xs : List Int} (h : New (OInts e) lo w (.slice (some ⟨b, 0, none⟩) n c) xs) {k : Nat} (hk : k ≤ xs.length) : New (OInts e) lo w (.slice (some ⟨b, 0, none⟩) k c) (xs.take k) := by
  obtain ⟨F, ⟨us, Fs, ⟨hul, hor⟩, hFl, hr, rfl⟩, hnd, hge⟩ := h
  rcases hor with ⟨h0, _⟩ | ⟨g, cap, cur, hv, hg, hh, hnc, hcm, hcs, htake⟩
  · cases h0
  simp only [Value.slice.injEq, Option.some.injEq, Addr.mk.injEq] at hv
  obtain ⟨⟨rfl, -, -⟩, rfl, rfl⟩ := hv
  have hFs : ∀ G, G ∈ Fs → G = [] := fun G hG => by
    obtain ⟨j, hj⟩ := List.getElem?_of_mem hG
    have hj1 : j < Fs.length := (List.getElem?_eq_some_iff.1 hj).1
    exact (hr j us[j] xs[j] G (List.getElem?_eq_getElem (by omega)) (List.getElem?_eq_getElem (by omega)) hj).2
  have hfl : Fs.flatten = [] := List.flatten_eq_nil_iff.2 hFs
  have hfl2 : (Fs.take k).flatten = [] := List.flatten_eq_nil_iff.2 fun G hG => hFs G (List.mem_of_mem_take hG)
  refine ⟨_, ⟨us.take k, Fs.take k, ⟨by simp; omega, .inr ⟨b, c, cur, by simp; omega, hg, hh, by simp; omega, hcm, hcs, ?_⟩⟩, by simp; omega, ?_, rfl⟩, ?_, ?_⟩
  · rw [← htake, List.take_take, List.length_take]
    congr 1
    omega
  · intro i u x G hu hx hG
    rw [List.getElem?_take] at hu hx hG
    split at hu
    · rename_i hi
      rw [if_pos hi] at hx hG
      exact hr i u x G hu hx hG
    · cases hu
  · rw [hfl2]; simp [Value.ownBlock]
  · intro q hq
    rw [hfl2] at hq
    have e : q = b := by simpa [Value.ownBlock] using hq
    rw [e]
    exact hge b (List.mem_append_left _ (by simp [Value.ownBlock]))
end Go.Sd
namespace Go.Proofs.Ytdohepngandajaa
open Go.RowKit Go.Deep Go.Sd
set_option linter.unusedSimpArgs false
theorem cutN_succ (p : List Int) (n : Nat) : cutN p (n + 1) = if p.getD n 0 = 0 then cutN p n else n + 1 := rfl
def csum (m : List (List Int)) (k : Nat) (ls : List (List Int)) : Nat → Int
  | 0 => 0
  | j + 1 => csum m k ls j + sgn k * detP m (ls.getD j [])
theorem csum_pre (m : List (List Int)) (k : Nat) (ls rs : List (List Int)) : ∀ j, j ≤ ls.length → csum m k (ls ++ rs) j = csum m k ls j
  | 0, _ => rfl
  | j + 1, h => by
    have e : (ls ++ rs).getD j [] = ls.getD j [] := by simp [List.getD, List.getElem?_append_left (show j < ls.length by omega)]
    rw [csum, csum, csum_pre m k ls rs j (by omega), e]
theorem csum_full (m : List (List Int)) (n k : Nat) : ∀ s, csum m k (chL n k s) (chL n k s).length = sgn k * minS m n k s
  | 0 => by simp [chL, csum, minS]
  | s + 1 => by
    have ih := csum_full m n k s
    by_cases h : (subL s n).length = k
    · rw [chL_yes h, minS_yes h, List.length_append, List.length_singleton, csum, csum_pre m k _ _ _ (Nat.le_refl _), ih]
      have e : (chL n k s ++ [subL s n]).getD (chL n k s).length [] = subL s n := by simp [List.getD]
      rw [e, Int.mul_add]
    · rw [chL_no h, minS_no h, ih]
theorem csum_bd {m : List (List Int)} {n k : Nat} {ls : List (List Int)} (hs : Sq n m) (hn : n ≤ 4) (h : Bd 9 m) (hl : ∀ l, l ∈ ls → l.length ≤ n ∧ ∀ x, x ∈ l → 0 ≤ x ∧ x < (n : Int)) : ∀ j, j ≤ ls.length → -((j : Int) * 157464) ≤ csum m k ls j ∧ csum m k ls j ≤ (j : Int) * 157464
  | 0, _ => by simp [csum]
  | j + 1, hj => by
    have h1 := csum_bd (k := k) hs hn h hl j (by omega)
    have e : ls.getD j [] = ls[j] := by simp [List.getD, show j < ls.length by omega]
    have hm := hl ls[j] (List.getElem_mem _)
    have h2 := detP_bd hs hn h hm.2 hm.1
    have h3 := detB_mono ls[j].length
    have h4 := sgn_mul_bd k (B := 157464) (x := detP m ls[j]) (by omega)
    rw [csum, e]
    omega
/-- The numbers of the polynomial while the k-th one is summed up. -/
def stR (m : List (List Int)) (n k : Nat) (q : Int) : List Int := rowOf' (n + 1) (fun i => if n < k + i then coef m n (n - i) else if i + k = n then q else 0)
def charL (m : List (List Int)) (n : Nat) : List Int := rowOf' (n + 1) (fun i => coef m n (n - i))
theorem stR_len (m : List (List Int)) (n k : Nat) (q : Int) : (stR m n k q).length = n + 1 := rowOf_len _ _
theorem stR_start (m : List (List Int)) (n : Nat) : stR m n 0 0 = List.replicate (n + 1) 0 := by
  unfold stR
  apply List.ext_getElem?
  intro i
  by_cases h : i < n + 1
  · rw [rowOf_at h, List.getElem?_replicate, if_pos h, if_neg (by omega)]
    split <;> rfl
  · rw [List.getElem?_eq_none (by rw [rowOf_len]; omega), List.getElem?_eq_none (by simp; omega)]
theorem stR_at (m : List (List Int)) {n k r : Nat} (q : Int) (h : r + k = n) : (stR m n k q)[r]? = some q := by
  unfold stR
  rw [rowOf_at (by omega), if_neg (by omega), if_pos h]
theorem stR_set (m : List (List Int)) {n k r : Nat} (q y : Int) (h : r + k = n) : (stR m n k q).set r y = stR m n k y := by
  unfold stR
  apply List.ext_getElem?
  intro i
  by_cases hi : i < n + 1
  · rw [rowOf_at hi]
    by_cases e : i = r
    · subst e
      rw [List.getElem?_set_self (by rw [rowOf_len]; exact hi), if_neg (by omega), if_pos h]
    · rw [List.getElem?_set_ne (Ne.symm e), rowOf_at hi]
      split
      · rfl
      · rw [if_neg (by omega), if_neg (by omega)]
  · rw [List.getElem?_eq_none (by rw [List.length_set, rowOf_len]; omega), List.getElem?_eq_none (by rw [rowOf_len]; omega)]
theorem stR_next (m : List (List Int)) {n k : Nat} (hk : k ≤ n) : stR m n k (coef m n k) = stR m n (k + 1) 0 := by
  unfold stR
  refine rowOf_congr fun i hi => ?_
  by_cases h : n < k + i
  · rw [if_pos h, if_pos (by omega)]
  · rw [if_neg h]
    by_cases e : i + k = n
    · rw [if_pos e, if_pos (show n < k + 1 + i by omega), show n - i = k by omega]
    · rw [if_neg e, if_neg (show ¬ n < k + 1 + i by omega)]
      split <;> rfl
theorem stR_end (m : List (List Int)) (n : Nat) : stR m n (n + 1) 0 = charL m n := by
  unfold stR charL
  exact rowOf_congr fun i _ => by rw [if_pos (by omega)]
theorem OIntR.zero3 : ∀ w : World, OIntR w (.int .i64 0) 0 [] := fun _ => ⟨rfl, rfl⟩
abbrev ResI (v : Value) (xs : List Int) : Res := Res.of (OInts 3) (OInts.kept _).held v xs
abbrev ResT (v : Value) (M : List (List Int)) : Res := Res.of (OTab 3 50) (OTab.kept _ _).held v M
set_option maxHeartbeats 2000000 in
set_option maxRecDepth 100000 in
theorem charPoly_c {w : World} {va : Value} {m : List (List Int)} {n : Nat} (h : Tab w va m) (hsq : Sq n m) (hn : n ≤ 4) (hbd : Bd 9 m) :
    Calls Try.prog 170 #[va] w (Makes (OInts 3) w (charL m n)) := by
  have HT := Lib.hid h
  have Hch := Lib.hid (fun w1 k => choices_c (w := w1) (n := n) (k := k) hn)
  have Hcb := Lib.hid (fun (k s : Nat) => csum_bd (k := k) (ls := chL n k s) hsq hn hbd (fun l hl => by
    obtain ⟨-, t, rfl⟩ := chL_mem n k s l hl
    exact ⟨subL_len t n, fun x hx => subL_mem hx⟩))
  have Hmem := Lib.hid (fun (k s : Nat) (l : List Int) (hl : l ∈ chL n k s) => (show (l.length ≤ n ∧ ∀ x, x ∈ l → 0 ≤ x ∧ x < (n : Int)) from by
    obtain ⟨-, t, rfl⟩ := chL_mem n k s l hl
    exact ⟨subL_len t n, fun x hx => subL_mem hx⟩))
  have HDb := Lib.hid (fun (l : List Int) (hl : l.length ≤ n ∧ ∀ x, x ∈ l → 0 ≤ x ∧ x < (n : Int)) => (show -157464 ≤ detP m l ∧ detP m l ≤ 157464 from by
    have h2 := detP_bd hsq hn hbd hl.2 hl.1
    have h3 := detB_mono l.length
    omega))
  have HC := Lib.hid (fun (w1 : World) (vl : Value) (l : List Int) (hb : Below w.heap.size w w1) (hl : Ints w1 vl l) (hm : l.length ≤ n ∧ ∀ x, x ∈ l → 0 ≤ x ∧ x < (n : Int)) => picked_c (Tab.frame _ _ _ _ h hb) hsq (by omega) hl hm.2 (by omega))
  have HD := Lib.hid (fun (w1 : World) (v : Value) (l : List Int) (hm : l.length ≤ n ∧ ∀ x, x ∈ l → 0 ≤ x ∧ x < (n : Int)) (h1 : Tab w1 v (partT m l)) => (show Calls Try.prog 204 #[v] w1 (fun e w' => e = .returned (.int .i64 (detP m l)) ∧ Below w1.heap.size w1 w') from impl_det_c _ (by omega) h1 (partT_sq m _) (partT_bd hsq hbd hm.2)))
  obtain ⟨va0, vc0, rfl, -⟩ := h.shape
  rw [hsq.1] at HC ⊢
  have hP16 := pow16 hn
  clear h hsq hbd
  go_enter Try.func170, Try.ntmps170
  go_wp2_with (at_make; refine wpl_make (R := OIntR) rfl (.tmp 12) (.tmp 12) 50 rfl 3 (.int .i64 0) 8 Try.underlying50 infoI rfl (n + 1) (by rfl) (by rfl) (by omega) (by omega) OIntR.zero3 ?_; intro wm hzm hnm hbm; have Hnm := Lib.hid hnm; have Hbm := Lib.hid hbm; clear hnm hbm hzm)
  obtain ⟨vo, hvo⟩ : ∃ v : Value, v = .slice (some ⟨w.heap.size, 0, none⟩) (n + 1) (n + 1) := ⟨_, rfl⟩
  have Hvo := Lib.hid hvo
  have HS0 := Lib.hid (show Sep w.heap.size wm (ResI vo (stR m n 0 0) :: []) from by rw [hvo, stR_start]; exact Sep.one (OInts.kept _).held Hnm.out)
  clear hvo Hnm
  go_loopg [5, 6] (n + 1) (fun g sg i wr => ∃ (k : Nat) (s : Int), sg = .int .i64 s ∧ i = .int .i64 k ∧ k + g = n + 1 ∧ Hid (s = sgn k) ∧ Hid (Sep w.heap.size wr (ResI vo (stR m n k 0) :: [])) ∧ Hid (Below w.heap.size w wr))
  case atStart => exact ⟨0, 1, rfl, rfl, by omega, Lib.hid rfl, HS0, Hbm⟩
  case round =>
    clear HS0 Hbm
    obtain ⟨k, s, rfl, rfl, hk, Hs, HS, Hb⟩ := hrel
    obtain ⟨wo, rfl⟩ : ∃ x, x = wr := ⟨_, rfl⟩
    have hle := Hb.out.size
    by_cases hkn : k ≤ n
    · have hki : (k : Int) ≤ (n : Int) := by omega
      obtain ⟨g, rfl⟩ : ∃ x, gk = x + 1 := ⟨gk - 1, by omega⟩
      have hsb : s = 1 ∨ s = -1 := by rw [Hs.out]; exact sgn_bd k
      have hsb2 : -1 ≤ s ∧ s ≤ 1 := by omega
      have hneg : IntKind.i64.wrap (-s) = -s := IntWalk.i64_in _ (by omega)
      have HSg := Lib.hid (show -s = sgn (k + 1) from by rw [sgn_next, Hs.out])
      have Hchk := Lib.hid (Hch.out wo k)
      have Hcsb := Lib.hid (Hcb.out k (2 ^ n))
      have Hmk := Lib.hid (Hmem.out k (2 ^ n))
      have HF := Lib.hid (show csum m k (chL n k (2 ^ n)) (chL n k (2 ^ n)).length = coef m n k from csum_full m n k (2 ^ n))
      have hll := Lib.hid (show (chL n k (2 ^ n)).length ≤ 16 from by have := chL_len n k (2 ^ n); omega)
      generalize chL n k (2 ^ n) = ls at Hchk Hcsb Hmk HF hll
      clear hsb
      go_wp2_with fail
      (with_reducible refine Hchk.out.mono ?_)
      rintro e wl ⟨vl, rfl, hnl, hbl⟩
      obtain ⟨la, lc, rfl, -⟩ := (New.tab hnl).shape
      have HSl := Lib.hid (HS.out.new (OTab.kept 3 50).held hbl hle hnl).swap
      have HBl := Lib.hid (Hb.out.trans (hbl.mono hle))
      obtain ⟨N, hN⟩ : ∃ N, N = ls.length := ⟨_, rfl⟩
      have HN := Lib.hid hN
      rw [← hN] at HSl hll ⊢
      clear hN hnl hbl HS Hb Hchk
      go_wp2
      go_loopg [23] N (fun g2 jj wr2 => ∃ (j : Nat), jj = .int .i64 j ∧ j + g2 = N ∧ Hid (Sep w.heap.size wr2 (ResI vo (stR m n k (csum m k ls j)) :: ResT (.slice la N lc) ls :: [])) ∧ Hid (Below w.heap.size w wr2))
      case atStart => exact ⟨0, rfl, by omega, HSl, HBl⟩
      case round =>
        clear HSl HBl
        obtain ⟨j, rfl, hj, HSi, HBi⟩ := hrel
        obtain ⟨wi, rfl⟩ : ∃ x, x = wr := ⟨_, rfl⟩
        have hzi := HBi.out.size
        by_cases hjn : j < N
        · have hji : (j : Int) < (N : Int) := by omega
          obtain ⟨g2, rfl⟩ : ∃ x, gk = x + 1 := ⟨gk - 1, by omega⟩
          obtain ⟨l, hl, -⟩ := at_lt (xs := ls) (k := j) (by have := HN.out; omega)
          obtain ⟨b, o, c, ra, rc, hv, hbw, gl, hri⟩ := (New.tab HSi.out.swap.headNew).rowOf hl
          simp only [Value.slice.injEq] at hv
          obtain ⟨rfl, -, rfl⟩ := hv
          have hm := Hmk.out l (List.mem_of_getElem? hl)
          obtain ⟨r, hr⟩ : ∃ r, r + k = n := ⟨n - k, by omega⟩
          obtain ⟨q, hq⟩ : ∃ q, q = csum m k ls j := ⟨_, rfl⟩
          have hqb := Hcsb.out j (by have := HN.out; omega)
          rw [← hq] at HSi hqb
          have HQ := Lib.hid (show csum m k ls (j + 1) = q + s * detP m l from by rw [csum, ← hq, Hs.out]; simp [List.getD, hl])
          have hdb := HDb.out l hm
          have HDl := Lib.hid (fun w1 v h => HD.out w1 v l hm h)
          have HCl := Lib.hid (fun w1 vl hb hl => HC.out w1 vl l hb hl hm)
          generalize detP m l = D at HQ hdb HDl
          have hp1 : -157464 ≤ s * D ∧ s * D ≤ 157464 := by
            have := prod_bd (X := 1) (Y := 157464) hsb2 hdb
            omega
          have hllo := hll.out
          have hq2 : -2519424 ≤ q ∧ q ≤ 2519424 := by omega
          have hw1 : IntKind.i64.wrap (s * D) = s * D := IntWalk.i64_in _ (by omega)
          have hw2 : IntKind.i64.wrap (q + s * D) = q + s * D := IntWalk.i64_in _ (by omega)
          have hw0 : IntKind.i64.wrap ((n : Int) - (k : Int)) = (r : Int) := by rw [IntWalk.i64_in _ (by omega)]; omega
          have hrn : (r : Int) < (n : Int) + 1 := by omega
          have hrn2 : r < n + 1 := by omega
          obtain ⟨bo, co, hvb, hbo1, hbo2, gq, gf, hst⟩ := HSi.out.intSet (stR_at m q hr)
          rw [stR_len] at hvb
          have hvo := Hvo.out
          rw [hvo] at hvb
          simp only [Value.slice.injEq, Option.some.injEq, Addr.mk.injEq] at hvb
          obtain ⟨⟨rfl, -, -⟩, -, rfl⟩ := hvb
          have HRi := Lib.hid hri
          have Hst := Lib.hid (fun (w2 : World) (hb : Below wi.heap.size wi w2) => (show w2.frozen? ⟨w.heap.size, r, none⟩ = false ∧ Sep w.heap.size (w2.setCell ⟨w.heap.size, r, none⟩ (.int .i64 (q + s * D))) (ResI vo (stR m n k (csum m k ls (j + 1))) :: ResT (.slice (some ⟨b, o, none⟩) N lc) ls :: []) from by
            have h2 := HSi.out.below hb (Nat.le_refl _)
            obtain ⟨b2, c2, hv2, -, -, -, f2, s2⟩ := h2.intSet (stR_at m q hr)
            rw [stR_len, Hvo.out] at hv2
            simp only [Value.slice.injEq, Option.some.injEq, Addr.mk.injEq] at hv2
            obtain ⟨⟨rfl, -, -⟩, -, -⟩ := hv2
            refine ⟨f2, ?_⟩
            have h3 := s2 (q + s * D)
            rw [stR_set m q _ hr] at h3
            rw [HQ.out]
            exact h3))
          generalize l.length = ll at *
          have hSd : wi.drew.cell? ⟨w.heap.size, r, none⟩ = some (.int .i64 q) := gq
          have Hvk := Lib.hid hvo.symm
          have HSc := Lib.hid (fun (w2 : World) (hb : Below wi.heap.size wi w2) => (hb.cell (p := ⟨w.heap.size, r, none⟩) hbo2).trans gq)
          have HB1 := Lib.hid (show Below wi.heap.size wi wi.drew from (Below.refl _ _).drew)
          have HCw := Lib.hid (HCl.out wi.drew _ (HBi.out.trans (HB1.out.mono hzi)) (Ints.frame _ _ _ _ HRi.out HB1.out))
          clear hst hri hl hm hdb hqb hq2 hq hsb2 hneg hr HSi HD HC HDb hvo gf hp1
          go_wp2
          refine wp_region_L (fun w' => w'.cell? ⟨w.heap.size, r, none⟩ = some (.int .i64 q)) (by kernel_rfl) ?_
          refine wpAnyL_take 0 (v := ?_) rfl (by kernel_rfl) (by kernel_rfl) (by kernel_rfl) (by kernel_rfl) (fun _ _ _ h => h) (Or.inl ⟨by rfl, ?_⟩) hSd ?_
          rotate_left
          · (intro w hSw; (try dsimp only at hSw); go_simp) <;> (try with_reducible rfl)
          try simp only [Act.put, List.getElem_toArray, List.getElem_cons_zero, List.getElem_cons_succ, List.setIfInBounds_toArray, List.set_cons_zero, List.set_cons_succ]
          refine wpAnyL_take 1 (v := ?_) rfl (by kernel_rfl) (by kernel_rfl) (by kernel_rfl) (by kernel_rfl) (fun _ _ _ h => h) (Or.inl ⟨by rfl, ?_⟩) hSd ?_
          rotate_left
          · (intro w hSw; (try dsimp only at hSw); go_simp) <;> (try with_reducible rfl)
          try simp only [Act.put, List.getElem_toArray, List.getElem_cons_zero, List.getElem_cons_succ, List.setIfInBounds_toArray, List.set_cons_zero, List.set_cons_succ]
          refine wpAnyL_take 2 (v := ?_) rfl (by kernel_rfl) (by kernel_rfl) (by kernel_rfl) (by kernel_rfl) (fun _ _ _ h => h) (Or.inl ⟨by rfl, ?_⟩) hSd ?_
          rotate_left
          · (intro w hSw; (try dsimp only at hSw); go_simp) <;> (try with_reducible rfl)
          try simp only [Act.put, List.getElem_toArray, List.getElem_cons_zero, List.getElem_cons_succ, List.setIfInBounds_toArray, List.set_cons_zero, List.set_cons_succ]
          refine wpAnyL_take 3 (v := ?_) rfl (by kernel_rfl) (by kernel_rfl) (by kernel_rfl) (by kernel_rfl) (fun _ _ _ h => h) (Or.inl ⟨by rfl, ?_⟩) hSd ?_
          rotate_left
          · (intro w hSw; (try dsimp only at hSw); go_simp) <;> (try with_reducible rfl)
          try simp only [Act.put, List.getElem_toArray, List.getElem_cons_zero, List.getElem_cons_succ, List.setIfInBounds_toArray, List.set_cons_zero, List.set_cons_succ]
          refine wpAnyL_take 4 (v := ?_) rfl (by kernel_rfl) (by kernel_rfl) (by kernel_rfl) (by kernel_rfl) (fun _ _ _ h => h) (Or.inl ⟨by rfl, ?_⟩) hSd ?_
          rotate_left
          · (intro w hSw; (try dsimp only at hSw); go_simp) <;> (try with_reducible rfl)
          try simp only [Act.put, List.getElem_toArray, List.getElem_cons_zero, List.getElem_cons_succ, List.setIfInBounds_toArray, List.set_cons_zero, List.set_cons_succ]
          refine wpAnyL_take 5 (v := ?_) rfl (by kernel_rfl) (by kernel_rfl) (by kernel_rfl) (by kernel_rfl) (fun _ _ _ h => h) (Or.inl ⟨by rfl, ?_⟩) hSd ?_
          rotate_left
          · (intro w hSw; (try dsimp only at hSw); go_simp) <;> (try with_reducible rfl)
          try simp only [Act.put, List.getElem_toArray, List.getElem_cons_zero, List.getElem_cons_succ, List.setIfInBounds_toArray, List.set_cons_zero, List.set_cons_succ]
          refine wpAnyL_take 6 (v := ?_) rfl (by kernel_rfl) (by kernel_rfl) (by kernel_rfl) (by kernel_rfl) (fun _ _ _ h => h) (Or.inl ⟨by rfl, ?_⟩) hSd ?_
          rotate_left
          · (intro w hSw; (try dsimp only at hSw); go_simp) <;> (try with_reducible rfl)
          try simp only [Act.put, List.getElem_toArray, List.getElem_cons_zero, List.getElem_cons_succ, List.setIfInBounds_toArray, List.set_cons_zero, List.set_cons_succ]
          refine wpAnyL_take 7 (v := ?_) rfl (by kernel_rfl) (by kernel_rfl) (by kernel_rfl) (by kernel_rfl) (fun _ _ _ h => h) (Or.inl ⟨by rfl, ?_⟩) hSd ?_
          rotate_left
          · (intro w hSw; (try dsimp only at hSw); go_simp) <;> (try with_reducible rfl)
          try simp only [Act.put, List.getElem_toArray, List.getElem_cons_zero, List.getElem_cons_succ, List.setIfInBounds_toArray, List.set_cons_zero, List.set_cons_succ]
          refine wpAnyL_take 8 (v := ?_) rfl (by kernel_rfl) (by kernel_rfl) (by kernel_rfl) (by kernel_rfl) (fun _ _ _ h => h) (Or.inl ⟨by rfl, ?_⟩) hSd ?_
          rotate_left
          · (intro w hSw; (try dsimp only at hSw); go_simp) <;> (try with_reducible rfl)
          try simp only [Act.put, List.getElem_toArray, List.getElem_cons_zero, List.getElem_cons_succ, List.setIfInBounds_toArray, List.set_cons_zero, List.set_cons_succ]
          refine wpAnyL_one 9 (by kernel_rfl) rfl (fun K hK => ?_)
          go_simp
          (with_reducible refine HCw.out.mono ?_)
          rintro e w2 ⟨v2, rfl, hn2, hb2⟩
          have HB2 := Lib.hid (HB1.out.trans (hb2.mono HB1.out.size))
          have hS2 : w2.cell? ⟨w.heap.size, r, none⟩ = some (.int .i64 q) := HSc.out _ HB2.out
          have HDw := Lib.hid (HDl.out w2 v2 hn2.tab)
          clear hn2 hb2
          go_wp2_with fail
          refine hK.out _ _ (fun _ => hS2) ?_
          clear hK K
          try simp only [Act.put, List.getElem_toArray, List.getElem_cons_zero, List.getElem_cons_succ, List.setIfInBounds_toArray, List.set_cons_zero, List.set_cons_succ]
          refine wpAnyL_one 10 (by kernel_rfl) rfl (fun K hK => ?_)
          go_simp
          (with_reducible refine HDw.out.mono ?_)
          rintro e w3 ⟨rfl, hb3⟩
          have HB3 := Lib.hid (HB2.out.trans (hb3.mono HB2.out.size))
          have hS3 : w3.cell? ⟨w.heap.size, r, none⟩ = some (.int .i64 q) := HSc.out _ HB3.out
          have hf3 := (Hst.out w3 HB3.out).1
          clear hb3
          go_wp2_with fail
          refine hK.out _ _ (fun _ => hS3) ?_
          clear hK K
          try simp only [Act.put, List.getElem_toArray, List.getElem_cons_zero, List.getElem_cons_succ, List.setIfInBounds_toArray, List.set_cons_zero, List.set_cons_succ]
          refine wpAnyL_take 11 (v := ?_) rfl (by kernel_rfl) (by kernel_rfl) (by kernel_rfl) (by kernel_rfl) (fun _ _ _ h => h) (Or.inl ⟨by rfl, ?_⟩) hS3 ?_
          rotate_left
          · (intro w hSw; (try dsimp only at hSw); go_simp) <;> (try with_reducible rfl)
          try simp only [Act.put, List.getElem_toArray, List.getElem_cons_zero, List.getElem_cons_succ, List.setIfInBounds_toArray, List.set_cons_zero, List.set_cons_succ]
          refine wpAnyL_take 12 (v := ?_) rfl (by kernel_rfl) (by kernel_rfl) (by kernel_rfl) (by kernel_rfl) (fun _ _ _ h => h) (Or.inl ⟨by rfl, ?_⟩) hS3 ?_
          rotate_left
          · (intro w hSw; (try dsimp only at hSw); go_simp) <;> (try with_reducible rfl)
          try simp only [Act.put, List.getElem_toArray, List.getElem_cons_zero, List.getElem_cons_succ, List.setIfInBounds_toArray, List.set_cons_zero, List.set_cons_succ]
          refine wpAnyL_take 13 (v := ?_) rfl (by kernel_rfl) (by kernel_rfl) (by kernel_rfl) (by kernel_rfl) (fun _ _ _ h => h) (Or.inl ⟨by rfl, ?_⟩) hS3 ?_
          rotate_left
          · (intro w hSw; (try dsimp only at hSw); go_simp) <;> (try with_reducible rfl)
          try simp only [Act.put, List.getElem_toArray, List.getElem_cons_zero, List.getElem_cons_succ, List.setIfInBounds_toArray, List.set_cons_zero, List.set_cons_succ]
          refine wpAnyL_one 14 (by kernel_rfl) rfl (fun K hK => ?_)
          go_simp
          refine hK.out _ _ (fun h => absurd h (not_rem (by kernel_rfl))) ?_
          clear hK K
          try simp only [Act.put, List.getElem_toArray, List.getElem_cons_zero, List.getElem_cons_succ, List.setIfInBounds_toArray, List.set_cons_zero, List.set_cons_succ]
          refine wpAnyL_done (by kernel_rfl) ?_ _
          go_wp2
          go_roundg g2
          case measure => omega
          case rel => exact ⟨j + 1, by go_num, by omega, Lib.hid (Hst.out w3 HB3.out).2, Lib.hid ((HBi.out.trans (HB3.out.mono hzi)).setCell (p := ⟨w.heap.size, r, none⟩) (Nat.le_refl _) _)⟩
        · have hji : ¬ ((j : Int) < (N : Int)) := by omega
          have HSn := Lib.hid (show Sep w.heap.size wi (ResI vo (stR m n (k + 1) 0) :: []) from by
            have h := HSi.out.swap.tail
            rw [show j = ls.length from by have := HN.out; omega, HF.out, stR_next m hkn] at h
            exact h)
          clear HSi
          go_wp2
          go_roundg g
          case measure => omega
          case rel => exact ⟨k + 1, -s, rfl, by go_num, by omega, HSg, HSn, HBi⟩
    · have hki : ¬ ((k : Int) ≤ (n : Int)) := by omega
      have HR := Lib.hid (show New (OInts 3) w.heap.size wo (.slice (some ⟨w.heap.size, 0, none⟩) (n + 1) (n + 1)) (charL m n) from by
        have h := HS.out.headNew
        rw [show k = n + 1 from by omega, stR_end, Hvo.out] at h
        exact h)
      clear HS
      go_wp2
      go_ret
      exact ⟨_, rfl, HR.out, Hb.out⟩
set_option maxHeartbeats 1000000 in
set_option maxRecDepth 100000 in
theorem trimmed_c {w : World} {lo b n c : Nat} {p : List Int} (h : New (OInts 3) lo w (.slice (some ⟨b, 0, none⟩) n c) p) (hl : p.length ≤ 9) :
    Calls Try.prog 171 #[.slice (some ⟨b, 0, none⟩) n c] w fun e w' => ∃ r, e = .returned r ∧ New (OInts 3) lo w r (cutL p) ∧ w' = w := by
  obtain ⟨a', c', hv, hc1, hc2, -⟩ := (New.ints h).shape
  simp only [Value.slice.injEq] at hv
  obtain ⟨-, rfl, rfl⟩ := hv
  have HC := Lib.hid (fun i x (hx : p[i]? = some x) => (New.ints h).elOf hx)
  have HP := Lib.hid (fun k hk => h.pre (k := k) hk)
  have HR := Lib.hid (show cutL p = p.take (cutN p p.length) from rfl)
  generalize cutL p = R at HR ⊢
  obtain ⟨n, hn⟩ : ∃ n, n = p.length := ⟨_, rfl⟩
  have Hn := Lib.hid hn
  rw [← hn] at HP HR hc1 hl ⊢
  clear h hn
  have hnc : (n : Int) ≤ (c : Int) := by omega
  go_enter Try.func171, Try.ntmps171
  go_wp2
  go_loopg [3] n (fun g i wr => i = .int .i64 g ∧ g ≤ n ∧ Hid (R = p.take (cutN p g)) ∧ wr = w)
  case atStart => exact ⟨rfl, Nat.le_refl _, HR, rfl⟩
  case round =>
    clear HR
    obtain ⟨rfl, hg, HR, rfl⟩ := hrel
    by_cases h0 : 0 < gk
    · have h0i : (0 : Int) < (gk : Int) := by omega
      obtain ⟨g, hgk⟩ : ∃ g, gk = g + 1 := ⟨gk - 1, by omega⟩
      subst hgk
      obtain ⟨x, hx, -⟩ := at_lt (xs := p) (k := g) (by have := Hn.out; omega)
      obtain ⟨b2, o2, c2, hv, -, gc⟩ := HC.out g x hx
      simp only [Value.slice.injEq, Option.some.injEq, Addr.mk.injEq] at hv
      obtain ⟨⟨rfl, rfl, -⟩, -, -⟩ := hv
      rw [Nat.zero_add] at gc
      have hw1 : IntKind.i64.wrap ((g : Int) + 1 - 1) = (g : Int) := by rw [IntWalk.i64_in _ (by omega)]; omega
      have hw2 : wrap64 ((g : Int) + 1 - 1) = (g : Int) := by rw [IntWalk.wrap64_in _ (by omega)]; omega
      have hgi : (g : Int) < (n : Int) := by omega
      have HR1 := Lib.hid (show R = p.take (if x = 0 then cutN p g else g + 1) from by rw [HR.out, cutN_succ, show p.getD g 0 = x from by simp [List.getD, hx]])
      clear hx HR
      by_cases hx0 : x = 0
      · have t1 : (x == 0) = true := by simp [hx0]
        have HR2 := Lib.hid (show R = p.take (cutN p g) from by rw [HR1.out, if_pos hx0])
        clear hx0 HR1
        go_wp2
        go_roundg g
        case measure => omega
        case rel => exact ⟨by go_num, by omega, HR2, rfl⟩
      · have t1 : (x == 0) = false := by simp [hx0]
        have HR2 := Lib.hid (show R = p.take (g + 1) from by rw [HR1.out, if_neg hx0])
        have hgc : (g : Int) + 1 ≤ (c : Int) := by omega
        have hgc2 : g + 1 ≤ c := by omega
        have hg0 : (0 : Int) ≤ (g : Int) + 1 := by omega
        have hgt : ((g : Int) + 1).toNat = g + 1 := by omega
        clear hx0 HR1
        go_wp2
        go_ret
        exact ⟨_, rfl, by rw [HR2.out]; exact HP.out (g + 1) (by have := Hn.out; omega), rfl⟩
    · obtain rfl : gk = 0 := by omega
      have HR2 := Lib.hid (show R = p.take 0 from HR.out)
      clear HR
      go_wp2
      go_ret
      exact ⟨_, rfl, by rw [HR2.out]; exact HP.out 0 (Nat.zero_le _), rfl⟩
set_option maxHeartbeats 1000000 in
set_option maxRecDepth 100000 in
theorem l7Cut_c {w : World} {a : Option Addr} {n c : Nat} {p : List Int} (h : Ints w (.slice a n c) p) (hl : p.length ≤ 9) (h0 : 0 < p.length) :
    Calls Try.prog 169 #[.slice a n c] w (Makes (OInts 3) w (cutL p)) := by
  obtain ⟨a', c', hv, hc1, hc2, hx⟩ := h.shape
  simp only [Value.slice.injEq] at hv
  obtain ⟨rfl, rfl, rfl⟩ := hv
  obtain ⟨b, o, rfl, hb, hcell⟩ := hx h0
  have HC := Lib.hid (fun i x (hx : p[i]? = some x) => (show w.cell? ⟨b, o + i, none⟩ = some (.int .i64 x) from by obtain ⟨u, hu, hux⟩ := hcell i x hx; rw [hu, show u = .int .i64 x from hux]))
  have HP := Lib.hid (fun k (hk : k ≤ p.length) => (show Ints w (.slice (some ⟨b, o, none⟩) k c) (p.take k) from by
    have h1 := Ints.part (w := w) (b := b) (o := o) (l := p.length) (g := fun i => p.getD i 0) (fun j hj => HC.out j _ (by simp [List.getD, hj])) hb (s := 0) (len := k) (c := c) (by omega) (by omega) hc2
    have e : rowOf' k (fun t => p.getD (0 + t) 0) = p.take k := by
      apply List.ext_getElem?
      intro i
      by_cases hi : i < k
      · rw [rowOf_at hi, List.getElem?_take, if_pos hi, Nat.zero_add]
        simp [List.getD, show i < p.length by omega]
      · rw [List.getElem?_eq_none (by rw [rowOf_len]; omega), List.getElem?_eq_none (by simp; omega)]
    rw [e] at h1
    exact h1))
  have HR := Lib.hid (show cutL p = p.take (cutN p p.length) from rfl)
  generalize cutL p = R at HR ⊢
  obtain ⟨n, hn⟩ : ∃ n, n = p.length := ⟨_, rfl⟩
  have Hn := Lib.hid hn
  rw [← hn] at HP HR hc1 hl ⊢
  clear h hn hcell hx h0
  have hnc : (n : Int) ≤ (c : Int) := by omega
  go_enter Try.func169, Try.ntmps169
  go_wp2
  go_loopg [3] n (fun g i wr => i = .int .i64 g ∧ g ≤ n ∧ Hid (R = p.take (cutN p g)) ∧ wr = w)
  case atStart => exact ⟨rfl, Nat.le_refl _, HR, rfl⟩
  case round =>
    clear HR
    obtain ⟨rfl, hg, HR, rfl⟩ := hrel
    by_cases h0 : 0 < gk
    · have h0i : (0 : Int) < (gk : Int) := by omega
      obtain ⟨g, hgk⟩ : ∃ g, gk = g + 1 := ⟨gk - 1, by omega⟩
      subst hgk
      obtain ⟨x, hx, -⟩ := at_lt (xs := p) (k := g) (by have := Hn.out; omega)
      have gc := HC.out g x hx
      have hw1 : IntKind.i64.wrap ((g : Int) + 1 - 1) = (g : Int) := by rw [IntWalk.i64_in _ (by omega)]; omega
      have hw2 : wrap64 ((g : Int) + 1 - 1) = (g : Int) := by rw [IntWalk.wrap64_in _ (by omega)]; omega
      have hgi : (g : Int) < (n : Int) := by omega
      have HR1 := Lib.hid (show R = p.take (if x = 0 then cutN p g else g + 1) from by rw [HR.out, cutN_succ, show p.getD g 0 = x from by simp [List.getD, hx]])
      clear hx HR
      by_cases hx0 : x = 0
      · have t1 : (x == 0) = true := by simp [hx0]
        have HR2 := Lib.hid (show R = p.take (cutN p g) from by rw [HR1.out, if_pos hx0])
        clear hx0 HR1
        go_wp2
        go_roundg g
        case measure => omega
        case rel => exact ⟨by go_num, by omega, HR2, rfl⟩
      · have t1 : (x == 0) = false := by simp [hx0]
        have HR2 := Lib.hid (show R = p.take (g + 1) from by rw [HR1.out, if_neg hx0])
        have hgc : (g : Int) + 1 ≤ (c : Int) := by omega
        have hgc2 : g + 1 ≤ c := by omega
        have hg0 : (0 : Int) ≤ (g : Int) + 1 := by omega
        have hgt : ((g : Int) + 1).toNat = g + 1 := by omega
        have Hq := Lib.hid (HP.out (g + 1) (by have := Hn.out; omega))
        have Hql := Lib.hid (show (p.take (g + 1)).length ≤ 9 from by rw [List.length_take]; omega)
        clear hx0 HR1 HP HC
        go_wp2_with (at_builtin; refine wpl_append_vals (f := Value.int .i64) (fun _ => rfl) rfl (.tmp 18) (.tmp 21) 50 rfl 3 (.int .i64 0) 8 Try.underlying50 infoI rfl (New.empty (R := OValR (Value.int .i64)) (lo := wr.heap.size) wr (Nat.le_refl _)) (by simp) (Ints.frame _ _ _ _ Hq.out ((Below.refl _ _).alloc (Nat.le_refl _) _)) rfl rfl (by have := Hql.out; simp only [List.length_nil]; omega) (by have := Hql.out; simp only [List.length_nil]; omega) ?_; intro v1 w1 hn1 _ _ hb1; have Hn1 := Lib.hid hn1; have Hb1 := Lib.hid (((Below.refl wr.heap.size wr).alloc (Nat.le_refl _) _).trans hb1); clear hn1 hb1)
        go_ret
        exact ⟨_, rfl, by rw [HR2.out]; exact Hn1.out, Hb1.out⟩
    · obtain rfl : gk = 0 := by omega
      have HR2 := Lib.hid (show R = p.take 0 from HR.out)
      have Hq := Lib.hid (HP.out 0 (Nat.zero_le _))
      clear HR HP HC
      go_wp2_with (at_builtin; refine wpl_append_vals (f := Value.int .i64) (fun _ => rfl) rfl (.tmp 18) (.tmp 21) 50 rfl 3 (.int .i64 0) 8 Try.underlying50 infoI rfl (New.empty (R := OValR (Value.int .i64)) (lo := wr.heap.size) wr (Nat.le_refl _)) (by simp) (Ints.frame _ _ _ _ Hq.out ((Below.refl _ _).alloc (Nat.le_refl _) _)) rfl rfl (by simp) (by simp) ?_; intro v1 w1 hn1 _ _ hb1; have Hn1 := Lib.hid hn1; have Hb1 := Lib.hid (((Below.refl wr.heap.size wr).alloc (Nat.le_refl _) _).trans hb1); clear hn1 hb1)
      go_ret
      exact ⟨_, rfl, by rw [HR2.out]; exact Hn1.out, Hb1.out⟩
end Go.Proofs.Ytdohepngandajaa
