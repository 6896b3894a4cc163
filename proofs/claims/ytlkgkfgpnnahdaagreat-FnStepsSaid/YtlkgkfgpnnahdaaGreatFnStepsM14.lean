/-
  Texts of this claim joined: laws for its walks, contracts of the functions that the law reaches.
-/
import Derived.Test.YtlkgkfgpnnahdaaGreatRows
import Derived.Test.YtlkgkfgpnnahdaaGreatFnStepsM1
import Derived.Test.YtlkgkfgpnnahdaaGreatFnStepsM3
import Derived.Test.YtlkgkfgpnnahdaaGreatFnStepsM13
import Derived.Test.YtlkgkfgpnnahdaaGreatFnStepsM12
import Derived.Test.YtlkgkfgpnnahdaaGreatFnStepsM4
import Derived.Test.YtlkgkfgpnnahdaaGreatFnStepsM10
import Derived.IntWalk
import Derived.StillTailTactics
import Derived.Test.YtlkgkfgpnnahdaaGreatFnStepsM7
import Derived.Test.YtlkgkfgpnnahdaaGreatFnStepsM9
import Derived.OwnWalk
import Derived.Deep.RegionLaw
import Derived.WalkSpells
import Derived.Test.YtlkgkfgpnnahdaaGreatFnStepsM2
import Derived.Deep.RegionHeld3
import Derived.Deep.DeepCutAuto
section
/-
  FindStep's model: the tables with digits in base 3, the search.
-/
namespace Go.Proofs.YtlkgkfgpnnahdaaGreat
open Go.RowKit Go.Deep Go.Sd

def dig (n m : Nat) : Int := ((n / 3 ^ m % 3 : Nat) : Int)
theorem dig_bd (n m : Nat) : 0 ≤ dig n m ∧ dig n m ≤ 2 := by unfold dig; omega
def tabN (n p r : Nat) : Tb := tabOf p r (fun i j => dig n (p * r - 1 - i * r - j))
def tabsN (p r : Nat) : List Tb := (List.range (3 ^ (p * r))).map fun n => tabN n p r
def findS (P : Tb × Tb → Bool) (r : Tb) : List Tb → Option (Tb × Tb)
  | [] => none
  | s :: l => if P (r, s) = true then some (r, s) else findS P r l
def findR (P : Tb × Tb → Bool) (ss : List Tb) : List Tb → Option (Tb × Tb)
  | [] => none
  | r :: l => match findS P r ss with
    | some x => some x
    | none => findR P ss l
def findOk (a b : Tb) : Bool := isMat a && (isMat b && (decide (a.length ≤ 2) && decide (b.length ≤ 2)))
def findV (a b : Tb) : Option (Tb × Tb) := if findOk a b = true then findR (stepM a b) (tabsN b.length a.length) (tabsN a.length b.length) else none
def found (o : Option (Tb × Tb)) : Tb × Tb := o.getD ([], [])

theorem tabN_len (n p r : Nat) : (tabN n p r).length = p := tabOf_len _ _ _
theorem tabN_row {n p r : Nat} {x : List Int} (h : x ∈ tabN n p r) : x.length = r := mem_tabOf h
theorem tabN_bd {n p r : Nat} {x : List Int} (h : x ∈ tabN n p r) {y : Int} (hy : y ∈ x) : 0 ≤ y ∧ y ≤ 2 := by
  obtain ⟨i, _, rfl⟩ := List.mem_map.1 h
  obtain ⟨j, _, rfl⟩ := List.mem_map.1 hy
  exact dig_bd _ _
theorem tabN_Bd (n p r : Nat) : Bd 1000000 (tabN n p r) := fun x hx y hy => by have := tabN_bd hx hy; omega
theorem tabN_head {n p r : Nat} (hp : 0 < p) : ((tabN n p r).headD []).length = r := by
  have hl := tabN_len n p r
  cases h : tabN n p r with
  | nil => rw [h] at hl; simp at hl; omega
  | cons x xs => exact tabN_row (n := n) (p := p) (by rw [h]; simp)
theorem tabN_count (n p r : Nat) : countM (tabN n p r) = true := by
  unfold countM
  simp only [List.all_eq_true]
  intro x hx y hy
  have := tabN_bd hx hy
  unfold nnOk
  exact decide_eq_true (by omega)
theorem tabN_tab {n p r : Nat} (hp : 0 < p) (hp9 : p ≤ 9) (hr : 0 < r) (hr9 : r ≤ 9) : isTab r (tabN n p r) = true := by
  unfold isTab
  rw [tabN_len]
  simp only [Bool.and_eq_true, decide_eq_true_eq, List.all_eq_true]
  refine ⟨by omega, fun x hx => ?_⟩
  rw [tabRow_yes (tabN_row hx)]
  simp only [List.all_eq_true]
  intro y hy
  have := tabN_bd hx hy
  unfold tabEnt
  exact decide_eq_true (by omega)
theorem tabN_ok {n m p r : Nat} (hp : 0 < p) (hp9 : p ≤ 9) (hr : 0 < r) (hr9 : r ≤ 9) : ttOk (tabN n p r) (tabN m r p) = true := by
  unfold ttOk
  rw [tabN_len m, tabN_head hr, tabN_tab hp hp9 hr hr9, tabN_tab hr hr9 hp hp9]
  simp; omega
theorem prodIs_N {n m p r : Nat} (c : Tb) (hp : 0 < p) (hp9 : p ≤ 9) (hr : 0 < r) (hr9 : r ≤ 9) : prodIs (tabN n p r) (tabN m r p) c = decide (prodT (tabN n p r) (tabN m r p) p r p = c) := by
  unfold prodIs ttV
  rw [tabN_ok hp hp9 hr hr9, if_pos rfl, tabN_head hr, tabN_len, tabN_len]
  rfl
theorem stepM_N {a b : Tb} {n m p r : Nat} (ha : isMat a = true) (hb : isMat b = true) (hp : 0 < p) (hp9 : p ≤ 9) (hr : 0 < r) (hr9 : r ≤ 9) :
    stepM a b (tabN n p r, tabN m r p) = (decide (prodT (tabN n p r) (tabN m r p) p r p = a) && decide (prodT (tabN m r p) (tabN n p r) r p r = b)) := by
  unfold stepM
  rw [ha, hb, tabN_count, tabN_count, prodIs_N a hp hp9 hr hr9, prodIs_N b hr hr9 hp hp9]
  rfl
theorem isMat_len {m : Tb} (h : isMat m = true) : 0 < m.length ∧ m.length ≤ 9 := by
  unfold isMat at h
  rw [Bool.and_eq_true, decide_eq_true_eq] at h
  omega
theorem findS_in {P : Tb × Tb → Bool} {r : Tb} : ∀ {l : List Tb} {x : Tb × Tb}, findS P r l = some x → x.1 = r ∧ x.2 ∈ l
  | [], x, h => by cases h
  | s :: l, x, h => by
    unfold findS at h
    by_cases hP : P (r, s) = true
    · rw [if_pos hP] at h
      cases h
      exact ⟨rfl, by simp⟩
    · rw [if_neg hP] at h
      have := findS_in h
      exact ⟨this.1, List.mem_cons_of_mem _ this.2⟩
theorem findR_in {P : Tb × Tb → Bool} {ss : List Tb} : ∀ {l : List Tb} {x : Tb × Tb}, findR P ss l = some x → x.1 ∈ l ∧ x.2 ∈ ss
  | [], x, h => by cases h
  | r :: l, x, h => by
    unfold findR at h
    cases hf : findS P r ss with
    | some y =>
      rw [hf] at h
      cases h
      have := findS_in hf
      exact ⟨by rw [this.1]; simp, this.2⟩
    | none =>
      rw [hf] at h
      have := findR_in h
      exact ⟨List.mem_cons_of_mem _ this.1, this.2⟩
theorem tabsN_mem {p r : Nat} {t : Tb} (h : t ∈ tabsN p r) : ∃ n, t = tabN n p r := by
  obtain ⟨n, _, rfl⟩ := List.mem_map.1 h
  exact ⟨n, rfl⟩
/-- What is found is small. -/
theorem found_bd (a b : Tb) : cntStp (found (findV a b)) ≤ 1048576 := by
  have h0 : cntStp (([], []) : Tb × Tb) ≤ 1048576 := by decide
  unfold found
  cases hf : findV a b with
  | none => exact h0
  | some x =>
    unfold findV at hf
    by_cases hok : findOk a b = true
    · rw [if_pos hok] at hf
      unfold findOk at hok
      simp only [Bool.and_eq_true, decide_eq_true_eq] at hok
      have h1 := findR_in hf
      obtain ⟨n, hn⟩ := tabsN_mem h1.1
      obtain ⟨m, hm⟩ := tabsN_mem h1.2
      have e1 : cntSS x.1 ≤ 1000 := by
        rw [hn]
        exact Int.le_trans (cntSS_bd (p := 9) (r := 9) (by rw [tabN_len]; omega) (fun r hr => by rw [tabN_row hr]; omega)) (by decide)
      have e2 : cntSS x.2 ≤ 1000 := by
        rw [hm]
        exact Int.le_trans (cntSS_bd (p := 9) (r := 9) (by rw [tabN_len]; omega) (fun r hr => by rw [tabN_row hr]; omega)) (by decide)
      unfold cntStp
      simp only [Option.getD_some]
      omega
    · rw [if_neg hok] at hf
      cases hf
/-! The reference fills a table from its end. -/
def tabS (n t p r : Nat) : Tb := tabOf p r (fun i j => if t ≤ i * r + j then dig n (p * r - 1 - i * r - j) else 0)
theorem idx_lt {p r i j : Nat} (hi : i < p) (hj : j < r) : i * r + j < p * r := by
  have : (i + 1) * r ≤ p * r := Nat.mul_le_mul_right r hi
  rw [Nat.add_mul] at this
  omega
theorem tabS_start (n p r : Nat) : tabS n (p * r) p r = List.replicate p (List.replicate r 0) := by
  rw [← tabOf_const]
  exact tabOf_congr fun i hi j hj => by rw [if_neg (by have := idx_lt hi hj; omega)]
theorem tabS_end (n p r : Nat) : tabS n 0 p r = tabN n p r := tabOf_congr fun i _ j _ => by rw [if_pos (Nat.zero_le _)]
theorem tabS_row {n t p r i : Nat} (hi : i < p) : (tabS n t p r)[i]? = some (rowOf' r (fun j => if t ≤ i * r + j then dig n (p * r - 1 - i * r - j) else 0)) := by
  unfold tabS; rw [tabOf_at hi]
theorem tabS_set {n t p r : Nat} (ht : t < p * r) (hr : 0 < r) :
    (tabS n (t + 1) p r).set (t / r) ((rowOf' r (fun j => if t + 1 ≤ t / r * r + j then dig n (p * r - 1 - t / r * r - j) else 0)).set (t % r) (dig n (p * r - 1 - t))) = tabS n t p r := by
  unfold tabS
  rw [tabOf_set2 p r (fun i j => if t + 1 ≤ i * r + j then dig n (p * r - 1 - i * r - j) else 0) (t / r) (t % r)]
  refine tabOf_congr fun i hi j hj => ?_
  have hd : t / r * r + t % r = t := by rw [Nat.mul_comm]; exact Nat.div_add_mod t r
  have hm := Nat.mod_lt t hr
  by_cases h : i = t / r ∧ j = t % r
  · obtain ⟨rfl, rfl⟩ := h
    rw [if_pos ⟨rfl, rfl⟩, if_pos (by omega)]
    congr 1
    omega
  · rw [if_neg h]
    by_cases h2 : t + 1 ≤ i * r + j
    · rw [if_pos h2, if_pos (by omega)]
    · rw [if_neg h2, if_neg ?_]
      intro h3
      have e : i * r + j = t := by omega
      apply h
      subst e
      constructor
      · rw [Nat.mul_comm, Nat.mul_add_div hr, Nat.div_eq_of_lt hj]; rfl
      · rw [Nat.mul_comm, Nat.mul_add_mod, Nat.mod_eq_of_lt hj]
end Go.Proofs.YtlkgkfgpnnahdaaGreat
end

section
/-
  FindStep, the reference's.
-/
namespace Go.Proofs.YtlkgkfgpnnahdaaGreat
open Go.RowKit Go.Deep Go.Sd

set_option maxHeartbeats 1000000 in
set_option maxRecDepth 100000 in
theorem l19Table_c {w : World} {n p r : Nat} (hn : n ≤ 81) (hp0 : 0 < p) (hp : p ≤ 2) (hr0 : 0 < r) (hr : r ≤ 2) :
    Calls Tryz.prog 38 #[.int .i64 n, .int .i64 p, .int .i64 r] w (Makes (OTab 3 46) w (tabN n p r)) := by
  have Hz := Lib.hid (l4Zero_c (w := w) (p := p) (r := r) (by omega) (by omega))
  have hpr : p * r ≤ 4 := Nat.mul_le_mul hp hr
  have hprI : ((p : Int) * (r : Int)) = ((p * r : Nat) : Int) := by push_cast; rfl
  have HprI := Lib.hid hprI
  have hm0 : (p : Int) * (r : Int) ≤ 4 := by omega
  have hm1 : 0 ≤ (p : Int) * (r : Int) := by omega
  clear hprI
  go_enter Tryz.func38, Tryz.ntmps38
  go_wp2_with fail
  refine Hz.out.mono ?_
  rintro e w1 ⟨v1, rfl, hn1, hb1⟩
  rw [← tabS_start n p r] at hn1
  have hlen : (tabS n (p * r) p r).length = p := tabOf_len _ _ _
  obtain ⟨gb, gc, _, _, rfl, _, hgb, hgb2, _⟩ := hn1.tab_at (tabS_row hp0) (rowOf_at hr0)
  rw [hlen] at hn1 ⊢
  have Hn1 := Lib.hid hn1
  have Hb1 := Lib.hid hb1
  clear hn1 hb1 Hz hlen
  go_wp2
  go_loopg [0, 8] (p * r) (fun g nn kk wr => ∃ (t m : Nat) (x : Int), nn = .int .i64 m ∧ kk = .int .i64 x ∧ t = g ∧ x + 1 = (t : Int) ∧ t ≤ p * r ∧ m ≤ 81 ∧ Hid (m = n / 3 ^ (p * r - t)) ∧ Hid (New (OTab 3 46) w.heap.size wr (.slice (some ⟨gb, 0, none⟩) p gc) (tabS n t p r)) ∧ Hid (Below w.heap.size w wr))
  case atStart => exact ⟨p * r, n, (p : Int) * (r : Int) - 1, rfl, by go_num, rfl, by rw [HprI.out]; omega, Nat.le_refl _, hn, Lib.hid (by simp), Hn1, Hb1⟩
  case round =>
    obtain ⟨t, m, x, rfl, rfl, rfl, hx, ht, hm, HM, hnew, hbel⟩ := hrel
    clear Hn1 Hb1
    by_cases h0 : t = 0
    · subst h0
      have HF := Lib.hid (show New (OTab 3 46) w.heap.size wr (.slice (some ⟨gb, 0, none⟩) p gc) (tabN n p r) from by rw [← tabS_end]; exact hnew.out)
      have hx1 : x = -1 := by omega
      subst hx1
      clear hnew HM
      go_wp2
      go_ret
      exact ⟨_, rfl, HF.out, hbel.out⟩
    · obtain ⟨s, rfl⟩ : ∃ s, t = s + 1 := ⟨t - 1, by omega⟩
      obtain rfl : x = (s : Int) := by omega
      have hi : s / r < p := by rw [Nat.div_lt_iff_lt_mul hr0]; omega
      have hj : s % r < r := Nat.mod_lt _ hr0
      have HDm := Lib.hid (show (m : Int).tmod 3 = dig n (p * r - 1 - s) from by
        rw [Int.tmod_eq_emod_of_nonneg (Int.natCast_nonneg _), HM.out, show p * r - (s + 1) = p * r - 1 - s from by omega]
        unfold dig; push_cast; rfl)
      have HM2 := Lib.hid (show m / 3 = n / 3 ^ (p * r - s) from by
        rw [HM.out, Nat.div_div_eq_div_mul, ← Nat.pow_succ, show (p * r - (s + 1)).succ = p * r - s from by omega])
      have HM3 := Lib.hid (show (m : Int) / 3 = ((m / 3 : Nat) : Int) from by push_cast; rfl)
      have HQ := Lib.hid (show (s : Int) / (r : Int) = ((s / r : Nat) : Int) from by push_cast; rfl)
      have HR2 := Lib.hid (show (s : Int) % (r : Int) = ((s % r : Nat) : Int) from by push_cast; rfl)
      have HR := Lib.hid (show (s : Int).tmod (r : Int) = ((s % r : Nat) : Int) from by rw [Int.tmod_eq_emod_of_nonneg (Int.natCast_nonneg _)]; push_cast; rfl)
      obtain ⟨b', c', sb, sc, hv, _, _, _, hcl1, _, hsb, _, hcl2, hfr, hst⟩ := hnew.out.tab_at (tabS_row hi) (rowOf_at hj)
      obtain rfl : b' = gb := by simp at hv; exact hv.1.symm
      rw [rowOf_len] at hcl1
      have Hst := Lib.hid (show New (OTab 3 46) w.heap.size (wr.setCell ⟨sb, s % r, none⟩ (.int .i64 (dig n (p * r - 1 - s)))) _ (tabS n s p r) from by have := hst (dig n (p * r - 1 - s)); rw [tabS_set (by omega) hr0] at this; exact this)
      have Hb3 := Lib.hid (hbel.out.setCell (p := ⟨sb, s % r, none⟩) hsb (.int .i64 (dig n (p * r - 1 - s))))
      have hd0 := dig_bd n (p * r - 1 - s)
      have hs1 : s < p * r := by omega
      have hDm := HDm.out
      have hQ := HQ.out
      have hR := HR.out
      have hR2 := HR2.out
      have hrn : r ≠ 0 := by omega
      generalize hqq : s / r = i at *
      generalize hrr : s % r = j at *
      have hii : (i : Int) < (p : Int) := Int.ofNat_lt.2 hi
      have hjj : (j : Int) < (r : Int) := Int.ofNat_lt.2 hj
      generalize dig n (p * r - 1 - s) = D at *
      have hWi : IntKind.i64.wrap (i : Int) = (i : Int) := IntWalk.i64_in _ ⟨by omega, by omega⟩
      have hWj : IntKind.i64.wrap (j : Int) = (j : Int) := IntWalk.i64_in _ ⟨by omega, by omega⟩
      have hWD : IntKind.i64.wrap D = D := IntWalk.i64_in _ ⟨by omega, by omega⟩
      clear hv hst hnew hbel HM hqq hrr HDm HQ HR HR2
      go_wp2
      go_still_tail 12, (by kernel_rfl)
      go_wp2
      go_roundg s
      case measure => omega
      case rel => exact ⟨s, m / 3, (s : Int) - 1, by first | rfl | (rw [← HM3.out]; rfl) | (simp only [← HM3.out]; go_num), by go_num, rfl, by omega, by omega, by omega, HM2, Lib.hid (New.heap (OTab.kept _ _) Hst.out rfl), Lib.hid Hb3.out.drew⟩
end Go.Proofs.YtlkgkfgpnnahdaaGreat
end

section
/-
  The laws' comparisons of rows and tables.
-/
namespace Go.Proofs.YtlkgkfgpnnahdaaGreat
open Go.RowKit Go.Deep Go.Sd

set_option maxHeartbeats 400000 in
theorem sameInts_c {w : World} {v1 v2 : Value} {xs ys : List Int} (h1 : Ints w v1 xs) (h2 : Ints w v2 ys) :
    Calls Tryz.prog 63 #[v1, v2] w (Reads w (.bool (decide (xs = ys)))) := by
  have hlen1 := h1.len
  have hlen2 := h2.len
  obtain ⟨a1, c1, rfl, _, _, hc1⟩ := h1.shape
  obtain ⟨a2, c2, rfl, _, _, hc2⟩ := h2.shape
  clear h1 h2
  by_cases hl : xs.length = ys.length
  · have H0 := Lib.hid (show decide (xs = ys) = eqLoop (xs.drop 0) (ys.drop 0) from (eqLoop_iff xs ys hl).symm)
    have hl1 : ((ys.length : Int) != ys.length) = false := by simp
    have hl2 := Lib.hid hl
    obtain ⟨n, hn⟩ : ∃ n, n = xs.length := ⟨_, rfl⟩
    rw [← hl, ← hn]
    have hnb : n ≤ 9223372036854775807 := by omega
    have hl3 := Lib.hid hn
    clear hl hn
    go_enter Tryz.func63, Tryz.ntmps63
    go_wp2
    go_loopg [5] n (fun g i wr => ∃ (k : Nat), i = .int .i64 k ∧ k + g = n ∧ Hid (decide (xs = ys) = eqLoop (xs.drop k) (ys.drop k)) ∧ Drawn w wr)
    case atStart => exact ⟨0, rfl, by omega, H0, Drawn.refl _⟩
    case round =>
      obtain ⟨k, rfl, hk, H, hdr⟩ := hrel
      by_cases hlt : k < n
      · obtain ⟨b1, o1, rfl, _, hx1⟩ := hc1 (by have := hl3.out; omega)
        obtain ⟨b2, o2, rfl, _, hx2⟩ := hc2 (by have := hl3.out; have := hl2.out; omega)
        obtain ⟨x, hx, hdx⟩ := at_lt (xs := xs) (k := k) (by have := hl3.out; omega)
        obtain ⟨y, hy, hdy⟩ := at_lt (xs := ys) (k := k) (by have := hl3.out; have := hl2.out; omega)
        obtain ⟨u1, hu1, rfl⟩ := hx1 k x hx
        obtain ⟨u2, hu2, rfl⟩ := hx2 k y hy
        rw [← hdr.cell] at hu1 hu2
        have H1 := Lib.hid (show decide (xs = ys) = if x = y then eqLoop (xs.drop (k + 1)) (ys.drop (k + 1)) else false from by rw [H.out, hdx, hdy]; rfl)
        clear H hx hdx hy hdy hx1 hx2 hc1 hc2 H0
        by_cases hxy : x = y
        · have H2 := Lib.hid (show decide (xs = ys) = eqLoop (xs.drop (k + 1)) (ys.drop (k + 1)) from by rw [H1.out, if_pos hxy])
          have hd : (x != y) = false := by simp [hxy]
          have hi1 : (k : Int) < (n : Int) := by omega
          clear hxy H1
          go_wp2
          go_quiet (fail)
          go_wp2
          go_roundg (n - (k + 1))
          case measure => omega
          case rel => exact ⟨k + 1, by go_num, by omega, H2, hdr.drewN _⟩
        · have H2 := Lib.hid (show decide (xs = ys) = false from by rw [H1.out, if_neg hxy])
          have hd : (x != y) = true := by simp [hxy]
          have hi1 : (k : Int) < (n : Int) := by omega
          clear hxy H1
          go_wp2
          go_quiet (fail)
          go_wp2
          go_ret
          exact ⟨by rw [H2.out]; rfl, hdr.drewN _⟩
      · have H1 := Lib.hid (show decide (xs = ys) = true from by rw [H.out, drop_len (by have := hl3.out; omega)]; rfl)
        clear H
        go_wp2
        go_ret
        exact ⟨by rw [H1.out]; rfl, hdr⟩
  · have H := Lib.hid (show decide (xs = ys) = false from by simp; intro h; exact hl (by rw [h]))
    have hl1 : ((xs.length : Int) != ys.length) = true := by simp; omega
    go_enter Tryz.func63, Tryz.ntmps63
    go_wp2
    go_ret
    exact ⟨by rw [H.out]; rfl, Drawn.refl _⟩
set_option maxHeartbeats 400000 in
theorem sameLists_c {w : World} {v1 v2 : Value} {xs ys : List (List Int)} (h1 : Tab w v1 xs) (h2 : Tab w v2 ys) :
    Calls Tryz.prog 24 #[v1, v2] w (Reads w (.bool (decide (xs = ys)))) := by
  have hlen1 := h1.len
  have hlen2 := h2.len
  obtain ⟨a1, c1, rfl, _, _, hc1⟩ := h1.shape
  obtain ⟨a2, c2, rfl, _, _, hc2⟩ := h2.shape
  clear h1 h2
  by_cases hl : xs.length = ys.length
  · have H0 := Lib.hid (show decide (xs = ys) = eqLoopT (xs.drop 0) (ys.drop 0) from (eqLoopT_iff xs ys hl).symm)
    have hl2 := Lib.hid hl
    obtain ⟨n, hn⟩ : ∃ n, n = xs.length := ⟨_, rfl⟩
    rw [← hl, ← hn]
    have hnb : n ≤ 9223372036854775807 := by omega
    have hl3 := Lib.hid hn
    clear hl hn
    go_enter Tryz.func24, Tryz.ntmps24
    go_wp2
    go_loopg [5] n (fun g i wr => ∃ (k : Nat), i = .int .i64 k ∧ k + g = n ∧ Hid (decide (xs = ys) = eqLoopT (xs.drop k) (ys.drop k)) ∧ Drawn w wr)
    case atStart => exact ⟨0, rfl, by omega, H0, Drawn.refl _⟩
    case round =>
      obtain ⟨k, rfl, hk, H, hdr⟩ := hrel
      by_cases hlt : k < n
      · obtain ⟨b1, o1, rfl, _, hx1⟩ := hc1 (by have := hl3.out; omega)
        obtain ⟨b2, o2, rfl, _, hx2⟩ := hc2 (by have := hl3.out; have := hl2.out; omega)
        obtain ⟨x, hx, hdx⟩ := at_lt (xs := xs) (k := k) (by have := hl3.out; omega)
        obtain ⟨y, hy, hdy⟩ := at_lt (xs := ys) (k := k) (by have := hl3.out; have := hl2.out; omega)
        obtain ⟨u1, hu1, hr1⟩ := hx1 k x hx
        obtain ⟨u2, hu2, hr2⟩ := hx2 k y hy
        rw [← hdr.cell] at hu1 hu2
        have H1 := Lib.hid (show decide (xs = ys) = if x = y then eqLoopT (xs.drop (k + 1)) (ys.drop (k + 1)) else false from by rw [H.out, hdx, hdy]; rfl)
        have hi1 : (k : Int) < (n : Int) := by omega
        have Hc := Lib.hid (fun n => Reads.quiet (sameInts_c ((hdr.read Ints.frame hr1).dn n) ((hdr.read Ints.frame hr2).dn n)))
        clear H hx hdx hy hdy hx1 hx2 hc1 hc2 H0 hr1 hr2
        by_cases hxy : x = y
        · have H2 := Lib.hid (show decide (xs = ys) = eqLoopT (xs.drop (k + 1)) (ys.drop (k + 1)) from by rw [H1.out, if_pos hxy])
          have hd : decide (x = y) = true := by simp [hxy]
          rw [hd] at Hc
          clear hxy H1 hd
          go_wp2
          go_quiet ((go_at_call 63; exact Hc.out _))
          go_wp2
          go_roundg (n - (k + 1))
          case measure => omega
          case rel => exact ⟨k + 1, by go_num, by omega, H2, hdr.drewN _⟩
        · have H2 := Lib.hid (show decide (xs = ys) = false from by rw [H1.out, if_neg hxy])
          have hd : decide (x = y) = false := by simp [hxy]
          rw [hd] at Hc
          clear hxy H1 hd
          go_wp2
          go_quiet ((go_at_call 63; exact Hc.out _))
          go_wp2
          go_ret
          exact ⟨by rw [H2.out]; rfl, hdr.drewN _⟩
      · have H1 := Lib.hid (show decide (xs = ys) = true from by rw [H.out, drop_len (by have := hl3.out; omega)]; rfl)
        clear H
        go_wp2
        go_ret
        exact ⟨by rw [H1.out]; rfl, hdr⟩
  · have H := Lib.hid (show decide (xs = ys) = false from by simp; intro h; exact hl (by rw [h]))
    have hl1 : ((xs.length : Int) != ys.length) = true := by simp; omega
    go_enter Tryz.func24, Tryz.ntmps24
    go_wp2
    go_ret
    exact ⟨by rw [H.out]; rfl, Drawn.refl _⟩

end Go.Proofs.YtlkgkfgpnnahdaaGreat
end

section
/-
  The draws of lags: two small matrices that are often linked; steps compared.
-/
namespace Go.Proofs.YtlkgkfgpnnahdaaGreat
open Go.RowKit Go.Deep Go.Sd
set_option linter.unusedSimpArgs false
theorem times_N {w : World} {va vb : Value} {n m p q : Nat} (h1 : Tab w va (tabN n p q)) (h2 : Tab w vb (tabN m q p)) (hp0 : 0 < p) (hq0 : 0 < q) (hp : p ≤ 2) (hq : q ≤ 2) :
    Calls Tryz.prog 40 #[va, vb, .int .i64 p] w (Makes (OTab 3 46) w (prodT (tabN n p q) (tabN m q p) p q p)) :=
  l4Times_c h1 h2 (tabN_len _ _ _) (fun _ h => tabN_row h) (tabN_len _ _ _) (fun _ h => tabN_row h) hp0 hq0 hp0 (by omega) (by omega) (by omega) (tabN_Bd _ _ _) (tabN_Bd _ _ _)
theorem l19T22 {w : World} {n : Nat} (hn : n ≤ 81) : Calls Tryz.prog 38 #[.int .i64 n, .int .i64 2, .int .i64 2] w (Makes (OTab 3 46) w (tabN n 2 2)) := l19Table_c (p := 2) (r := 2) hn (by decide) (by decide) (by decide) (by decide)
theorem l19T12 {w : World} {n : Nat} (hn : n ≤ 81) : Calls Tryz.prog 38 #[.int .i64 n, .int .i64 1, .int .i64 2] w (Makes (OTab 3 46) w (tabN n 1 2)) := l19Table_c (p := 1) (r := 2) hn (by decide) (by decide) (by decide) (by decide)
theorem l19T21 {w : World} {n : Nat} (hn : n ≤ 81) : Calls Tryz.prog 38 #[.int .i64 n, .int .i64 2, .int .i64 1] w (Makes (OTab 3 46) w (tabN n 2 1)) := l19Table_c (p := 2) (r := 1) hn (by decide) (by decide) (by decide) (by decide)
/-- Two tables drawn. -/
def TwoP (lo : Nat) (w' : World) (v vb : Value) : Prop := ∃ a b : List (List Int), (1 ≤ a.length ∧ a.length ≤ 4) ∧ Far lo w' v a ∧ Far lo w' vb b
set_option maxHeartbeats 4000000 in
set_option maxRecDepth 100000 in
theorem l19Two_c {w : World} {vc : Value} {xs : List Int} (h : BytR w vc xs) :
    Calls Tryz.prog 34 #[vc] w fun e w' => ∃ v vb : Value, e = .returned (.tuple #[v, vb]) ∧ TwoP w.heap.size w' v vb ∧ Below w.heap.size w w' := by
  have HN := Lib.hid (l1New_c h)
  have HK := Lib.hid (fun w' (hb : Below w.heap.size w w') => BytR.frame _ _ _ _ h hb)
  obtain ⟨a, c, rfl, -⟩ := h.cellsB
  clear h
  go_enter Tryz.func34, Tryz.ntmps34
  go_wp2_with fail
  (with_reducible refine HN.out.mono ?_)
  rintro e w1 ⟨rfl, ⟨hh, hs⟩, hb⟩
  have HB1 := Lib.hid hb
  have hc : Cur w.heap.size w1 w.heap.size (.slice a xs.length c) xs.length [] := ⟨0, hh, Nat.zero_le _, hs⟩
  have HP := Lib.hid (l1Below_i (z := 81) (fun w' hb' => HK.out w' (HB1.out.trans hb')) hc HB1.out.size (by decide) (by decide))
  clear hs hb HN hc
  go_wp2_with fail
  (with_reducible refine HP.out.mono ?_)
  rintro e w2 ⟨x, rfl, hx, hc, hb, -⟩
  have HB2 := Lib.hid (HB1.out.trans hb)
  have HC2 := Lib.hid hc
  have HT := Lib.hid (l19T22 (w := w2) (n := x) (by have : x < 81 := hx; omega))
  clear hc hb HP HB1
  go_wp2_with fail
  (with_reducible refine HT.out.mono ?_)
  rintro e w3 ⟨vr, rfl, hn, hb⟩
  have HC3 := Lib.hid (HC2.out.new (OTab.kept 3 46).held hb HB2.out.size hn)
  have HB3 := Lib.hid (HB2.out.trans (hb.mono HB2.out.size))
  obtain ⟨ra, rc, rfl, -⟩ := hn.tab.shape
  rw [tabN_len] at HC3 ⊢
  have HP := Lib.hid (l1Below_i (z := 81) (fun w' hb' => HK.out w' (HB3.out.trans hb')) HC3.out HB3.out.size (by decide) (by decide))
  clear hn hb HT HC2 HB2 hx HC3
  go_wp2_with fail
  (with_reducible refine HP.out.mono ?_)
  rintro e w4 ⟨y, rfl, hy, hc, hb, -⟩
  have HB4 := Lib.hid (HB3.out.trans hb)
  have HC4 := Lib.hid hc
  have HT := Lib.hid (l19T22 (w := w4) (n := y) (by have : y < 81 := hy; omega))
  clear hc hb HP HB3
  go_wp2_with fail
  (with_reducible refine HT.out.mono ?_)
  rintro e w5 ⟨vs, rfl, hn, hb⟩
  have HC5 := Lib.hid (HC4.out.new (OTab.kept 3 46).held hb HB4.out.size hn)
  have HB5 := Lib.hid (HB4.out.trans (hb.mono HB4.out.size))
  obtain ⟨sa, sc, rfl, -⟩ := hn.tab.shape
  rw [tabN_len] at HC5 ⊢
  have HP := Lib.hid (l1Below_i (z := 4) (fun w' hb' => HK.out w' (HB5.out.trans hb')) HC5.out HB5.out.size (by decide) (by decide))
  clear hn hb HT HC4 HB4 hy HC5
  go_wp2_with fail
  (with_reducible refine HP.out.mono ?_)
  rintro e w6 ⟨t, rfl, ht, hc, hb, -⟩
  have HB6 := Lib.hid (HB5.out.trans hb)
  have HC6 := Lib.hid hc
  have hz6 : w.heap.size ≤ w6.heap.size := HB6.out.size
  clear hc hb HP HB5
  by_cases ht0 : t = 0
  · have t0 : ((t : Int) == 0) = true := by simp [ht0]
    have HD := Lib.hid (show Calls Tryz.prog 41 #[.pointer (some ⟨w.heap.size, 0, none⟩), .int .i64 2] w6 _ from l4Draw_c (most := 2) (fun w' hb' => HK.out w' (HB6.out.trans hb')) HC6.out hz6 (by omega) (by omega))
    go_wp2_with fail
    (with_reducible refine HD.out.mono ?_)
    rintro e w7 ⟨v7, rfl, m, hm, hc, hb⟩
    have HB7 := Lib.hid (HB6.out.trans hb)
    have Hm := Lib.hid hm
    have HD2 := Lib.hid (show Calls Tryz.prog 41 #[.pointer (some ⟨w.heap.size, 0, none⟩), .int .i64 3] w7 _ from l4Draw_c (most := 3) (fun w' hb' => HK.out w' (HB7.out.trans hb')) hc HB7.out.size (by omega) (by omega))
    obtain ⟨ma, mc, rfl, -⟩ := (hc.out.headNew).tab.shape
    clear hm hc hb HD HC6 HB6 hz6
    generalize hml : m.length = ml at HD2 ⊢
    clear hml
    go_wp2_with fail
    (with_reducible refine HD2.out.mono ?_)
    rintro e w8 ⟨v8, rfl, m2, -, hc, hb⟩
    have HB8 := Lib.hid (HB7.out.trans hb)
    have HTw := Lib.hid (show TwoP w.heap.size w8 (.slice ma ml mc) v8 from ⟨m, m2, ⟨(isMat_sq Hm.out.1).2.1, Hm.out.2.1⟩, hc.farOf (by simp), hc.farOf (by simp)⟩)
    clear hc hb HD2 HB7
    go_wp2
    go_ret2
    exact ⟨_, _, rfl, HTw.out, HB8.out⟩
  have t0 : ((t : Int) == 0) = false := by simp; omega
  by_cases ht1 : t = 1
  · have t1 : ((t : Int) == 1) = true := by simp [ht1]
    have HP := Lib.hid (l1Below_i (z := 9) (fun w' hb' => HK.out w' (HB6.out.trans hb')) HC6.out hz6 (by decide) (by decide))
    go_wp2_with fail
    (with_reducible refine HP.out.mono ?_)
    rintro e w7 ⟨x2, rfl, hx2, hc, hb, -⟩
    have HB7 := Lib.hid (HB6.out.trans hb)
    have HC7 := Lib.hid hc
    have HT := Lib.hid (l19T12 (w := w7) (n := x2) (by have : x2 < 9 := hx2; omega))
    clear hc hb HP HB6 HC6 hz6
    go_wp2_with fail
    (with_reducible refine HT.out.mono ?_)
    rintro e w8 ⟨v8, rfl, hn, hb⟩
    have HC8 := Lib.hid (HC7.out.new (OTab.kept 3 46).held hb HB7.out.size hn)
    have HB8 := Lib.hid (HB7.out.trans (hb.mono HB7.out.size))
    obtain ⟨ra2, rc2, rfl, -⟩ := hn.tab.shape
    rw [tabN_len] at HC8 ⊢
    have HP := Lib.hid (l1Below_i (z := 9) (fun w' hb' => HK.out w' (HB8.out.trans hb')) HC8.out HB8.out.size (by decide) (by decide))
    clear hn hb HT HC7 HB7 hx2 HC8
    go_wp2_with fail
    (with_reducible refine HP.out.mono ?_)
    rintro e w9 ⟨y2, rfl, hy2, hc, hb, -⟩
    have HB9 := Lib.hid (HB8.out.trans hb)
    have HC9 := Lib.hid hc
    have HT := Lib.hid (l19T21 (w := w9) (n := y2) (by have : y2 < 9 := hy2; omega))
    clear hc hb HP HB8
    go_wp2_with fail
    (with_reducible refine HT.out.mono ?_)
    rintro e w10 ⟨v10, rfl, hn, hb⟩
    have HC10 := Lib.hid (HC9.out.new (OTab.kept 3 46).held hb HB9.out.size hn)
    have HB10 := Lib.hid (HB9.out.trans (hb.mono HB9.out.size))
    obtain ⟨sa2, sc2, rfl, -⟩ := hn.tab.shape
    rw [tabN_len] at HC10 ⊢
    have HM := Lib.hid (show Calls Tryz.prog 40 #[.slice ra2 1 rc2, .slice sa2 2 sc2, .int .i64 1] w10 _ from times_N (p := 1) (q := 2) (HC10.out.tabOf (v := .slice ra2 1 rc2) (m := tabN x2 1 2) (by simp)) (HC10.out.tabOf (v := .slice sa2 2 sc2) (m := tabN y2 2 1) (by simp)) (by decide) (by decide) (by decide) (by decide))
    clear hn hb HT HC9 HB9 hy2
    go_wp2_with fail
    (with_reducible refine HM.out.mono ?_)
    rintro e w11 ⟨v11, rfl, hn, hb⟩
    have HC11 := Lib.hid (HC10.out.new (OTab.kept 3 46).held hb HB10.out.size hn)
    have HB11 := Lib.hid (HB10.out.trans (hb.mono HB10.out.size))
    obtain ⟨pa, pc, rfl, -⟩ := hn.tab.shape
    have HM := Lib.hid (show Calls Tryz.prog 40 #[.slice sa2 2 sc2, .slice ra2 1 rc2, .int .i64 2] w11 _ from times_N (p := 2) (q := 1) (HC11.out.tabOf (v := .slice sa2 2 sc2) (m := tabN y2 2 1) (by simp)) (HC11.out.tabOf (v := .slice ra2 1 rc2) (m := tabN x2 1 2) (by simp)) (by decide) (by decide) (by decide) (by decide))
    clear hn hb HC10 HB10
    generalize hpl : (prodT (tabN x2 1 2) (tabN y2 2 1) 1 2 1).length = pl at HM HC11 ⊢
    have Hpl := Lib.hid hpl
    clear hpl
    go_wp2_with fail
    (with_reducible refine HM.out.mono ?_)
    rintro e w12 ⟨v12, rfl, hn, hb⟩
    have HC12 := Lib.hid (HC11.out.new (OTab.kept 3 46).held hb HB11.out.size hn)
    have HB12 := Lib.hid (HB11.out.trans (hb.mono HB11.out.size))
    have HTw := Lib.hid (show TwoP w.heap.size w12 (.slice pa pl pc) v12 from ⟨_, _, by rw [show (prodT (tabN x2 1 2) (tabN y2 2 1) 1 2 1).length = 1 from tabOf_len _ _ _]; omega, HC12.out.farOf (v := .slice pa pl pc) (m := prodT (tabN x2 1 2) (tabN y2 2 1) 1 2 1) (by simp), (Far.new hn).mono HB11.out.size⟩)
    clear hn hb HM HC11 HB11 HC12
    go_wp2
    go_ret2
    exact ⟨_, _, rfl, HTw.out, HB12.out⟩
  · have t1 : ((t : Int) == 1) = false := by simp; omega
    have HM := Lib.hid (show Calls Tryz.prog 40 #[.slice ra 2 rc, .slice sa 2 sc, .int .i64 2] w6 _ from times_N (p := 2) (q := 2) (HC6.out.tabOf (v := .slice ra 2 rc) (m := tabN x 2 2) (by simp)) (HC6.out.tabOf (v := .slice sa 2 sc) (m := tabN y 2 2) (by simp)) (by decide) (by decide) (by decide) (by decide))
    go_wp2_with fail
    (with_reducible refine HM.out.mono ?_)
    rintro e w7 ⟨v7, rfl, hn, hb⟩
    have HC7 := Lib.hid (HC6.out.new (OTab.kept 3 46).held hb hz6 hn)
    have HB7 := Lib.hid (HB6.out.trans (hb.mono hz6))
    obtain ⟨pa, pc, rfl, -⟩ := hn.tab.shape
    have HM := Lib.hid (show Calls Tryz.prog 40 #[.slice sa 2 sc, .slice ra 2 rc, .int .i64 2] w7 _ from times_N (p := 2) (q := 2) (HC7.out.tabOf (v := .slice sa 2 sc) (m := tabN y 2 2) (by simp)) (HC7.out.tabOf (v := .slice ra 2 rc) (m := tabN x 2 2) (by simp)) (by decide) (by decide) (by decide) (by decide))
    clear hn hb HC6 HB6 hz6
    generalize hpl : (prodT (tabN x 2 2) (tabN y 2 2) 2 2 2).length = pl at HM HC7 ⊢
    have Hpl := Lib.hid hpl
    clear hpl
    go_wp2_with fail
    (with_reducible refine HM.out.mono ?_)
    rintro e w8 ⟨v8, rfl, hn, hb⟩
    have HC8 := Lib.hid (HC7.out.new (OTab.kept 3 46).held hb HB7.out.size hn)
    have HB8 := Lib.hid (HB7.out.trans (hb.mono HB7.out.size))
    have HTw := Lib.hid (show TwoP w.heap.size w8 (.slice pa pl pc) v8 from ⟨_, _, by rw [show (prodT (tabN x 2 2) (tabN y 2 2) 2 2 2).length = 2 from tabOf_len _ _ _]; omega, HC8.out.farOf (v := .slice pa pl pc) (m := prodT (tabN x 2 2) (tabN y 2 2) 2 2 2) (by simp), (Far.new hn).mono HB7.out.size⟩)
    clear hn hb HM HC7 HB7 HC8
    go_wp2
    go_ret2
    exact ⟨_, _, rfl, HTw.out, HB8.out⟩
set_option maxHeartbeats 1000000 in
theorem DrawFindStep_c {w : World} {vc : Value} {xs : List Int} (h : BytR w vc xs) :
    Calls Tryz.prog 6 #[vc] w fun e w' => ∃ v vb : Value, e = .returned (.tuple #[v, vb]) ∧ TwoP w.heap.size w' v vb ∧ Below w.heap.size w w' := by
  have HN := Lib.hid (l19Two_c h)
  obtain ⟨a, c, rfl, -⟩ := h.cellsB
  clear h
  go_enter Tryz.func6, Tryz.ntmps6
  go_wp2_with fail
  (with_reducible refine HN.out.mono ?_)
  rintro e w1 ⟨v, vb, rfl, ht, hb⟩
  have HT := Lib.hid ht
  have HB := Lib.hid hb
  clear ht hb HN
  go_wp2
  go_ret2
  exact ⟨v, vb, rfl, HT.out, HB.out⟩
theorem l1Bit_d (b : Bool) (w : World) : Calls Tryz.prog 67 #[.bool b] w fun e w' => ∃ y : Nat, e = .returned (.int .i64 y) ∧ y ≤ 1 ∧ w = w' := by
  cases b with
  | true =>
    go_enter Tryz.func67, Tryz.ntmps67
    go_wp2
    go_ret
    exact ⟨1, rfl, by omega, rfl⟩
  | false =>
    go_enter Tryz.func67, Tryz.ntmps67
    go_wp2
    go_ret
    exact ⟨0, rfl, by omega, rfl⟩
set_option maxHeartbeats 1000000 in
set_option maxRecDepth 100000 in
theorem sameStep_c {w : World} {v1 v2 : Value} {x y : Tb × Tb} (h1 : StepR w v1 x) (h2 : StepR w v2 y) :
    Calls Tryz.prog 17 #[v1, v2] w fun e w' => e = .returned (.bool (decide (x = y))) ∧ Below w.heap.size w w' := by
  obtain ⟨p1, p2, rfl, tp1, tp2⟩ := h1
  obtain ⟨q1, q2, rfl, tq1, tq2⟩ := h2
  obtain ⟨w1, e1, hb1, c0, c1, m1⟩ := boxA_ex w 26 p1 p2
  obtain ⟨w2, e2, hb2, d0, d1, m2⟩ := boxA_ex w1 26 q1 q2
  replace c0 := (hb2.cell (p := ⟨w.heap.size, 0, none⟩) m1).trans c0
  replace c1 := (hb2.cell (p := ⟨w.heap.size, 1, none⟩) m1).trans c1
  have hb := hb1.trans (hb2.mono (Nat.le_of_lt m1))
  have HX1 := Lib.hid (sameLists_c (Tab.frame _ _ _ _ tp1 hb) (Tab.frame _ _ _ _ tq1 hb))
  have HX2 := Lib.hid (fun (w' : World) (hb' : Below w2.heap.size w2 w') => sameLists_c (Tab.frame _ _ _ _ (Tab.frame _ _ _ _ tp2 hb) hb') (Tab.frame _ _ _ _ (Tab.frame _ _ _ _ tq2 hb) hb'))
  have HB := Lib.hid hb
  have Hd := Lib.hid (show decide (x = y) = (decide (x.1 = y.1) && decide (x.2 = y.2)) from by rw [← Bool.decide_and]; exact decide_eq_decide.2 Prod.ext_iff)
  generalize decide (x = y) = D at Hd ⊢
  generalize decide (x.1 = y.1) = D1 at Hd HX1
  generalize decide (x.2 = y.2) = D2 at Hd HX2
  have hle : w.heap.size ≤ w2.heap.size := HB.out.size
  obtain ⟨pa, pn, pc, rfl⟩ : ∃ a n c, p1 = .slice a n c := by obtain ⟨a, c, h, -⟩ := tp1.shape; exact ⟨_, _, _, h⟩
  obtain ⟨pa2, pn2, pc2, rfl⟩ : ∃ a n c, p2 = .slice a n c := by obtain ⟨a, c, h, -⟩ := tp2.shape; exact ⟨_, _, _, h⟩
  obtain ⟨qa, qn, qc, rfl⟩ : ∃ a n c, q1 = .slice a n c := by obtain ⟨a, c, h, -⟩ := tq1.shape; exact ⟨_, _, _, h⟩
  obtain ⟨qa2, qn2, qc2, rfl⟩ : ∃ a n c, q2 = .slice a n c := by obtain ⟨a, c, h, -⟩ := tq2.shape; exact ⟨_, _, _, h⟩
  clear tp1 tp2 tq1 tq2 hb1 hb2 hb
  go_enter Tryz.func17, Tryz.ntmps17
  go_wp2_with fail
  (with_reducible refine HX1.out.mono ?_)
  rintro e w3 ⟨rfl, hd⟩
  have HB3 := Lib.hid (HB.out.trans (hd.below _))
  have HX2' := Lib.hid (HX2.out _ (hd.below _))
  replace c1 := (hd.cell ⟨w.heap.size, 1, none⟩).trans c1
  replace d1 := (hd.cell ⟨w1.heap.size, 1, none⟩).trans d1
  clear hd HX1 HX2 HB c0 d0 e1 e2
  cases D1 with
  | false =>
    go_wp2
    go_ret
    exact ⟨by rw [Hd.out]; rfl, HB3.out⟩
  | true =>
    go_wp2_with fail
    (with_reducible refine HX2'.out.mono ?_)
    rintro e w4 ⟨rfl, hd⟩
    have HB4 := Lib.hid (HB3.out.trans (hd.below _))
    clear hd HX2' HB3
    go_wp2
    go_ret
    exact ⟨by rw [Hd.out]; rfl, HB4.out⟩
end Go.Proofs.YtlkgkfgpnnahdaaGreat
end

section
/-
  TurnStep, both sides.
-/
namespace Go.Proofs.YtlkgkfgpnnahdaaGreat
open Go.RowKit Go.Deep Go.Sd
theorem cntStp_turn (a : Tb × Tb) : cntStp (a.2, a.1) = cntStp a := Int.add_comm _ _
set_option maxHeartbeats 1000000 in
theorem impl_TurnStep_c {w : World} {v : Value} {x : Tb × Tb} (h : StepR w v x) (hs : StpSz x) :
    Calls Tryz.prog 20 #[v] w (Makes (OStep 3 46) w (x.2, x.1)) := by
  obtain ⟨v1, v2, rfl, t1, t2⟩ := h
  have Hc := Lib.hid (fun w1 (hb : Below w.heap.size w w1) => copied_c (Tab.frame _ _ _ _ t1 hb) hs.1.1 hs.1.2)
  have Hd := Lib.hid (fun w1 (hb : Below w.heap.size w w1) => copied_c (Tab.frame _ _ _ _ t2 hb) hs.2.1 hs.2.2)
  clear t1 t2 hs
  obtain ⟨x1, x2⟩ := x
  go_enter Tryz.func20, Tryz.ntmps20
  go_wp2
  have Hb0 := Lib.hid ((((Below.refl w.heap.size w).alloc (Nat.le_refl _) (.cells #[v1, v2] 26)).alloc (by simp <;> omega) (.cells #[.slice none 0 0, .slice none 0 0] 26)).drew)
  go_region_law (first
    | (go_simp; go_at_call 59; have Hbg := Hb1; go_must (refine (Hc.out _ Hb1.out).mono ?_; rintro e w2 ⟨u2, rfl, hn2, hb2⟩; obtain ⟨va, vn, vc, rfl⟩ := hn2.slice; have cB2 : w2.cell? ⟨w.heap.size + 1, 0, none⟩ = some (.slice none 0 0) := (hb2.cell (p := ⟨w.heap.size + 1, 0, none⟩) (by simp <;> omega)).trans cB; have cC2 : w2.cell? ⟨w.heap.size + 1, 1, none⟩ = some (.slice none 0 0) := (hb2.cell (p := ⟨w.heap.size + 1, 1, none⟩) (by simp <;> omega)).trans cC; have fB2 : w2.frozen? ⟨w.heap.size + 1, 0, none⟩ = false := (hb2.frozen (p := ⟨w.heap.size + 1, 0, none⟩) (by simp <;> omega)).trans fB; have fC2 : w2.frozen? ⟨w.heap.size + 1, 1, none⟩ = false := (hb2.frozen (p := ⟨w.heap.size + 1, 1, none⟩) (by simp <;> omega)).trans fC; have Hn := Lib.hid (New.pair (lo := w.heap.size + 1 + 1) (Hn1.out.mono (by first | omega | (simp <;> omega))) hn2 hb2 (by omega)); have Hb := Lib.hid (Hb1.out.trans (hb2.mono (by omega))); clear hn2 hb2 cA cB cC fB fC Hbg))
    | (go_simp; go_at_call 59; refine (Hd.out _ Hb0.out).mono ?_; rintro e w1 ⟨u1, rfl, hn1, hb1⟩; obtain ⟨ua, un, uc, rfl⟩ := hn1.slice; have cA : w1.cell? ⟨w.heap.size, 0, none⟩ = some v1 := (hb1.cell (p := ⟨w.heap.size, 0, none⟩) (by simp <;> omega)).trans (by simp [go_sem]); have cB : w1.cell? ⟨w.heap.size + 1, 0, none⟩ = some (.slice none 0 0) := (hb1.cell (p := ⟨w.heap.size + 1, 0, none⟩) (by simp <;> omega)).trans (by simp [go_sem]); have cC : w1.cell? ⟨w.heap.size + 1, 1, none⟩ = some (.slice none 0 0) := (hb1.cell (p := ⟨w.heap.size + 1, 1, none⟩) (by simp <;> omega)).trans (by simp [go_sem]); have fB : w1.frozen? ⟨w.heap.size + 1, 0, none⟩ = false := (hb1.frozen (p := ⟨w.heap.size + 1, 0, none⟩) (by simp <;> omega)).trans (by simp [go_sem]); have fC : w1.frozen? ⟨w.heap.size + 1, 1, none⟩ = false := (hb1.frozen (p := ⟨w.heap.size + 1, 1, none⟩) (by simp <;> omega)).trans (by simp [go_sem]); have hz1 : w.heap.size + 2 ≤ w1.heap.size := (by have := hb1.size; simp at this; omega); have Hn1 := Lib.hid hn1; have Hb1 := Lib.hid (Hb0.out.trans (hb1.mono Hb0.out.size)); clear hn1 hb1)
    | fail)
  all_goals (
    have r0 := World.cell?_setCell_same _ _ (.slice ua un uc) cB2
    have s1 : ((w2.setCell ⟨w.heap.size + 1, 0, none⟩ (.slice ua un uc)).cell? ⟨w.heap.size + 1, 1, none⟩) = some (.slice none 0 0) := (World.cell?_setCell_other _ _ _ _ (by simp)).trans cC2
    have r1 := World.cell?_setCell_same _ _ (.slice va vn vc) s1
    try go_wp2
    refine bodyPost_ret (v := .agg #[.slice ua un uc, .slice va vn vc]) (by simp [results, Tryz.results20, go_sem, r0, r1]) rfl ?_
    exact ⟨_, rfl, (New.setCell_low OStep.held (New.setCell_low OStep.held Hn.out (by simp) _) (by simp <;> omega) _).mono (by omega), (Hb.out.setCell (by simp <;> omega) _).setCell (by simp <;> omega) _⟩)
set_option maxHeartbeats 1000000 in
theorem spec_TurnStep_c {w : World} {v : Value} {x : Tb × Tb} (h : StepR w v x) (hs : StpSz x) :
    Calls Tryz.prog 21 #[v] w (Makes (OStep 3 46) w (x.2, x.1)) := by
  obtain ⟨v1, v2, rfl, t1, t2⟩ := h
  have Hc := Lib.hid (fun w1 (hb : Below w.heap.size w w1) => l4Copy_c (Tab.frame _ _ _ _ t1 hb) hs.1.1 hs.1.2)
  have Hd := Lib.hid (fun w1 (hb : Below w.heap.size w w1) => l4Copy_c (Tab.frame _ _ _ _ t2 hb) hs.2.1 hs.2.2)
  clear t1 t2 hs
  obtain ⟨x1, x2⟩ := x
  go_enter Tryz.func21, Tryz.ntmps21
  go_wp2
  have Hb0 := Lib.hid ((((Below.refl w.heap.size w).alloc (Nat.le_refl _) (.cells #[v1, v2] 26)).alloc (by simp <;> omega) (.cells #[.slice none 0 0, .slice none 0 0] 26)).drew)
  go_region_law (first
    | (go_simp; go_at_call 60; have Hbg := Hb1; go_must (refine (Hc.out _ Hb1.out).mono ?_; rintro e w2 ⟨u2, rfl, hn2, hb2⟩; obtain ⟨va, vn, vc, rfl⟩ := hn2.slice; have cB2 : w2.cell? ⟨w.heap.size + 1, 0, none⟩ = some (.slice none 0 0) := (hb2.cell (p := ⟨w.heap.size + 1, 0, none⟩) (by simp <;> omega)).trans cB; have cC2 : w2.cell? ⟨w.heap.size + 1, 1, none⟩ = some (.slice none 0 0) := (hb2.cell (p := ⟨w.heap.size + 1, 1, none⟩) (by simp <;> omega)).trans cC; have fB2 : w2.frozen? ⟨w.heap.size + 1, 0, none⟩ = false := (hb2.frozen (p := ⟨w.heap.size + 1, 0, none⟩) (by simp <;> omega)).trans fB; have fC2 : w2.frozen? ⟨w.heap.size + 1, 1, none⟩ = false := (hb2.frozen (p := ⟨w.heap.size + 1, 1, none⟩) (by simp <;> omega)).trans fC; have Hn := Lib.hid (New.pair (lo := w.heap.size + 1 + 1) (Hn1.out.mono (by first | omega | (simp <;> omega))) hn2 hb2 (by omega)); have Hb := Lib.hid (Hb1.out.trans (hb2.mono (by omega))); clear hn2 hb2 cA cB cC fB fC Hbg))
    | (go_simp; go_at_call 60; refine (Hd.out _ Hb0.out).mono ?_; rintro e w1 ⟨u1, rfl, hn1, hb1⟩; obtain ⟨ua, un, uc, rfl⟩ := hn1.slice; have cA : w1.cell? ⟨w.heap.size, 0, none⟩ = some v1 := (hb1.cell (p := ⟨w.heap.size, 0, none⟩) (by simp <;> omega)).trans (by simp [go_sem]); have cB : w1.cell? ⟨w.heap.size + 1, 0, none⟩ = some (.slice none 0 0) := (hb1.cell (p := ⟨w.heap.size + 1, 0, none⟩) (by simp <;> omega)).trans (by simp [go_sem]); have cC : w1.cell? ⟨w.heap.size + 1, 1, none⟩ = some (.slice none 0 0) := (hb1.cell (p := ⟨w.heap.size + 1, 1, none⟩) (by simp <;> omega)).trans (by simp [go_sem]); have fB : w1.frozen? ⟨w.heap.size + 1, 0, none⟩ = false := (hb1.frozen (p := ⟨w.heap.size + 1, 0, none⟩) (by simp <;> omega)).trans (by simp [go_sem]); have fC : w1.frozen? ⟨w.heap.size + 1, 1, none⟩ = false := (hb1.frozen (p := ⟨w.heap.size + 1, 1, none⟩) (by simp <;> omega)).trans (by simp [go_sem]); have hz1 : w.heap.size + 2 ≤ w1.heap.size := (by have := hb1.size; simp at this; omega); have Hn1 := Lib.hid hn1; have Hb1 := Lib.hid (Hb0.out.trans (hb1.mono Hb0.out.size)); clear hn1 hb1)
    | fail)
  all_goals (
    have r0 := World.cell?_setCell_same _ _ (.slice ua un uc) cB2
    have s1 : ((w2.setCell ⟨w.heap.size + 1, 0, none⟩ (.slice ua un uc)).cell? ⟨w.heap.size + 1, 1, none⟩) = some (.slice none 0 0) := (World.cell?_setCell_other _ _ _ _ (by simp)).trans cC2
    have r1 := World.cell?_setCell_same _ _ (.slice va vn vc) s1
    try go_wp2
    refine bodyPost_ret (v := .agg #[.slice ua un uc, .slice va vn vc]) (by simp [results, Tryz.results21, go_sem, r0, r1]) rfl ?_
    exact ⟨_, rfl, (New.setCell_low OStep.held (New.setCell_low OStep.held Hn.out (by simp) _) (by simp <;> omega) _).mono (by omega), (Hb.out.setCell (by simp <;> omega) _).setCell (by simp <;> omega) _⟩)
end Go.Proofs.YtlkgkfgpnnahdaaGreat
end

section
/-
  FindStep, the program's tables.
-/
namespace Go.Proofs.YtlkgkfgpnnahdaaGreat
open Go.RowKit Go.Deep Go.Sd

theorem infoT' : (Tryz.prog.info? 24).map (fun i => (i.zero, i.size, i.bytes)) = some (some (.slice none 0 0), 1, 24) := by kernel_rfl
theorem dig_eq {n X : Nat} (hn : n ≤ 81) : (wrap64 ((n : Int) / (X : Int))).tmod 3 = ((n / X % 3 : Nat) : Int) := by
  have h1 : ((n : Int) / (X : Int)) = ((n / X : Nat) : Int) := by push_cast; rfl
  have h2 : n / X ≤ n := Nat.div_le_self _ _
  rw [h1]
  generalize n / X = q at *
  rw [IntWalk.wrap64_in _ ⟨by omega, by omega⟩, Int.tmod_eq_emod_of_nonneg (by omega)]
  omega
set_option maxHeartbeats 400000 in
theorem power_c {w : World} {e : Nat} (he : e ≤ 8) :
    Calls Tryz.prog 100 #[.int .i64 3, .int .i64 e] w fun x w' => x = .returned (.int .i64 ((3 ^ e : Nat) : Int)) ∧ w = w' := by
  go_enter Tryz.func100, Tryz.ntmps100
  go_wp2
  go_loopg [5, 7] e (fun g v i wr => ∃ (k z : Nat), i = .int .i64 k ∧ v = .int .i64 z ∧ k + g = e ∧ Hid (z = 3 ^ k) ∧ w = wr)
  case atStart => exact ⟨0, 1, rfl, rfl, by omega, Lib.hid rfl, rfl⟩
  case round =>
    obtain ⟨k, z, rfl, rfl, hk, hz, rfl⟩ := hrel
    by_cases hlt : k < e
    · have hz1 : z ≤ 6561 := by rw [hz.out]; exact Nat.le_trans (Nat.pow_le_pow_right (by decide) (by omega : k ≤ 8)) (by decide)
      have R := Lib.hid (show z * 3 = 3 ^ (k + 1) from by rw [hz.out, Nat.pow_succ])
      clear hz
      go_wp2
      go_roundg (e - (k + 1))
      case measure => omega
      case rel => exact ⟨k + 1, z * 3, by go_num, by go_num, by omega, R, rfl⟩
    · have E := Lib.hid (show z = 3 ^ e from by rw [hz.out]; congr 1; omega)
      clear hz
      go_wp2
      go_ret
      exact ⟨by rw [E.out]; rfl, rfl⟩
set_option maxHeartbeats 4000000 in
theorem tables_c {w : World} {p r : Nat} (hp0 : 0 < p) (hp : p ≤ 2) (hr0 : 0 < r) (hr : r ≤ 2) :
    Calls Tryz.prog 70 #[.int .i64 p, .int .i64 r] w (Makes (OTabs 3 46 24) w (tabsN p r)) := by
  have Hpw := Lib.hid (fun w1 => power_c (w := w1) (e := p * r) (by have := Nat.mul_le_mul hp hr; omega))
  have Hpx := Lib.hid (fun w1 (e : Nat) (he : e ≤ 8) => power_c (w := w1) he)
  have hpr : p * r ≤ 4 := Nat.mul_le_mul hp hr
  obtain ⟨M, hM⟩ : ∃ M, M = 3 ^ (p * r) := ⟨_, rfl⟩
  have hM81 : M ≤ 81 := by rw [hM]; exact Nat.le_trans (Nat.pow_le_pow_right (by decide) hpr) (by decide)
  have HT := Lib.hid (show tabsN p r = ((List.range M).map fun n => tabN n p r) from by rw [hM]; rfl)
  have hprI : ((p : Int) * (r : Int)) = ((p * r : Nat) : Int) := by push_cast; rfl
  have HprI := Lib.hid hprI
  rw [← hM] at Hpw
  clear hM hprI
  generalize tabsN p r = V at HT ⊢
  go_enter Tryz.func70, Tryz.ntmps70
  have hm0 : (p : Int) * (r : Int) ≤ 4 := by rw [HprI.out]; omega
  have hm1 : 0 ≤ (p : Int) * (r : Int) := by rw [HprI.out]; omega
  go_wp2_with fail
  rw [HprI.out]
  refine (Hpw.out _).mono ?_
  rintro e w' ⟨rfl, rfl⟩
  go_wp2
  go_loopg [5, 16] M (fun g v ii wr => ∃ (n : Nat), ii = .int .i64 n ∧ n + g = M ∧ Hid (New (OTabs 3 46 24) w.heap.size wr v ((List.range n).map fun n => tabN n p r)) ∧ Hid (Below w.heap.size w wr))
  case atStart => exact ⟨0, rfl, by omega, Lib.hid (New.empty w (Nat.le_refl _)), Lib.hid ((Below.refl _ _).alloc (Nat.le_refl _) _)⟩
  case round =>
    obtain ⟨n, rfl, hn, hnew, hbel⟩ := hrel
    obtain ⟨wo, rfl⟩ : ∃ x, x = wr := ⟨_, rfl⟩
    have hle := hbel.out.size
    by_cases hlt : n < M
    · have HTn := Lib.hid (show (List.range (n + 1)).map (fun n => tabN n p r) = (List.range n).map (fun n => tabN n p r) ++ [tabN n p r] from by rw [List.range_succ, List.map_append]; rfl)
      have Hlen := Lib.hid (show ((List.range n).map fun n => tabN n p r).length = n from by simp)
      have hnM : (n : Int) < (M : Int) := by omega
      go_wp2
      go_loopg [7, 21] p (fun g v ii wr => ∃ (i : Nat), ii = .int .i64 i ∧ i + g = p ∧ Hid (New (OTab 3 46) wo.heap.size wr v ((tabN n p r).take i)) ∧ Hid (Below wo.heap.size wo wr))
      case atStart => exact ⟨0, rfl, by omega, Lib.hid (New.empty wo (Nat.le_refl _)), Lib.hid ((Below.refl _ _).alloc (Nat.le_refl _) _)⟩
      case round =>
        obtain ⟨i, rfl, hi, hni, hbi⟩ := hrel
        obtain ⟨wi, rfl⟩ : ∃ x, x = wr := ⟨_, rfl⟩
        have hle2 := hbi.out.size
        by_cases hlt2 : i < p
        · have hip : (i : Int) < (p : Int) := by omega
          have HTi := Lib.hid (show (tabN n p r).take (i + 1) = (tabN n p r).take i ++ [rowOf' r (fun j => dig n (p * r - 1 - i * r - j))] from (tabOf_take hlt2).symm)
          have Hleni := Lib.hid (show ((tabN n p r).take i).length = i from by rw [List.length_take, tabN_len]; omega)
          have hir0 : 0 ≤ (i : Int) * (r : Int) := Int.mul_nonneg (by omega) (by omega)
          have hir1 : (i : Int) * (r : Int) ≤ 4 := by
            have h1 : i * r ≤ 2 * 2 := Nat.mul_le_mul (by omega) hr
            have h2 : ((i * r : Nat) : Int) = (i : Int) * (r : Int) := by push_cast; rfl
            omega
          have HE := Lib.hid (fun j (hj : j < r) => (show (p : Int) * (r : Int) - 1 - (i : Int) * (r : Int) - (j : Int) = ((p * r - 1 - i * r - j : Nat) : Int) from by
            have h1 := idx_lt hlt2 hj
            have h2 : ((i * r : Nat) : Int) = (i : Int) * (r : Int) := by push_cast; rfl
            have h3 := HprI.out
            omega))
          go_wp2
          go_loopg [9, 26] r (fun g v ii wr => ∃ (j : Nat), ii = .int .i64 j ∧ j + g = r ∧ Hid (New (OInts 3) wi.heap.size wr v ((rowOf' r (fun j => dig n (p * r - 1 - i * r - j))).take j)) ∧ Hid (Below wi.heap.size wi wr))
          case atStart => exact ⟨0, rfl, by omega, Lib.hid (New.empty wi (Nat.le_refl _)), Lib.hid ((Below.refl _ _).alloc (Nat.le_refl _) _)⟩
          case round =>
            obtain ⟨j, rfl, hj, hnj, hbj⟩ := hrel
            obtain ⟨wj, rfl⟩ : ∃ x, x = wr := ⟨_, rfl⟩
            have hle3 := hbj.out.size
            by_cases hlt3 : j < r
            · have hjr : (j : Int) < (r : Int) := by omega
              have HTj := Lib.hid (show (rowOf' r (fun j => dig n (p * r - 1 - i * r - j))).take (j + 1) = (rowOf' r (fun j => dig n (p * r - 1 - i * r - j))).take j ++ [dig n (p * r - 1 - i * r - j)] from (rowOf_take hlt3).symm)
              have Hlenj := Lib.hid (show ((rowOf' r (fun j => dig n (p * r - 1 - i * r - j))).take j).length = j from by rw [List.length_take, rowOf_len]; omega)
              have HEj := Lib.hid (HE.out j hlt3)
              have Hpe := Lib.hid (fun w1 => Hpx.out w1 (p * r - 1 - i * r - j) (by omega))
              have HD := Lib.hid (show dig n (p * r - 1 - i * r - j) = (((n / 3 ^ (p * r - 1 - i * r - j) % 3 : Nat)) : Int) from rfl)
              have hd0 := dig_bd n (p * r - 1 - i * r - j)
              have hX : 0 < 3 ^ (p * r - 1 - i * r - j) := Nat.pow_pos (by decide)
              have hX2 : 3 ^ (p * r - 1 - i * r - j) ≤ 81 := Nat.le_trans (Nat.pow_le_pow_right (by decide) (by omega : p * r - 1 - i * r - j ≤ 4)) (by decide)
              have HDD := Lib.hid (show (wrap64 ((n : Int) / ((3 ^ (p * r - 1 - i * r - j) : Nat) : Int))).tmod 3 = dig n (p * r - 1 - i * r - j) from dig_eq (by omega))
              generalize 3 ^ (p * r - 1 - i * r - j) = X at *
              generalize dig n (p * r - 1 - i * r - j) = D at *
              go_wp2_with fail
              rw [HEj.out]
              refine (Hpe.out _).mono ?_
              rintro e w' ⟨rfl, rfl⟩
              go_wp2_with (first
                | (at_builtin; refine wpl_push (w0 := wj) (lo := wi.heap.size) (y := D) OIntR.kept rfl (.tmp 29) (.tmp 44) 46 rfl 3 (.int .i64 0) 8 Tryz.underlying46 infoI rfl hnj.out hle3 ((Below.refl _ _).alloc (Nat.le_refl _) _) ⟨[], ⟨rfl, rfl⟩, by simp [Fresh]⟩ (bb := wj.heap.size) (c := 1) (by simp; exact HDD.out) rfl rfl (by rw [Hlenj.out]; omega) (by rw [Hlenj.out]; omega) ?_; intro v3 w3 hn3 _ _ hb3; have Hn3 := Lib.hid hn3; have Hb3 := Lib.hid hb3; clear hn3 hb3)
                | fail)
              have R1 := Lib.hid (show New (OInts 3) wi.heap.size w3 v3 ((rowOf' r (fun j => dig n (p * r - 1 - i * r - j))).take (j + 1)) from by rw [HTj.out]; exact Hn3.out)
              have R2 := Lib.hid (hbj.out.trans Hb3.out)
              clear hnj hbj Hn3 Hb3
              go_roundg (r - (j + 1))
              case measure => omega
              case rel => exact ⟨j + 1, by go_num, by omega, R1, R2⟩
            · have e : j = r := by omega
              subst e
              have Hr := Lib.hid (show New (OInts 3) wi.heap.size wj _ (rowOf' j (fun j' => dig n (p * j - 1 - i * j - j'))) from by have h := hnj.out; rw [rowOf_full] at h; exact h)
              clear hnj
              obtain ⟨_, _, _, rfl⟩ := Hr.out.slice
              go_wp2_with (first
                | (at_builtin; refine wpl_push (w0 := wi) (lo := wo.heap.size) (OInts.kept _) rfl (.tmp 47) (.tmp 49) 24 rfl 46 (.slice none 0 0) 24 Tryz.underlying24 infoR rfl hni.out hle2 (hbj.out.alloc hle3 _) (New.keep (OInts.kept _) Hr.out ((Below.refl wj.heap.size _).alloc (Nat.le_refl _) _) (Nat.le_refl _)) (bb := wj.heap.size) (c := 1) (by simp) rfl rfl (by rw [Hleni.out]; omega) (by rw [Hleni.out]; omega) ?_; intro v3 w3 hn3 _ _ hb3; have Hn3 := Lib.hid hn3; have Hb3 := Lib.hid hb3; clear hn3 hb3)
                | fail)
              have R1 := Lib.hid (show New (OTab 3 46) wo.heap.size w3 v3 ((tabN n p j).take (i + 1)) from by rw [HTi.out]; exact Hn3.out)
              have R2 := Lib.hid (hbi.out.trans Hb3.out)
              clear hni hbi Hn3 Hb3 hbj Hr
              go_roundg (p - (i + 1))
              case measure => omega
              case rel => exact ⟨i + 1, by go_num, by omega, R1, R2⟩
        · have e : i = p := by omega
          subst e
          have Hr := Lib.hid (show New (OTab 3 46) wo.heap.size wi _ (tabN n i r) from by have h := hni.out; unfold tabN at h; rw [tabOf_full] at h; exact h)
          clear hni
          obtain ⟨_, _, _, rfl⟩ := Hr.out.slice
          go_wp2_with (first
            | (at_builtin; refine wpl_push (w0 := wo) (lo := w.heap.size) (OTab.kept _ _) rfl (.tmp 52) (.tmp 54) 33 rfl 24 (.slice none 0 0) 24 Tryz.underlying33 infoT' rfl hnew.out hle (hbi.out.alloc hle2 _) (New.keep (OTab.kept _ _) Hr.out ((Below.refl wi.heap.size _).alloc (Nat.le_refl _) _) (Nat.le_refl _)) (bb := wi.heap.size) (c := 1) (by simp) rfl rfl (by rw [Hlen.out]; omega) (by rw [Hlen.out]; omega) ?_; intro v3 w3 hn3 _ _ hb3; have Hn3 := Lib.hid hn3; have Hb3 := Lib.hid hb3; clear hn3 hb3)
            | fail)
          have R1 := Lib.hid (show New (OTabs 3 46 24) w.heap.size w3 v3 ((List.range (n + 1)).map fun n => tabN n i r) from by rw [HTn.out]; exact Hn3.out)
          have R2 := Lib.hid (hbel.out.trans Hb3.out)
          clear hnew hbel Hn3 Hb3 hbi Hr
          go_roundg (M - (n + 1))
          case measure => omega
          case rel => exact ⟨n + 1, by go_num, by omega, R1, R2⟩
    · have e : n = M := by omega
      subst e
      have HF := Lib.hid (show New (OTabs 3 46 24) w.heap.size wo _ V from by rw [HT.out]; exact hnew.out)
      clear hnew
      go_wp2
      go_ret
      exact ⟨_, rfl, HF.out, hbel.out⟩
end Go.Proofs.YtlkgkfgpnnahdaaGreat
end

section
/-
  Lists of pairs of tables: how they read; the laws' helpers on them.
-/
namespace Go.Sd
open Go.RowKit Go.Deep Go.Joins Go.ChangeShapes Go.WideShapes Go.ChangeAt

/-- v is a slice of pairs of tables. -/
def StpsR (w : World) (v : Value) (xs : List (Tb × Tb)) : Prop :=
  xs.length ≤ 9223372036854775807 ∧ ∃ a c, v = .slice a xs.length c ∧ xs.length ≤ c ∧ c ≤ 9223372036854775807 ∧ (a = none → c = 0) ∧
    (0 < xs.length → ∃ b o, a = some ⟨b, o, none⟩ ∧ b < w.heap.size ∧ ∀ i x, xs[i]? = some x → ∃ v1 v2, w.cell? ⟨b, o + i * 2, none⟩ = some v1 ∧ w.cell? ⟨b, o + i * 2 + 1, none⟩ = some v2 ∧ Tab w v1 x.1 ∧ Tab w v2 x.2)
theorem StpsR.frame : Framed StpsR := by
  intro w w' v xs h hb
  obtain ⟨h1, a, c, rfl, h2, h3, h4, h5⟩ := h
  refine ⟨h1, a, c, rfl, h2, h3, h4, fun h0 => ?_⟩
  obtain ⟨b, o, rfl, hlt, hx⟩ := h5 h0
  refine ⟨b, o, rfl, Nat.lt_of_lt_of_le hlt hb.size, fun i x hi => ?_⟩
  obtain ⟨v1, v2, c0, c1, t1, t2⟩ := hx i x hi
  exact ⟨v1, v2, (hb.cell (p := ⟨b, o + i * 2, none⟩) hlt).trans c0, (hb.cell (p := ⟨b, o + i * 2 + 1, none⟩) hlt).trans c1, Tab.frame _ _ _ _ t1 hb, Tab.frame _ _ _ _ t2 hb⟩

section
variable {H : Type} {enc : TypeId × Value → H} {P : Program} {W : World} {base : Nat}
theorem open_Stps_cells {t e r s q : TypeId} {f0 f1 : Field} (ht : P.underlying t = some (.slice e)) (he : P.underlying e = some (.struct #[f0, f1])) (hr : P.underlying r = some (.slice s)) (hs : P.underlying s = some (.slice q)) (hq : P.underlying q = some (.int .i64)) (e0 : f0.type = r) (e1 : f1.type = r)
    (o0 : f0.offset = 0) (o1 : f1.offset = 1) (ce : P.cellsOf e = 2) (cr : P.cellsOf r = 1) (cs : P.cellsOf s = 1) (cq : P.cellsOf q = 1) {v : Value} {fuel : Nat} {x : DataW H × List MemPlace}
    (h : DataW.trod enc P W base (fun _ => true) true fuel t [v] = some x) : ∃ xs, StpsR W v xs := by
  rcases open_slice ht h with ⟨hcs, _⟩ | ⟨a, len, cap, m, n, D, Pl, hcs, hb, hl, hm, hmm, _, hx⟩
  · simp at hcs
    subst hcs
    exact ⟨[], by simp, none, 0, rfl, by simp, by simp, by simp, by simp⟩
  · simp at hcs
    subst hcs
    simp only [if_true] at hmm
    obtain rfl : m = cap := hmm
    have each : ∀ i, i < m → ∃ y : (Value × Value) × (Tb × Tb), W.cell? (a.add (i * 2)) = some y.1.1 ∧ W.cell? (a.add (i * 2 + 1)) = some y.1.2 ∧ Tab W y.1.1 y.2.1 ∧ Tab W y.1.2 y.2.2 := by
      intro i hi
      obtain ⟨cs', h1, h2⟩ := hx i hi
      rw [ce] at h1
      obtain ⟨_, hlen, hcell⟩ := World.cells?_some h1
      obtain ⟨xs, k, hk, hxy, _, hxl, hf⟩ := DataW.trod_struct he h2
      match xs, hxl, cs', hlen with
      | [y0, y1], _, [v0, v1], _ =>
        have g0 := hf 0 f0 rfl
        have g1 := hf 1 f1 rfl
        rw [e0] at g0
        rw [e1] at g1
        simp [o0, o1, cr] at g0 g1
        obtain ⟨a0, z0, _⟩ := open_Tab_any hr hs hq cs cq g0
        obtain ⟨a1, z1, _⟩ := open_Tab_any hr hs hq cs cq g1
        have c0 := hcell 0 (by omega)
        have c1 := hcell 1 (by omega)
        rw [add_add] at c0 c1
        exact ⟨((v0, v1), (a0, a1)), by simpa using c0, by simpa using c1, z0, z1⟩
    obtain ⟨q', hqq⟩ := choose_lt each
    have hm' : m ≤ 9223372036854775807 := hm
    refine ⟨(List.range len).map (fun i => (q' i).2), by simp; omega, some a, m, by simp, by simp; exact hl, hm', by simp, fun h0 => ?_⟩
    simp at h0
    obtain ⟨b, o, sp⟩ := a
    have h1 := (hqq 0 (by omega)).1
    have hs : sp = none := by simpa [Addr.add] using World.cell?_spot h1
    subst hs
    refine ⟨b, o, rfl, World.block_lt_of_cell? W ⟨b, o, none⟩ (by simpa [Addr.add] using h1), fun i x hi => ?_⟩
    have hi2 : i < len := by simpa using (List.getElem?_eq_some_iff.1 hi).1
    rw [List.getElem?_map, List.getElem?_range hi2] at hi
    simp at hi
    subst hi
    have h3 := hqq i (by omega)
    rw [add_plain, add_plain] at h3
    exact ⟨(q' i).1.1, (q' i).1.2, h3⟩
theorem open_Stps {t e r s q : TypeId} {f0 f1 : Field} (ht : P.underlying t = some (.slice e)) (he : P.underlying e = some (.struct #[f0, f1])) (hr : P.underlying r = some (.slice s)) (hs : P.underlying s = some (.slice q)) (hq : P.underlying q = some (.int .i64)) (e0 : f0.type = r) (e1 : f1.type = r)
    (o0 : f0.offset = 0) (o1 : f1.offset = 1) (ce : P.cellsOf e = 2) (cr : P.cellsOf r = 1) (cs : P.cellsOf s = 1) (cq : P.cellsOf q = 1) {v : Value} {d : DataW H} {p : List MemPlace}
    (hv : Value.okWide P W .any base t v) (h : DataW.Trod enc P W 0 (fun _ => true) true t v d p) : ∃ xs, StpsR W v xs ∧ True := by
  obtain ⟨a, len, cap, rfl⟩ := okWide_slice ht hv
  obtain ⟨fuel, hf⟩ := h
  obtain ⟨xs, hxs⟩ := open_Stps_cells ht he hr hs hq e0 e1 o0 o1 ce cr cs cq (by simpa [Value.cells] using hf)
  exact ⟨xs, hxs, trivial⟩
end
end Go.Sd
namespace Go.Proofs.YtlkgkfgpnnahdaaGreat
open Go.RowKit Go.Deep Go.Sd

theorem infoS : (Tryz.prog.info? 26).map (fun i => (i.zero, i.size, i.bytes)) = some (some (.agg #[.slice none 0 0, .slice none 0 0]), 2, 48) := by kernel_rfl
def szLoopS : List (Tb × Tb) → Int → Int
  | [], l => l
  | x :: xs, l => if szStp x l < 0 then -1 else szLoopS xs (szStp x l)
def szStps (xs : List (Tb × Tb)) (l : Int) : Int := if l - xs.length < 0 then -1 else szLoopS xs (l - xs.length)
theorem szLoopS_bd : ∀ (xs : List (Tb × Tb)) (l : Int), 0 ≤ l → l ≤ 1048576 → -1 ≤ szLoopS xs l ∧ szLoopS xs l ≤ l ∧ (0 ≤ szLoopS xs l → ∀ x, x ∈ xs → StpSz x)
  | [], l, h, _ => ⟨by unfold szLoopS; omega, by unfold szLoopS; omega, fun _ t ht => by cases ht⟩
  | x :: xs, l, h, hl => by
    have h1 := szStp_bd x l h
    unfold szLoopS
    by_cases hn : szStp x l < 0
    · rw [if_pos hn]; exact ⟨by omega, by omega, fun h0 => by omega⟩
    · rw [if_neg hn]
      have h2 := szLoopS_bd xs (szStp x l) (by omega) (by omega)
      refine ⟨h2.1, by omega, fun h0 u hu => ?_⟩
      rcases List.mem_cons.1 hu with rfl | hu
      · exact StpSz.mk' u (cntStp_le u l h (by omega)) (by omega) hl
      · exact h2.2.2 h0 u hu
theorem szStps_bd (xs : List (Tb × Tb)) (l : Int) (h : 0 ≤ l) (hl : l ≤ 1048576) : -1 ≤ szStps xs l ∧ szStps xs l ≤ l ∧ (0 ≤ szStps xs l → (xs.length : Int) ≤ l ∧ ∀ x, x ∈ xs → StpSz x) := by
  unfold szStps
  by_cases hn : l - xs.length < 0
  · rw [if_pos hn]; exact ⟨by omega, by omega, fun h0 => by omega⟩
  · rw [if_neg hn]
    have h2 := szLoopS_bd xs (l - xs.length) (by omega) (by omega)
    exact ⟨h2.1, by omega, fun h0 => ⟨by omega, h2.2.2 h0⟩⟩
end Go.Proofs.YtlkgkfgpnnahdaaGreat
end

section
/-
  Lists of pairs of tables, copied.
-/
namespace Go.Sd
open Go.RowKit Go.Deep

/-- 'make([]T, n)', T a struct of two slices; the world is hidden. -/
theorem wpl_makeS {P : Program} {w : World} {ops : Array Oper} {rest : List Oper} {o : Oper} {a : Act} {Q : Exit → Act → World → Prop}
    (hg : o.guard = none) (l c : Operand) (t : TypeId) (hop : o.op = Op.makeSlice t l c)
    (e : TypeId) (bytes : Nat) (ht : P.underlying t = some (.slice e)) (hinfo : (P.info? e).map (fun i => (i.zero, i.size, i.bytes)) = some (some (.agg #[.slice none 0 0, .slice none 0 0]), 2, bytes))
    (n : Nat) (hl : a.eval l = .int .i64 (n : Int)) (hc : a.eval c = .int .i64 (n : Int)) (hbytes : bytes * n ≤ 281474976710656) (h63 : n ≤ 9223372036854775807)
    (hK : ∀ w', w.heap.size < w'.heap.size → (∀ j, j < n * 2 → w'.cell? ⟨w.heap.size, j, none⟩ = some (.slice none 0 0) ∧ w'.frozen? ⟨w.heap.size, j, none⟩ = false) → Below w.heap.size w w' → wpList P ops Q rest (a.put o.dst (.slice (some ⟨w.heap.size, 0, none⟩) n n)) w') :
    wpList P ops Q (o :: rest) a w := by
  obtain ⟨i, hi, hzz⟩ := Option.map_eq_some_iff.1 hinfo
  simp only [Prod.mk.injEq] at hzz
  obtain ⟨hz, hs, hb⟩ := hzz
  refine wpList_make_full w hg l c t hop 0 e i _ 2 ht hi hz hs .i64 .i64 _ _ n hl hc rfl rfl (by rw [hb]; exact hbytes) h63 (Nat.zero_le _) fun w' ho hgr => ?_
  rcases ho.2 with ⟨h, _⟩ | ⟨g, cap, cur, hv, _, hgp, hnc, _, hsz, hcur⟩
  · simp at h
  · simp at hv
    obtain ⟨rfl, rfl⟩ := hv
    have hlt : w.heap.size < w'.heap.size := by
      have := (Array.getElem?_eq_some_iff.1 hgp).1
      exact this
    refine hK w' hlt (fun j hj => ?_) ((Below.refl w.heap.size w).grown hgr (Nat.le_refl _) (by simp))
    have hj2 : cur[j]? = some (.slice none 0 0) := by
      have h1 : (cur.toList.take (n * 2))[j]? = some (.slice none 0 0) := by
        rw [hcur]
        simp [madeCells, Value.cells, hj]
        have h3 : j % 2 = 0 ∨ j % 2 = 1 := by omega
        rcases h3 with h | h <;> rw [h] <;> rfl
      rw [List.getElem?_take, if_pos hj] at h1
      simpa using h1
    constructor
    · simp [World.cell?, hgp, hj2]
    · simp [World.frozen?, hgp]
theorem New.fst_snd {eI eR : TypeId} {lo : Nat} {w : World} {v : Value} {x : Tb × Tb} (h : New (OStep eI eR) lo w v x) : ∃ v1 v2, v = .agg #[v1, v2] ∧ New (OTab eI eR) lo w v1 x.1 ∧ New (OTab eI eR) lo w v2 x.2 := by
  obtain ⟨F, ⟨v1, v2, F1, F2, rfl, h1, h2, rfl⟩, hn, hge⟩ := h
  have hn' := List.nodup_append.1 hn
  exact ⟨v1, v2, rfl, ⟨F1, h1, hn'.1, fun b hb => hge b (List.mem_append_left _ hb)⟩, ⟨F2, h2, hn'.2.1, fun b hb => hge b (List.mem_append_right _ hb)⟩⟩
/-- Cells that may be written. -/
def FreeV (w : World) (B m : Nat) : Prop := ∀ j, j < m → (∃ u, w.cell? ⟨B, j, none⟩ = some u) ∧ w.frozen? ⟨B, j, none⟩ = false
theorem FreeV.keep {w w' : World} {B m lo : Nat} (h : FreeV w B m) (hb : Below lo w w') (hlt : B < lo) : FreeV w' B m := fun j hj =>
  ⟨by obtain ⟨⟨u, hu⟩, _⟩ := h j hj; exact ⟨u, (hb.cell (p := ⟨B, j, none⟩) hlt).trans hu⟩, (hb.frozen (p := ⟨B, j, none⟩) hlt).trans (h j hj).2⟩
theorem FreeV.set {w : World} {B m : Nat} (h : FreeV w B m) (k : Nat) (u : Value) : FreeV (w.setCell ⟨B, k, none⟩ u) B m := fun j hj => by
  obtain ⟨⟨x, hx⟩, hf⟩ := h j hj
  refine ⟨?_, (World.frozen?_setCell _ _ _ _).trans hf⟩
  by_cases e : j = k
  · subst e; exact ⟨u, World.cell?_setCell_same _ _ _ hx⟩
  · exact ⟨x, (World.cell?_setCell_other _ _ _ _ (by simp <;> omega)).trans hx⟩
/-- The first k pairs lie in the block B. -/
def DoneS (eI eR : TypeId) (w : World) (B : Nat) (xs : List (Tb × Tb)) (k : Nat) : Prop :=
  ∀ i x, i < k → xs[i]? = some x → ∃ v1 v2, w.cell? ⟨B, i * 2, none⟩ = some v1 ∧ w.cell? ⟨B, i * 2 + 1, none⟩ = some v2 ∧ New (OTab eI eR) (B + 1) w v1 x.1 ∧ New (OTab eI eR) (B + 1) w v2 x.2
theorem DoneS.keep {eI eR : TypeId} {w w' : World} {B : Nat} {xs : List (Tb × Tb)} {k : Nat} (h : DoneS eI eR w B xs k) (hb : Below w.heap.size w w') (hlt : B < w.heap.size) : DoneS eI eR w' B xs k := fun i x hi hx => by
  obtain ⟨v1, v2, c1, c2, n1, n2⟩ := h i x hi hx
  exact ⟨v1, v2, (hb.cell (p := ⟨B, i * 2, none⟩) hlt).trans c1, (hb.cell (p := ⟨B, i * 2 + 1, none⟩) hlt).trans c2, n1.keep (OTab.kept _ _) hb (Nat.le_refl _), n2.keep (OTab.kept _ _) hb (Nat.le_refl _)⟩
theorem DoneS.next {eI eR : TypeId} {w : World} {B m : Nat} {xs : List (Tb × Tb)} {k : Nat} (h : DoneS eI eR w B xs k) (hfr : FreeV w B m) (hk : k * 2 + 1 < m) {x : Tb × Tb} (hx : xs[k]? = some x) {v1 v2 : Value} (n1 : New (OTab eI eR) (B + 1) w v1 x.1) (n2 : New (OTab eI eR) (B + 1) w v2 x.2) :
    DoneS eI eR ((w.setCell ⟨B, k * 2, none⟩ v1).setCell ⟨B, k * 2 + 1, none⟩ v2) B xs (k + 1) := fun i y hi hy => by
  have low : ∀ {v : Value} {t : Tb}, New (OTab eI eR) (B + 1) w v t → New (OTab eI eR) (B + 1) ((w.setCell ⟨B, k * 2, none⟩ v1).setCell ⟨B, k * 2 + 1, none⟩ v2) v t := fun h => Go.Proofs.YtlkgkfgpnnahdaaGreat.New.setCell_low (OTab.kept _ _).held (Go.Proofs.YtlkgkfgpnnahdaaGreat.New.setCell_low (OTab.kept _ _).held h (by simp) _) (by simp) _
  by_cases e : i = k
  · subst e
    obtain rfl : x = y := by rw [hx] at hy; exact Option.some.inj hy
    obtain ⟨⟨u1, hu1⟩, _⟩ := hfr (i * 2) (by omega)
    obtain ⟨⟨u2, hu2⟩, _⟩ := hfr (i * 2 + 1) hk
    refine ⟨v1, v2, (World.cell?_setCell_other _ _ _ _ (by simp)).trans (World.cell?_setCell_same _ _ _ hu1), World.cell?_setCell_same _ _ _ ((World.cell?_setCell_other _ _ _ _ (by simp)).trans hu2), low n1, low n2⟩
  · obtain ⟨y1, y2, c1, c2, m1, m2⟩ := h i y (by omega) hy
    refine ⟨y1, y2, ?_, ?_, low m1, low m2⟩
    · exact (World.cell?_setCell_other _ _ _ _ (by simp <;> omega)).trans ((World.cell?_setCell_other _ _ _ _ (by simp <;> omega)).trans c1)
    · exact (World.cell?_setCell_other _ _ _ _ (by simp <;> omega)).trans ((World.cell?_setCell_other _ _ _ _ (by simp <;> omega)).trans c2)
end Go.Sd
namespace Go.Proofs.YtlkgkfgpnnahdaaGreat
open Go.RowKit Go.Deep Go.Sd
end Go.Proofs.YtlkgkfgpnnahdaaGreat
end
