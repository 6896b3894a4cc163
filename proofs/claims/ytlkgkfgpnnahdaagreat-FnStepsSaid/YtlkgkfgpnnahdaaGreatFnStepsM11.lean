/-
  Texts of this claim joined: laws for its walks, contracts of the functions that the law reaches.
-/
import Derived.Test.YtlkgkfgpnnahdaaGreatFnStepsM1
import Derived.Test.YtlkgkfgpnnahdaaGreatFnStepsM3
import Derived.Test.YtlkgkfgpnnahdaaGreatFnStepsM9
import Derived.Test.YtlkgkfgpnnahdaaGreatFnStepsM10
import Derived.Test.YtlkgkfgpnnahdaaGreatFnStepsM7
import Derived.Test.YtlkgkfgpnnahdaaGreatRows
import Derived.Test.YtlkgkfgpnnahdaaGreatFnStepsM2
import Derived.Test.YtlkgkfgpnnahdaaGreatFnStepsM5
import Derived.IntWalk
import Derived.Deep.RegionHeld3
import Derived.Deep.DeepCutAuto
import Derived.Test.YtlkgkfgpnnahdaaGreatFnStepsM6
import Derived.Test.YtlkgkfgpnnahdaaGreatFnStepsM8
section
/-
  StepsFrom: the model, both ways to make it.
-/
namespace Go.Proofs.YtlkgkfgpnnahdaaGreat
open Go.RowKit Go.Deep Go.Sd
def smallT (m : Tbl) : Bool := m.all fun r => r.all fun x => decide (x ≤ 3)
/-- A matrix is put behind others if it fits and is not there. -/
def addT (out : List Tbl) (m : Tbl) (ok : Bool) : List Tbl := if ok = true ∧ m.length ≤ 4 ∧ smallT m = true ∧ m ∉ out then out ++ [m] else out
theorem addT_len (out : List Tbl) (m : Tbl) (ok : Bool) : (addT out m ok).length ≤ out.length + 1 := by unfold addT; split <;> simp
def overP (f : List Int → Tbl × Bool) : List (List Int) → List Tbl → List Tbl
  | [], o => o
  | p :: ps, o => overP f ps (addT o (f p).1 (f p).2)
def overN (f : Nat → List Tbl → List Tbl) : Nat → Nat → List Tbl → List Tbl
  | 0, _, o => o
  | n + 1, k, o => overN f n (k + 1) (f k o)
def splO (m : Tbl) (i : Nat) (o : List Tbl) : List Tbl := overP (fun p => (splitV m i p, splitOk m i p)) (partsV (m.getD i [])) o
def splI (m : Tbl) (i : Nat) (o : List Tbl) : List Tbl := overP (fun p => (splitInV m i p, splitInOk m i p)) (partsV ((turnT m m.length).getD i [])) o
def joiO (m : Tbl) (i : Nat) (o : List Tbl) : List Tbl := overN (fun j o => addT o (joinV m i j) (joinOk m i j)) (m.length - (i + 1)) (i + 1) o
def joiI (m : Tbl) (i : Nat) (o : List Tbl) : List Tbl := overN (fun j o => addT o (joinInV m i j) (joinInOk m i j)) (m.length - (i + 1)) (i + 1) o
def stepsV (m : Tbl) : List Tbl :=
  if isMat m = true ∧ m.length ≤ 4 then overN (joiI m) m.length 0 (overN (joiO m) m.length 0 (overN (splI m) m.length 0 (overN (splO m) m.length 0 []))) else []
theorem overP_same {f : List Int → Tbl × Bool} : ∀ (ps : List (List Int)) (o : List Tbl), (∀ p, p ∈ ps → addT o (f p).1 (f p).2 = o) → overP f ps o = o
  | [], _, _ => rfl
  | p :: ps, o, h => by
    unfold overP
    rw [h p (by simp)]
    exact overP_same ps o fun q hq => h q (by simp [hq])
theorem overN_same {f : Nat → List Tbl → List Tbl} : ∀ (n k : Nat) (o : List Tbl), (∀ i, f i o = o) → overN f n k o = o
  | 0, _, _, _ => rfl
  | n + 1, k, o, h => by unfold overN; rw [h k]; exact overN_same n (k + 1) o h
/-- Splits of four vertices have five. -/
theorem splO_four {m : Tbl} (h : m.length = 4) (i : Nat) (o : List Tbl) : splO m i o = o := by
  refine overP_same _ _ fun p _ => ?_
  unfold addT
  rw [if_neg]
  rintro ⟨h1, h2, _⟩
  simp only at h1 h2
  unfold splitV at h2
  rw [if_pos h1, (splitT_sq _ _ _ _).1] at h2
  omega
theorem turnV_len {m : Tbl} (h : isMat m = true) : (turnV m).length = m.length := by
  unfold turnV
  rw [if_pos h]
  exact (turnT_sq _ _).1
theorem splI_four {m : Tbl} (hm : isMat m = true) (h : m.length = 4) (i : Nat) (o : List Tbl) : splI m i o = o := by
  refine overP_same _ _ fun p _ => ?_
  unfold addT
  rw [if_neg]
  rintro ⟨h1, h2, _⟩
  simp only at h1 h2
  unfold splitInV at h2
  unfold splitInOk at h1
  rw [if_pos h1, (turnT_sq _ _).1] at h2
  unfold splitV at h2
  rw [if_pos h1, (splitT_sq _ _ _ _).1, turnV_len hm] at h2
  omega
theorem stepsV_spec (m : Tbl) (hm : isMat m = true) (h4 : m.length ≤ 4) :
    stepsV m = overN (joiI m) m.length 0 (overN (joiO m) m.length 0 (if m.length < 4 then overN (splI m) m.length 0 (overN (splO m) m.length 0 []) else [])) := by
  unfold stepsV
  rw [if_pos ⟨hm, h4⟩]
  by_cases h : m.length < 4
  · rw [if_pos h]
  · rw [if_neg h, overN_same (f := splO m) _ _ _ fun i => splO_four (by omega) i _, overN_same (f := splI m) _ _ _ fun i => splI_four hm (by omega) i _]
/-! How many there are. -/
theorem overP_len {f : List Int → Tbl × Bool} : ∀ (ps : List (List Int)) (o : List Tbl), (overP f ps o).length ≤ o.length + ps.length
  | [], _ => Nat.le_refl _
  | p :: ps, o => by
    unfold overP
    have h1 := overP_len (f := f) ps (addT o (f p).1 (f p).2)
    have h2 := addT_len o (f p).1 (f p).2
    rw [List.length_cons]
    omega
theorem overN_len {f : Nat → List Tbl → List Tbl} {c : Nat} (h : ∀ i o, (f i o).length ≤ o.length + c) : ∀ (n k : Nat) (o : List Tbl), (overN f n k o).length ≤ o.length + n * c
  | 0, _, _ => by simp [overN]
  | n + 1, k, o => by
    unfold overN
    have h1 := overN_len h n (k + 1) (f k o)
    have h2 := h k o
    rw [Nat.add_mul]
    omega
theorem splO_len (m : Tbl) (i : Nat) (o : List Tbl) : (splO m i o).length ≤ o.length + 256 := by
  have h1 := overP_len (f := fun p => (splitV m i p, splitOk m i p)) (partsV (m.getD i [])) o
  have h2 := (partsV_bd (m.getD i [])).1
  unfold splO
  omega
theorem splI_len (m : Tbl) (i : Nat) (o : List Tbl) : (splI m i o).length ≤ o.length + 256 := by
  have h1 := overP_len (f := fun p => (splitInV m i p, splitInOk m i p)) (partsV ((turnT m m.length).getD i [])) o
  have h2 := (partsV_bd ((turnT m m.length).getD i [])).1
  unfold splI
  omega
/-! Every one is a small square. -/
def GoodT (m : Tbl) : Prop := ∃ n, Sq n m ∧ 0 < n ∧ n ≤ 4
def AllG (o : List Tbl) : Prop := ∀ m, m ∈ o → GoodT m
theorem AllG.add {o : List Tbl} (h : AllG o) {m : Tbl} {ok : Bool} (hm : ok = true → ∃ n, Sq n m ∧ 0 < n) : AllG (addT o m ok) := by
  unfold addT
  split
  · rename_i h1
    obtain ⟨n, hs, h0⟩ := hm h1.1
    intro x hx
    rcases List.mem_append.1 hx with hx | hx
    · exact h x hx
    · simp at hx
      subst hx
      exact ⟨n, hs, h0, by rw [← hs.1]; exact h1.2.1⟩
  · exact h
theorem AllG.overP {f : List Int → Tbl × Bool} (hf : ∀ p, (f p).2 = true → ∃ n, Sq n (f p).1 ∧ 0 < n) : ∀ (ps : List (List Int)) {o : List Tbl}, AllG o → AllG (overP f ps o)
  | [], _, h => h
  | p :: ps, _, h => AllG.overP hf ps (h.add (hf p))
theorem AllG.overN {f : Nat → List Tbl → List Tbl} (hf : ∀ i o, AllG o → AllG (f i o)) : ∀ (n k : Nat) {o : List Tbl}, AllG o → AllG (overN f n k o)
  | 0, _, _, h => h
  | n + 1, k, _, h => AllG.overN hf n (k + 1) (hf k _ h)
theorem splO_sq {m : Tbl} {i : Int} {p : List Int} (h : splitOk m i p = true) : ∃ n, Sq n (splitV m i p) ∧ 0 < n := by
  obtain ⟨n, h1, h2, _⟩ := splitOk_sq h
  exact ⟨n, h1, h2⟩
theorem splI_sq {m : Tbl} {i : Int} {p : List Int} (h : splitInOk m i p = true) : ∃ n, Sq n (splitInV m i p) ∧ 0 < n := by
  unfold splitInOk at h
  obtain ⟨n, h1, h2, _⟩ := splitOk_sq h
  unfold splitInV
  rw [if_pos h]
  exact ⟨_, turnT_sq _ _, by rw [h1.1]; exact h2⟩
theorem joiO_sq {m : Tbl} {i j : Int} (h : joinOk m i j = true) : ∃ n, Sq n (joinV m i j) ∧ 0 < n := by
  obtain ⟨n, h1, h2, _⟩ := joinOk_sq h
  exact ⟨n, h1, h2⟩
theorem joiI_sq {m : Tbl} {i j : Int} (h : joinInOk m i j = true) : ∃ n, Sq n (joinInV m i j) ∧ 0 < n := by
  unfold joinInOk at h
  obtain ⟨n, h1, h2, _⟩ := joinOk_sq h
  unfold joinInV
  rw [if_pos h]
  exact ⟨_, turnT_sq _ _, by rw [h1.1]; exact h2⟩
theorem stepsV_good (m : Tbl) : AllG (stepsV m) := by
  unfold stepsV
  split
  · refine AllG.overN (fun i o h => ?_) _ _ (AllG.overN (fun i o h => ?_) _ _ (AllG.overN (fun i o h => ?_) _ _ (AllG.overN (fun i o h => ?_) _ _ (fun x hx => by cases hx))))
    · exact AllG.overN (fun j o h => h.add joiI_sq) _ _ h
    · exact AllG.overN (fun j o h => h.add joiO_sq) _ _ h
    · exact AllG.overP (fun p => splI_sq) _ h
    · exact AllG.overP (fun p => splO_sq) _ h
  · exact fun x hx => by cases hx
theorem stepsV_len (m : Tbl) : (stepsV m).length ≤ 2112 := by
  unfold stepsV
  split
  · rename_i h
    have h0 := overN_len (f := splO m) (c := 256) (splO_len m) m.length 0 []
    have h1 := overN_len (f := splI m) (c := 256) (splI_len m) m.length 0 (overN (splO m) m.length 0 [])
    have j : ∀ (i : Nat) (o : List Tbl), (joiO m i o).length ≤ o.length + 4 := fun i o => by
      have h := overN_len (f := fun j o => addT o (joinV m i j) (joinOk m i j)) (c := 1) (fun j o => addT_len o _ _) (m.length - (i + 1)) (i + 1) o
      unfold joiO
      omega
    have j2 : ∀ (i : Nat) (o : List Tbl), (joiI m i o).length ≤ o.length + 4 := fun i o => by
      have h := overN_len (f := fun j o => addT o (joinInV m i j) (joinInOk m i j)) (c := 1) (fun j o => addT_len o _ _) (m.length - (i + 1)) (i + 1) o
      unfold joiI
      omega
    have h2 := overN_len j m.length 0 (overN (splI m) m.length 0 (overN (splO m) m.length 0 []))
    have h3 := overN_len j2 m.length 0 (overN (joiO m) m.length 0 (overN (splI m) m.length 0 (overN (splO m) m.length 0 [])))
    have h4 := h.2
    have e1 : m.length * 256 ≤ 1024 := by omega
    have e2 : m.length * 4 ≤ 16 := by omega
    simp only [List.length_nil] at h0
    omega
  · simp
end Go.Proofs.YtlkgkfgpnnahdaaGreat
end

section
/-
  StepsFrom: a matrix is put behind others, both sides.
-/
namespace Go.Proofs.YtlkgkfgpnnahdaaGreat
open Go.RowKit Go.Deep Go.Sd
set_option linter.unusedSimpArgs false
abbrev Res.tabs (v : Value) (L : List Tbl) : Res := Res.of (OTabs 3 46 24) (OTabs.kept _ _ _).held v L
abbrev Res.tab (v : Value) (M : Tbl) : Res := Res.of (OTab 3 46) (OTab.kept _ _).held v M
def bigR (l : List Int) : Bool := l.any fun y => decide (3 < y)
theorem big_row (r : List Int) : bigR r = !(r.all fun x => decide (x ≤ 3)) := by
  unfold bigR
  rw [List.any_eq_not_all_not]
  congr 2
  funext y
  by_cases h : 3 < y
  · rw [decide_eq_true h, decide_eq_false (by omega)]; rfl
  · rw [decide_eq_false h, decide_eq_true (by omega)]; rfl
theorem big_small (m : Tbl) : m.any bigR = !smallT m := by
  unfold smallT
  rw [List.any_eq_not_all_not]
  congr 2
  funext r
  rw [big_row]; simp
def findX {α : Type} (p : α → Bool) : List α → Nat → Int
  | [], _ => -1
  | x :: xs, k => if p x = true then (k : Int) else findX p xs (k + 1)
theorem findX_any {α : Type} (p : α → Bool) : ∀ (xs : List α) (k : Nat), decide (0 ≤ findX p xs k) = xs.any p
  | [], _ => by simp [findX]
  | x :: xs, k => by
    unfold findX
    rw [List.any_cons]
    cases h : p x with
    | true => rw [if_pos rfl]; simp <;> omega
    | false => rw [if_neg (by simp), findX_any p xs (k + 1)]; simp
set_option maxHeartbeats 1000000 in
theorem max_c {w : World} {v : Value} {row : List Int} (h : Ints w v row) (h0 : 0 < row.length) :
    Calls Tryz.prog 81 #[v] w fun e w' => ∃ x : Int, e = .returned (.int .i64 x) ∧ decide (3 < x) = bigR row ∧ w = w' := by
  obtain ⟨a, c, rfl, _, hc63, hcell⟩ := h.shape
  obtain ⟨b, o, rfl, hb, hx0⟩ := hcell h0
  have hlen := h.len
  clear h hcell
  obtain ⟨y0, hy0, _⟩ := at_lt h0
  obtain ⟨u0, hu0, rfl⟩ := hx0 0 y0 hy0
  rw [Nat.add_zero] at hu0
  have H0 := Lib.hid (show decide (3 < y0) = bigR (row.take 1) from by
    rw [show row.take 1 = [y0] from by cases row with
      | nil => simp at h0
      | cons z r => simp at hy0; subst hy0; simp]
    simp [bigR])
  obtain ⟨n, hn⟩ : ∃ n, n = row.length := ⟨_, rfl⟩
  have Hn := Lib.hid hn
  have Hx := Lib.hid (fun i x (hi : row[i]? = some x) => (show w.cell? ⟨b, o + i, none⟩ = some (.int .i64 x) from by obtain ⟨u, hu, rfl⟩ := hx0 i x hi; exact hu))
  rw [← hn] at h0 hlen ⊢
  have hn1 : ¬ ((n : Int) < 1) := by omega
  clear hn hy0 hx0
  go_enter Tryz.func81, Tryz.ntmps81
  go_wp2
  go_loopg [3, 4] (n - 1) (fun g m i wr => ∃ (k : Nat) (y : Int), m = .int .i64 y ∧ i = .int .i64 k ∧ k + g = n ∧ 1 ≤ k ∧ Hid (decide (3 < y) = bigR (row.take k)) ∧ w = wr)
  case atStart => exact ⟨1, y0, rfl, rfl, by omega, by omega, H0, rfl⟩
  case round =>
    clear H0 hu0
    obtain ⟨k, y, rfl, rfl, hk, hk1, HK, rfl⟩ := hrel
    by_cases hlt : k < n
    · obtain ⟨x, hx, _⟩ := at_lt (xs := row) (k := k) (by have := Hn.out; omega)
      have hu := Hx.out k x hx
      have HK2 := Lib.hid (show decide (3 < max y x) = bigR (row.take (k + 1)) from by
        rw [← take_snoc' hx]
        have h1 := HK.out
        unfold bigR at h1 ⊢
        rw [List.any_append, ← h1]
        simp only [List.any_cons, List.any_nil, Bool.or_false]
        by_cases q1 : 3 < y
        · by_cases q2 : 3 < x
          · rw [decide_eq_true q1, decide_eq_true q2, decide_eq_true (by omega)]; rfl
          · rw [decide_eq_true q1, decide_eq_false q2, decide_eq_true (by omega)]; rfl
        · by_cases q2 : 3 < x
          · rw [decide_eq_false q1, decide_eq_true q2, decide_eq_true (by omega)]; rfl
          · rw [decide_eq_false q1, decide_eq_false q2, decide_eq_false (by omega)]; rfl)
      have hki : (k : Int) < (n : Int) := by omega
      clear hx HK
      have HKx := Lib.hid (fun (h : y ≤ x) => (show decide (3 < x) = bigR (row.take (k + 1)) from by have h2 := HK2.out; rwa [show max y x = x by omega] at h2))
      have HKy := Lib.hid (fun (h : x ≤ y) => (show decide (3 < y) = bigR (row.take (k + 1)) from by have h2 := HK2.out; rwa [show max y x = y by omega] at h2))
      clear HK2
      go_wp2
      all_goals (
        go_roundg (n - (k + 1))
        case measure => omega
        case rel => first | exact ⟨k + 1, x, rfl, by go_num, by omega, by omega, Lib.hid (HKx.out (by omega)), rfl⟩ | exact ⟨k + 1, y, rfl, by go_num, by omega, by omega, Lib.hid (HKy.out (by omega)), rfl⟩)
    · have HF := Lib.hid (show decide (3 < y) = bigR row from by have h := HK.out; rwa [List.take_of_length_le (by have := Hn.out; omega)] at h)
      have hki : ¬ ((k : Int) < (n : Int)) := by omega
      clear HK
      go_wp2
      go_ret
      exact ⟨y, rfl, HF.out, rfl⟩
set_option maxHeartbeats 400000 in
theorem bigclo_c {w : World} {v : Value} {row : List Int} (h : Ints w v row) (h0 : 0 < row.length) :
    Calls Tryz.prog 80 #[v] w (Reads w (.bool (bigR row))) := by
  have Hm := Lib.hid (max_c h h0)
  obtain ⟨a, c, rfl, -⟩ := h.shape
  generalize row.length = n at *
  generalize bigR row = T at Hm ⊢
  clear h h0
  go_enter Tryz.func80, Tryz.ntmps80
  go_wp2_with fail
  refine Hm.out.mono ?_
  rintro e w' ⟨x, rfl, hx, rfl⟩
  have HF := Lib.hid hx
  clear hx
  go_wp2
  go_ret
  exact ⟨by rw [← HF.out]; rfl, Drawn.refl _⟩
set_option maxHeartbeats 400000 in
theorem sameclo_c {w : World} {v vm : Value} {bx : Nat} {x M : Tbl} (hx : Tab w v x) (hM : Tab w vm M) (hb : w.cell? ⟨bx, 0, none⟩ = some vm) :
    Calls Tryz.prog 83 #[v, .pointer (some ⟨bx, 0, none⟩)] w (Reads w (.bool (decide (M = x)))) := by
  have Hm := Lib.hid (impl_EqualMatrix_c hM hx)
  obtain ⟨a, c, rfl, -⟩ := hx.shape
  obtain ⟨a2, c2, rfl, -⟩ := hM.shape
  generalize decide (M = x) = T at Hm ⊢
  generalize x.length = n at *
  generalize M.length = n2 at *
  clear hx hM
  go_enter Tryz.func83, Tryz.ntmps83
  go_wp2_with fail
  refine Hm.out.mono ?_
  rintro e w' ⟨rfl, hd⟩
  have HD := Lib.hid hd
  clear hd Hm
  go_wp2
  go_ret
  exact ⟨rfl, HD.out⟩
set_option maxHeartbeats 1000000 in
theorem bigs_i {w : World} {v : Value} {xs : List (List Int)} (h : SlOf Ints w v xs) (hne : ∀ r, r ∈ xs → 0 < r.length) :
    Calls Tryz.prog 103 #[v, .func (.func 80) #[] #[]] w (Reads w (.int .i64 (findX bigR xs 0))) := by
  have hlen := h.len
  obtain ⟨a, c, rfl, _, _, hcell⟩ := h.shape
  clear h
  have H0 := Lib.hid (show findX bigR xs 0 = findX bigR (xs.drop 0) 0 from rfl)
  generalize findX bigR xs 0 = T at H0 ⊢
  have Hclo := Lib.hid (fun (wr : World) (hd : Drawn w wr) vl l (hl : Ints wr vl l) (hm : l ∈ xs) => bigclo_c hl (hne l hm))
  obtain ⟨n, hn⟩ : ∃ n, n = xs.length := ⟨_, rfl⟩
  have Hn := Lib.hid hn
  rw [← hn] at hlen hcell ⊢
  clear hn hne
  go_enter Tryz.func103, Tryz.ntmps103
  go_wp2
  go_loopg [8] n (fun g i wr => ∃ (k : Nat), i = .int .i64 k ∧ k + g = n ∧ Hid (T = findX bigR (xs.drop k) k) ∧ Drawn w wr)
  case atStart => exact ⟨0, rfl, by omega, H0, Drawn.refl _⟩
  case round =>
    obtain ⟨k, rfl, hk, HK, hdr⟩ := hrel
    by_cases hlt : k < n
    · obtain ⟨b, o, rfl, hb, hx0⟩ := hcell (by omega)
      obtain ⟨x, hx, hd⟩ := at_lt (xs := xs) (k := k) (by have := Hn.out; omega)
      obtain ⟨u, hu, hux⟩ := hx0 k x hx
      rw [← hdr.cell] at hu
      have Hc := Lib.hid (Hclo.out wr hdr u x (hdr.read Ints.frame hux) (List.mem_of_getElem? hx))
      have HK1 := Lib.hid (show T = if bigR x = true then (k : Int) else findX bigR (xs.drop (k + 1)) (k + 1) from by rw [HK.out, hd]; rfl)
      obtain ⟨ua, uc, rfl, _, _, _⟩ := hux.shape
      generalize x.length = xn at *
      have Hdr := Lib.hid hdr
      have hkn : (k : Int) < (n : Int) := by omega
      clear hx hd hx0 hcell HK H0 hux hdr
      try simp only at Hc HK1
      generalize bigR x = d at Hc HK1
      cases d with
      | true =>
        have HF := Lib.hid (show T = (k : Int) from by rw [HK1.out, if_pos rfl])
        go_wp2_with fail
        refine Hc.out.mono ?_
        rintro e w2 ⟨rfl, hd2⟩
        have HZ := Lib.hid (Hdr.out.trans hd2)
        clear hd2 HK1
        go_wp2
        go_ret
        exact ⟨by rw [HF.out]; rfl, HZ.out⟩
      | false =>
        have HF := Lib.hid (show T = findX bigR (xs.drop (k + 1)) (k + 1) from by rw [HK1.out, if_neg (by simp)])
        go_wp2_with fail
        refine Hc.out.mono ?_
        rintro e w2 ⟨rfl, hd2⟩
        have HZ := Hdr.out.trans hd2
        clear hd2 HK1
        go_wp2
        go_roundg (n - (k + 1))
        case measure => omega
        case rel => exact ⟨k + 1, by go_num, by omega, HF, HZ⟩
    · have HF := Lib.hid (show T = -1 from by rw [HK.out, drop_len (by have := Hn.out; omega)]; rfl)
      clear HK H0 hcell
      go_wp2
      go_ret
      exact ⟨by rw [HF.out]; rfl, hdr⟩
set_option maxHeartbeats 400000 in
theorem bigs_c {w : World} {v : Value} {xs : List (List Int)} (h : SlOf Ints w v xs) (hne : ∀ r, r ∈ xs → 0 < r.length) :
    Calls Tryz.prog 79 #[v, .func (.func 80) #[] #[]] w (Reads w (.bool (xs.any bigR))) := by
  have Hi := Lib.hid (bigs_i h hne)
  have HF := Lib.hid (findX_any bigR xs 0)
  obtain ⟨a, c, rfl, -⟩ := h.shape
  generalize xs.any bigR = T at HF ⊢
  generalize findX bigR xs 0 = r at Hi HF
  generalize xs.length = n at *
  clear h hne
  go_enter Tryz.func79, Tryz.ntmps79
  go_wp2_with fail
  refine Hi.out.mono ?_
  rintro e w' ⟨rfl, hd⟩
  have HD := Lib.hid hd
  clear hd Hi
  go_wp2
  go_ret
  exact ⟨by rw [← HF.out]; first | rfl | simp, HD.out⟩
set_option maxHeartbeats 1000000 in
theorem sames_i {w : World} {v : Value} {vm : Value} {bx : Nat} {M : Tbl} {xs : List Tbl} (h : SlOf Tab w v xs) (hM : Tab w vm M) (hbx : w.cell? ⟨bx, 0, none⟩ = some vm) :
    Calls Tryz.prog 104 #[v, .func (.func 83) #[] #[.pointer (some ⟨bx, 0, none⟩)]] w (Reads w (.int .i64 (findX (fun x => decide (M = x)) xs 0))) := by
  obtain ⟨p, hp⟩ : ∃ p : Tbl → Bool, p = (fun x => decide (M = x)) := ⟨_, rfl⟩
  rw [← hp]
  have hlen := h.len
  obtain ⟨a, c, rfl, _, _, hcell⟩ := h.shape
  clear h
  have H0 := Lib.hid (show findX p xs 0 = findX p (xs.drop 0) 0 from rfl)
  generalize findX p xs 0 = T at H0 ⊢
  have Hclo := Lib.hid (fun (wr : World) (hd : Drawn w wr) vl l (hl : Tab wr vl l) (hm : l ∈ xs) => (show Calls Tryz.prog 83 #[vl, .pointer (some ⟨bx, 0, none⟩)] wr (Reads wr (.bool (p l))) from by rw [hp]; exact sameclo_c hl (hd.read Tab.frame hM) (by rw [hd.cell]; exact hbx)))
  obtain ⟨n, hn⟩ : ∃ n, n = xs.length := ⟨_, rfl⟩
  have Hn := Lib.hid hn
  rw [← hn] at hlen hcell ⊢
  clear hn hM hbx hp
  go_enter Tryz.func104, Tryz.ntmps104
  go_wp2
  go_loopg [8] n (fun g i wr => ∃ (k : Nat), i = .int .i64 k ∧ k + g = n ∧ Hid (T = findX p (xs.drop k) k) ∧ Drawn w wr)
  case atStart => exact ⟨0, rfl, by omega, H0, Drawn.refl _⟩
  case round =>
    obtain ⟨k, rfl, hk, HK, hdr⟩ := hrel
    by_cases hlt : k < n
    · obtain ⟨b, o, rfl, hb, hx0⟩ := hcell (by omega)
      obtain ⟨x, hx, hd⟩ := at_lt (xs := xs) (k := k) (by have := Hn.out; omega)
      obtain ⟨u, hu, hux⟩ := hx0 k x hx
      rw [← hdr.cell] at hu
      have Hc := Lib.hid (Hclo.out wr hdr u x (hdr.read Tab.frame hux) (List.mem_of_getElem? hx))
      have HK1 := Lib.hid (show T = if p x = true then (k : Int) else findX p (xs.drop (k + 1)) (k + 1) from by rw [HK.out, hd]; rfl)
      obtain ⟨ua, uc, rfl, _, _, _⟩ := hux.shape
      generalize x.length = xn at *
      have Hdr := Lib.hid hdr
      have hkn : (k : Int) < (n : Int) := by omega
      clear hx hd hx0 hcell HK H0 hux hdr
      try simp only at Hc HK1
      generalize p x = d at Hc HK1
      cases d with
      | true =>
        have HF := Lib.hid (show T = (k : Int) from by rw [HK1.out, if_pos rfl])
        go_wp2_with fail
        refine Hc.out.mono ?_
        rintro e w2 ⟨rfl, hd2⟩
        have HZ := Lib.hid (Hdr.out.trans hd2)
        clear hd2 HK1
        go_wp2
        go_ret
        exact ⟨by rw [HF.out]; rfl, HZ.out⟩
      | false =>
        have HF := Lib.hid (show T = findX p (xs.drop (k + 1)) (k + 1) from by rw [HK1.out, if_neg (by simp)])
        go_wp2_with fail
        refine Hc.out.mono ?_
        rintro e w2 ⟨rfl, hd2⟩
        have HZ := Hdr.out.trans hd2
        clear hd2 HK1
        go_wp2
        go_roundg (n - (k + 1))
        case measure => omega
        case rel => exact ⟨k + 1, by go_num, by omega, HF, HZ⟩
    · have HF := Lib.hid (show T = -1 from by rw [HK.out, drop_len (by have := Hn.out; omega)]; rfl)
      clear HK H0 hcell
      go_wp2
      go_ret
      exact ⟨by rw [HF.out]; rfl, hdr⟩
set_option maxHeartbeats 400000 in
theorem sames_c {w : World} {v : Value} {vm : Value} {bx : Nat} {M : Tbl} {xs : List Tbl} (h : SlOf Tab w v xs) (hM : Tab w vm M) (hbx : w.cell? ⟨bx, 0, none⟩ = some vm) :
    Calls Tryz.prog 82 #[v, .func (.func 83) #[] #[.pointer (some ⟨bx, 0, none⟩)]] w (Reads w (.bool (xs.any (fun x => decide (M = x))))) := by
  have Hi := Lib.hid (sames_i h hM hbx)
  have HF := Lib.hid (findX_any (fun x => decide (M = x)) xs 0)
  obtain ⟨a, c, rfl, -⟩ := h.shape
  generalize xs.any (fun x => decide (M = x)) = T at HF ⊢
  generalize findX (fun x => decide (M = x)) xs 0 = r at Hi HF
  generalize xs.length = n at *
  clear h hM hbx
  go_enter Tryz.func82, Tryz.ntmps82
  go_wp2_with fail
  refine Hi.out.mono ?_
  rintro e w' ⟨rfl, hd⟩
  have HD := Lib.hid hd
  clear hd Hi
  go_wp2
  go_ret
  exact ⟨by rw [← HF.out]; first | rfl | simp, HD.out⟩
end Go.Proofs.YtlkgkfgpnnahdaaGreat
end

section
/-
  StepsFrom: a matrix is put behind others, both sides: the program's method and the reference's function.
-/
namespace Go.Proofs.YtlkgkfgpnnahdaaGreat
open Go.RowKit Go.Deep Go.Sd
set_option linter.unusedSimpArgs false
theorem any_mem (L : List Tbl) (M : Tbl) : (L.any fun x => decide (M = x)) = decide (M ∈ L) := by
  rw [Bool.eq_iff_iff]
  simp
theorem addT_no {L : List Tbl} {M : Tbl} {ok : Bool} (h : ¬ (ok = true ∧ M.length ≤ 4 ∧ smallT M = true ∧ M ∉ L)) : addT L M ok = L := if_neg h
theorem addT_yes {L : List Tbl} {M : Tbl} (h4 : M.length ≤ 4) (hs : smallT M = true) (hm : M ∉ L) : addT L M true = L ++ [M] := if_pos ⟨rfl, h4, hs, hm⟩
set_option maxHeartbeats 4000000 in
set_option maxRecDepth 100000 in
theorem add_c {w : World} {lo bc : Nat} {sl v : Value} {L : List Tbl} {M : Tbl} {ok : Bool} {rs : List Res} (hs : Sep lo w (Res.box bc [sl] :: Res.tabs sl L :: Res.tab v M :: rs)) (hlo : lo ≤ w.heap.size) (hok : ok = true → ∃ n, Sq n M ∧ 0 < n) (hL : L.length ≤ 100000) :
    Calls Tryz.prog 46 #[.pointer (some ⟨bc, 0, none⟩), v, .bool ok] w fun e w' => e = .returned (.tuple #[]) ∧ (∃ sl', Sep lo w' (Res.box bc [sl'] :: Res.tabs sl' (addT L M ok) :: rs)) ∧ Below lo w w' := by
  obtain ⟨va, vc, rfl, -⟩ := (New.tab hs.third.headNew).shape
  obtain ⟨la, lc, rfl, -⟩ := (New.tabs hs.tail.headNew).shape
  have hsx := hs.boxNew hlo [.slice va M.length vc] 24
  obtain ⟨w1, e1⟩ : ∃ x, x = w.alloc (.cells #[.slice va M.length vc] 24) := ⟨_, rfl⟩
  have hs1 : Sep lo w1 (Res.box w.heap.size [.slice va M.length vc] :: Res.box bc [.slice la L.length lc] :: Res.tabs (.slice la L.length lc) L :: Res.tab (.slice va M.length vc) M :: rs) := by rw [e1]; exact hsx
  have hb1 : Below w.heap.size w w1 := by rw [e1]; exact (Below.refl _ _).alloc (Nat.le_refl _) _
  have e1s := e1.symm
  obtain ⟨-, mx, hcx⟩ := hs1.headBox
  have cx := (hcx 0 _ rfl).1
  obtain ⟨-, mb, hcb⟩ := hs1.swap.headBox
  have cb := (hcb 0 _ rfl).1
  have HS1 := Lib.hid hs1
  have HB1 := Lib.hid (hb1.mono hlo)
  have hlo1 : lo ≤ w1.heap.size := Nat.le_trans hlo hb1.size
  have HTm := Lib.hid (New.tab (hs1.front [_, _, _]).headNew)
  have HTl := Lib.hid (New.tabs (hs1.front [_, _]).headNew)
  have Hok := Lib.hid hok
  have HL := Lib.hid hL
  clear hs hsx hs1 hb1 e1 hcx hcb hok hL
  cases ok with
  | false =>
    have HF := Lib.hid (show addT L M false = L from addT_no (by simp))
    clear HTm HTl Hok cb
    go_enter Tryz.func46, Tryz.ntmps46
    go_wp2
    refine bodyPost_ret (v := .tuple #[]) (by simp [results, Tryz.results46, go_sem]) rfl ?_
    exact ⟨rfl, ⟨_, by rw [HF.out]; exact HS1.out.tail.third.tail⟩, HB1.out⟩
  | true =>
  by_cases h4 : 4 < M.length
  · have HF := Lib.hid (show addT L M true = L from addT_no (by rintro ⟨-, h, -⟩; omega))
    have h4i : (4 : Int) < (M.length : Int) := by omega
    clear HTm HTl Hok cb h4
    go_enter Tryz.func46, Tryz.ntmps46
    go_wp2
    refine bodyPost_ret (v := .tuple #[]) (by simp [results, Tryz.results46, go_sem]) rfl ?_
    exact ⟨rfl, ⟨_, by rw [HF.out]; exact HS1.out.tail.third.tail⟩, HB1.out⟩
  obtain ⟨n, hsq, hn0⟩ := Hok.out rfl
  have HC1 := Lib.hid (show Calls Tryz.prog 79 #[.slice va M.length vc, .func (.func 80) #[] #[]] w1 (Reads w1 (.bool (!smallT M))) from by rw [← big_small]; exact bigs_c HTm.out (fun r hr => by rw [hsq.2 r hr]; exact hn0))
  have h4i : ¬ ((4 : Int) < (M.length : Int)) := by omega
  have HC2 := Lib.hid (fun w2 (hd : Drawn w1 w2) => (show Calls Tryz.prog 82 #[.slice la L.length lc, .func (.func 83) #[] #[.pointer (some ⟨w.heap.size, 0, none⟩)]] w2 (Reads w2 (.bool (decide (M ∈ L)))) from by
    rw [← any_mem]
    exact sames_c (hd.read Tabs.frame HTl.out) (hd.read Tab.frame HTm.out) (by rw [hd.cell]; exact cx)))
  have HNo := Lib.hid (fun (h : smallT M = false) => (show addT L M true = L from addT_no (by rintro ⟨-, -, h2, -⟩; rw [h] at h2; cases h2)))
  have HIn := Lib.hid (fun (h : decide (M ∈ L) = true) => (show addT L M true = L from addT_no (by rintro ⟨-, -, -, h2⟩; exact h2 (of_decide_eq_true h))))
  have HYe := Lib.hid (fun (h : smallT M = true) (h2 : decide (M ∈ L) = false) => (show addT L M true = L ++ [M] from addT_yes (by omega) h (of_decide_eq_false h2)))
  generalize smallT M = sm at HC1 HNo HYe
  generalize decide (M ∈ L) = mem at HC2 HIn HYe
  have hmf : ∀ (fn : Fn) (first cap : Array Value) (w : World), (Instr.makeFunc fn first cap).run Tryz.prog w = .ok (.func fn first cap) w := fun _ _ _ _ => rfl
  clear HTm HTl Hok hsq hn0 h4
  go_enter Tryz.func46, Tryz.ntmps46
  go_wp2_with fail
  refine HC1.out.mono ?_
  rintro e w2 ⟨rfl, hd⟩
  have Hd := Lib.hid hd
  replace cx := (hd.cell ⟨w.heap.size, 0, none⟩).trans cx
  replace cb := (hd.cell ⟨bc, 0, none⟩).trans cb
  clear hd e1s
  cases sm with
  | false =>
    have HF := Lib.hid (HNo.out (by first | rfl | trivial))
    clear HC1 HC2 HNo HIn HYe cx cb
    go_wp2
    refine bodyPost_ret (v := .tuple #[]) (by simp [results, Tryz.results46, go_sem]) rfl ?_
    exact ⟨rfl, ⟨_, by rw [HF.out]; exact (HS1.out.tail.third.tail).below (Hd.out.below _) (Nat.le_refl _)⟩, HB1.out.trans ((Hd.out.below _).mono hlo1)⟩
  | true =>
  go_wp2_with fail
  refine (HC2.out _ Hd.out).mono ?_
  rintro e w3 ⟨rfl, hd3⟩
  have Hd3 := Lib.hid (Hd.out.trans hd3)
  replace cx := (hd3.cell ⟨w.heap.size, 0, none⟩).trans cx
  replace cb := (hd3.cell ⟨bc, 0, none⟩).trans cb
  clear hd3 Hd HC1 HC2 hmf
  have HS3 := Lib.hid (HS1.out.below (Hd3.out.below _) (Nat.le_refl _))
  have HB3 := Lib.hid (HB1.out.trans ((Hd3.out.below _).mono hlo1))
  have hz3 : w1.heap.size ≤ w3.heap.size := (Hd3.out.below 0).size
  clear HS1 HB1 Hd3
  cases mem with
  | true =>
    have HF := Lib.hid (HIn.out (by first | rfl | trivial))
    clear HNo HIn HYe cx cb
    go_wp2
    refine bodyPost_end (v := .tuple #[]) (by simp [results, Tryz.results46, go_sem]) rfl ?_
    exact ⟨rfl, ⟨_, by rw [HF.out]; exact HS3.out.tail.third.tail⟩, HB3.out⟩
  | false =>
    have HF := Lib.hid (HYe.out (by first | rfl | trivial) (by first | rfl | trivial))
    clear HNo HIn HYe
    have mb3 : bc < w3.heap.size := by omega
    have mx3 : w.heap.size < w3.heap.size := by omega
    have B1 := ((Below.refl w3.heap.size w3).alloc (Nat.le_refl _) (.cells #[.slice va M.length vc] 24)).drew
    obtain ⟨v', w4, hr, hs4, hb4⟩ := ((HS3.out.front [_, _]).front [_, _, _]).swap.absorb (P := Tryz.prog) (OTab.kept 3 46) 33 33 (.slice none 0 0) 24 Tryz.underlying33 infoT rfl (by omega) (w1 := (w3.alloc (.cells #[.slice va M.length vc] 24)).drew) B1 (bb := w3.heap.size) (c := 1) (World.cell?_alloc_at _ _ _ 0 rfl) (by have := HL.out; omega) (by have := HL.out; omega)
    obtain ⟨za, zc, rfl, -⟩ := (New.tabs hs4.headNew).shape
    have hs5 := hs4.third
    obtain ⟨-, -, hcb⟩ := hs5.headBox
    have cb4 := (hcb 0 _ rfl).1
    have cb4f := (hcb 0 _ rfl).2
    obtain ⟨-, -, hcx⟩ := (hs4.front [_]).headBox
    have cx4 := (hcx 0 _ rfl).1
    have hst := hs5.boxStore (by have := hb4.size; omega) (j := 0) rfl (.slice za (L ++ [M]).length zc)
    have HST := Lib.hid (show Sep lo (w4.setCell ⟨bc, 0, none⟩ (.slice za (L ++ [M]).length zc)) (Res.box bc [.slice za (L ++ [M]).length zc] :: Res.tabs (.slice za (L ++ [M]).length zc) (L ++ [M]) :: rs) from hst.third.tail)
    have hbc := (HS3.out.swap.headBox).1
    have HBs := Lib.hid ((HB3.out.trans hb4).setCell (p := ⟨bc, 0, none⟩) hbc (.slice za (L ++ [M]).length zc))
    have Hr := Lib.hid hr
    have hSd : w3.drew.cell? ⟨bc, 0, none⟩ = some (.slice la L.length lc) ∧ w3.drew.cell? ⟨w.heap.size, 0, none⟩ = some (.slice va M.length vc) := ⟨cb, cx⟩
    have hS1 : ((w3.alloc (.cells #[.slice va M.length vc] 24)).drew).cell? ⟨bc, 0, none⟩ = some (.slice la L.length lc) ∧ ((w3.alloc (.cells #[.slice va M.length vc] 24)).drew).cell? ⟨w.heap.size, 0, none⟩ = some (.slice va M.length vc) := ⟨(B1.cell (p := ⟨bc, 0, none⟩) mb3).trans cb, (B1.cell (p := ⟨w.heap.size, 0, none⟩) mx3).trans cx⟩
    have hS2 : w4.cell? ⟨bc, 0, none⟩ = some (.slice la L.length lc) ∧ w4.cell? ⟨w.heap.size, 0, none⟩ = some (.slice va M.length vc) := ⟨cb4, cx4⟩
    generalize (L ++ [M]).length = ln at *
    clear HS3 HB3 B1 hr hs4 hb4 hs5 hcb hcx hst HL
    go_wp2
    refine wp_region_L (fun w' => w'.cell? ⟨bc, 0, none⟩ = some (.slice la L.length lc) ∧ w'.cell? ⟨w.heap.size, 0, none⟩ = some (.slice va M.length vc)) (by kernel_rfl) ?_
    refine wpAnyL_take 0 (v := ?_) rfl (by kernel_rfl) (by kernel_rfl) (by kernel_rfl) (by kernel_rfl) (fun _ _ _ h => h) (Or.inl ⟨by rfl, ?_⟩) hSd ?_
    rotate_left
    · (intro w hSw; (try dsimp only at hSw); go_simp) <;> (try with_reducible rfl)
    try simp only [Act.put, List.setIfInBounds_toArray, List.set_cons_zero, List.set_cons_succ]
    refine wpAnyL_take 1 (v := ?_) rfl (by kernel_rfl) (by kernel_rfl) (by kernel_rfl) (by kernel_rfl) (fun _ _ _ h => h) (Or.inl ⟨by rfl, ?_⟩) hSd ?_
    rotate_left
    · (intro w hSw; (try dsimp only at hSw); go_simp) <;> (try with_reducible rfl)
    try simp only [Act.put, List.setIfInBounds_toArray, List.set_cons_zero, List.set_cons_succ]
    refine wpAnyL_take 2 (v := ?_) rfl (by kernel_rfl) (by kernel_rfl) (by kernel_rfl) (by kernel_rfl) (fun _ _ _ h => h) (Or.inl ⟨by rfl, ?_⟩) hSd ?_
    rotate_left
    · (intro w hSw; (try dsimp only at hSw); go_simp) <;> (try with_reducible rfl)
    try simp only [Act.put, List.setIfInBounds_toArray, List.set_cons_zero, List.set_cons_succ]
    refine wpAnyL_take 3 (v := ?_) rfl (by kernel_rfl) (by kernel_rfl) (by kernel_rfl) (by kernel_rfl) (fun _ _ _ h => h) (Or.inl ⟨by rfl, ?_⟩) hSd ?_
    rotate_left
    · (intro w hSw; (try dsimp only at hSw); go_simp) <;> (try with_reducible rfl)
    try simp only [Act.put, List.setIfInBounds_toArray, List.set_cons_zero, List.set_cons_succ]
    refine wpAnyL_take 4 (v := ?_) rfl (by kernel_rfl) (by kernel_rfl) (by kernel_rfl) (by kernel_rfl) (fun _ _ _ h => h) (Or.inl ⟨by rfl, ?_⟩) hSd ?_
    rotate_left
    · (intro w hSw; (try dsimp only at hSw); go_simp) <;> (try with_reducible rfl)
    try simp only [Act.put, List.setIfInBounds_toArray, List.set_cons_zero, List.set_cons_succ]
    refine wpAnyL_take 5 (v := ?_) rfl (by kernel_rfl) (by kernel_rfl) (by kernel_rfl) (by kernel_rfl) (fun _ _ _ h => h) (Or.inl ⟨by rfl, ?_⟩) hSd ?_
    rotate_left
    · (intro w hSw; (try dsimp only at hSw); go_simp) <;> (try with_reducible rfl)
    try simp only [Act.put, List.setIfInBounds_toArray, List.set_cons_zero, List.set_cons_succ]
    refine wpAnyL_one 6 (by kernel_rfl) rfl (fun K hK => ?_)
    go_simp
    refine hK.out _ _ (fun _ => hS1) ?_
    clear hK K
    try simp only [Act.put, List.setIfInBounds_toArray, List.set_cons_zero, List.set_cons_succ]
    refine wpAnyL_one 7 (by kernel_rfl) rfl (fun K hK => ?_)
    refine step_append_run (by rfl) (.tmp 28) (.tmp 30) 33 (by rfl) (by rfl) (by rfl) Hr.out ?_
    refine hK.out _ _ (fun _ => hS2) ?_
    clear hK K
    try simp only [Act.put, List.setIfInBounds_toArray, List.set_cons_zero, List.set_cons_succ]
    refine wpAnyL_take 8 (v := ?_) rfl (by kernel_rfl) (by kernel_rfl) (by kernel_rfl) (by kernel_rfl) (fun _ _ _ h => h) (Or.inl ⟨by rfl, ?_⟩) hS2 ?_
    rotate_left
    · (intro w hSw; (try dsimp only at hSw); go_simp) <;> (try with_reducible rfl)
    try simp only [Act.put, List.setIfInBounds_toArray, List.set_cons_zero, List.set_cons_succ]
    refine wpAnyL_take 9 (v := ?_) rfl (by kernel_rfl) (by kernel_rfl) (by kernel_rfl) (by kernel_rfl) (fun _ _ _ h => h) (Or.inl ⟨by rfl, ?_⟩) hS2 ?_
    rotate_left
    · (intro w hSw; (try dsimp only at hSw); go_simp) <;> (try with_reducible rfl)
    try simp only [Act.put, List.setIfInBounds_toArray, List.set_cons_zero, List.set_cons_succ]
    refine wpAnyL_one 10 (by kernel_rfl) rfl (fun K hK => ?_)
    go_simp
    refine hK.out _ _ (fun h => absurd h (not_rem (by kernel_rfl))) ?_
    clear hK K
    try simp only [Act.put, List.setIfInBounds_toArray, List.set_cons_zero, List.set_cons_succ]
    refine wpAnyL_done (by kernel_rfl) ?_ _
    all_goals (
      go_wp2
      refine bodyPost_end (v := .tuple #[]) (by simp [results, Tryz.results46, go_sem]) rfl ?_
      exact ⟨rfl, ⟨_, by rw [HF.out]; exact HST.out⟩, HBs.out⟩)
set_option maxHeartbeats 4000000 in
set_option maxRecDepth 100000 in
theorem l19Add_c {w : World} {lo : Nat} {sl v : Value} {L : List Tbl} {M : Tbl} {ok : Bool} {rs : List Res} (hs : Sep lo w (Res.tabs sl L :: Res.tab v M :: rs)) (hlo : lo ≤ w.heap.size) (hok : ok = true → ∃ n, Sq n M ∧ 0 < n) (hL : L.length ≤ 100000) :
    Calls Tryz.prog 90 #[sl, v, .bool ok] w fun e w' => ∃ sl', e = .returned sl' ∧ Sep lo w' (Res.tabs sl' (addT L M ok) :: rs) ∧ Below lo w w' := by
  have HTm := Lib.hid (New.tab hs.swap.headNew)
  have HTl := Lib.hid (New.tabs hs.headNew)
  obtain ⟨va, vc, rfl, -⟩ := HTm.out.shape
  obtain ⟨la, lc, rfl, -, -, hcl⟩ := HTl.out.shape
  have HS := Lib.hid hs
  have Hok := Lib.hid hok
  have HL := Lib.hid hL
  have Hcl := Lib.hid hcl
  clear hs hok hL hcl
  cases ok with
  | false =>
    have HF := Lib.hid (show addT L M false = L from addT_no (by simp))
    clear HTm HTl Hok Hcl
    go_enter Tryz.func90, Tryz.ntmps90
    go_wp2
    go_ret
    exact ⟨_, rfl, by rw [HF.out]; exact HS.out.swap.tail, Below.refl _ _⟩
  | true =>
  by_cases h4 : 4 < M.length
  · have HF := Lib.hid (show addT L M true = L from addT_no (by rintro ⟨-, h, -⟩; omega))
    have h4i : (4 : Int) < (M.length : Int) := by omega
    clear HTm HTl Hok Hcl h4
    go_enter Tryz.func90, Tryz.ntmps90
    go_wp2
    go_ret
    exact ⟨_, rfl, by rw [HF.out]; exact HS.out.swap.tail, Below.refl _ _⟩
  obtain ⟨n, hsq, hn0⟩ := Hok.out rfl
  have h4i : ¬ ((4 : Int) < (M.length : Int)) := by omega
  obtain ⟨b, o, c, hv, hb, hE⟩ := Tab.entAt HTm.out rfl (fun r hr => (hsq.2 r hr).trans hsq.1.symm) (by rw [hsq.1]; exact hn0)
  simp at hv
  obtain ⟨rfl, rfl⟩ := hv
  have HE := Lib.hid hE
  have HSm := Lib.hid (show ∀ i, i < M.length → ∀ j, j < M.length → 3 < ent M i j → smallT M = false from fun i hi j hj h => by
    obtain ⟨r, hr, hx⟩ := ent_mem (m := M) (l := M.length) (fun r hr => (hsq.2 r hr).trans hsq.1.symm) hi hj
    cases e : smallT M with
    | false => rfl
    | true =>
      unfold smallT at e
      have h1 := List.all_eq_true.1 (List.all_eq_true.1 e r hr) _ hx
      have h2 := of_decide_eq_true h1
      omega)
  have HSt := Lib.hid (show (∀ i, i < M.length → ∀ j, j < M.length → ent M i j ≤ 3) → smallT M = true from fun h => by
    unfold smallT
    refine List.all_eq_true.2 fun r hr => List.all_eq_true.2 fun x hx => decide_eq_true ?_
    obtain ⟨i, hi⟩ := List.getElem?_of_mem hr
    obtain ⟨j, hj⟩ := List.getElem?_of_mem hx
    have h1 := (List.getElem?_eq_some_iff.1 hi).1
    have h2 := (List.getElem?_eq_some_iff.1 hj).1
    have h3 := h i h1 j (by rw [hsq.2 r hr] at h2; rw [hsq.1]; exact h2)
    unfold ent at h3
    simp [List.getD, hi, hj] at h3
    exact h3)
  have hm0 : 0 < M.length := by rw [hsq.1]; exact hn0
  obtain ⟨m, hm⟩ : ∃ m, m = M.length := ⟨_, rfl⟩
  have Hm := Lib.hid hm
  rw [← hm] at HE HSm HSt hm0 h4i h4 ⊢
  have hMb : m ≤ 4 := by omega
  clear Hok hsq hn0 hE hm
  go_enter Tryz.func90, Tryz.ntmps90
  go_wp2
  go_loopg [7] m (fun g i wr => ∃ (k : Nat), i = .int .i64 k ∧ k + g = m ∧ Hid (∀ i, i < k → ∀ j, j < m → ent M i j ≤ 3) ∧ w = wr)
  case atStart => exact ⟨0, rfl, by omega, Lib.hid (fun i hi => by omega), rfl⟩
  case round =>
    obtain ⟨k, rfl, hk, HK, rfl⟩ := hrel
    by_cases hkm : k < m
    · have hki : (k : Int) < (m : Int) := by omega
      obtain ⟨b', o', c', g1, hb', -, gx⟩ := HE.out.at hkm hm0
      have GX := Lib.hid gx
      clear gx
      go_wp2
      go_loopg [8] m (fun g i wr => ∃ (j : Nat), i = .int .i64 j ∧ j + g = m ∧ Hid (∀ i, i < j → ent M k i ≤ 3) ∧ w = wr)
      case atStart => exact ⟨0, rfl, by omega, Lib.hid (fun i hi => by omega), rfl⟩
      case round =>
        obtain ⟨j, rfl, hj, HJ, rfl⟩ := hrel
        by_cases hjm : j < m
        · have hji : (j : Int) < (m : Int) := by omega
          have g2 := GX.out j hjm
          by_cases hx : 3 < ent M k j
          · have HF := Lib.hid (show addT L M true = L from addT_no (by rintro ⟨-, -, h2, -⟩; rw [HSm.out k hkm j hjm hx] at h2; cases h2))
            generalize ent M k j = t at g2 hx
            clear HTm HTl Hcl HE HSm HSt HK HJ GX
            go_wp2
            go_ret
            exact ⟨_, rfl, by rw [HF.out]; have h := HS.out.swap.tail; exact h, Below.refl _ _⟩
          · have HJ2 := Lib.hid (show ∀ i, i < j + 1 → ent M k i ≤ 3 from fun i hi => by
              by_cases e : i = j
              · subst e; omega
              · exact HJ.out i (by omega))
            generalize ent M k j = t at g2 hx
            clear HJ
            go_wp2
            go_roundg (m - (j + 1))
            case measure => omega
            case rel => exact ⟨j + 1, by go_num, by omega, HJ2, rfl⟩
        · have hji : ¬ ((j : Int) < (m : Int)) := by omega
          have HK2 := Lib.hid (show ∀ i, i < k + 1 → ∀ j, j < m → ent M i j ≤ 3 from fun i hi q hq => by
            by_cases e : i = k
            · subst e; exact HJ.out q (by omega)
            · exact HK.out i (by omega) q hq)
          clear HJ HK GX
          go_wp2
          go_roundg (m - (k + 1))
          case measure => omega
          case rel => exact ⟨k + 1, by go_num, by omega, HK2, rfl⟩
    · have hki : ¬ ((k : Int) < (m : Int)) := by omega
      have HSs := Lib.hid (HSt.out fun i hi j hj => HK.out i (by omega) j hj)
      clear HK HE HSm HSt
      go_wp2
      go_loopg [9] L.length (fun g i wr => ∃ (q : Nat), i = .int .i64 q ∧ q + g = L.length ∧ Hid (M ∉ L.take q) ∧ Drawn w wr)
      case atStart => exact ⟨0, rfl, by omega, Lib.hid (by simp), Drawn.refl _⟩
      case round =>
        obtain ⟨q, rfl, hq, HQ, hd⟩ := hrel
        obtain ⟨wq, rfl⟩ : ∃ x, x = wr := ⟨_, rfl⟩
        have hLb := HL.out
        have Hd := Lib.hid hd
        clear hd
        by_cases hql : q < L.length
        · have hqi : (q : Int) < (L.length : Int) := by omega
          obtain ⟨X, hX, _⟩ := at_lt hql
          obtain ⟨bl, ol, rfl, hbl, hx0⟩ := Hcl.out (by omega)
          obtain ⟨u, hu, hux⟩ := hx0 q X hX
          rw [← Hd.out.cell] at hu
          have HC := Lib.hid (spec_EqualMatrix_c (Hd.out.read Tab.frame hux) (Hd.out.read Tab.frame HTm.out))
          rw [← Hm.out] at HC
          have HQ2 := Lib.hid (fun (h : decide (X = M) = false) => (show M ∉ L.take (q + 1) from by
            rw [← take_snoc' hX]
            intro hm
            rcases List.mem_append.1 hm with hm | hm
            · exact HQ.out hm
            · simp at hm
              exact of_decide_eq_false h hm.symm))
          have HIn := Lib.hid (fun (h : decide (X = M) = true) => (show addT L M true = L from addT_no (by
            rintro ⟨-, -, -, h2⟩
            exact h2 (by rw [← of_decide_eq_true h]; exact List.mem_of_getElem? hX))))
          obtain ⟨ua, uc, rfl, -⟩ := hux.shape
          generalize X.length = xl at *
          generalize decide (X = M) = d at HC HQ2 HIn
          clear hX hx0 hux HQ
          go_wp2_with fail
          refine HC.out.mono ?_
          rintro e w2 ⟨rfl, hd2⟩
          have HD2 := Lib.hid (Hd.out.trans hd2)
          clear hd2 HC Hd
          cases d with
          | true =>
            have HF := Lib.hid (HIn.out (by first | rfl | trivial))
            clear HQ2 HIn HTm HTl Hcl
            go_wp2
            go_ret
            exact ⟨_, rfl, by rw [HF.out]; exact (HS.out.swap.tail).below (HD2.out.below _) (Nat.le_refl _), HD2.out.below _⟩
          | false =>
            have HQ3 := Lib.hid (HQ2.out (by first | rfl | trivial))
            clear HQ2 HIn
            go_wp2
            go_roundg (L.length - (q + 1))
            case measure => omega
            case rel => exact ⟨q + 1, by go_num, by omega, HQ3, HD2.out⟩
        · have hqi : ¬ ((q : Int) < (L.length : Int)) := by omega
          have HF := Lib.hid (show addT L M true = L ++ [M] from addT_yes (by have := Hm.out; omega) HSs.out (by have h := HQ.out; rwa [List.take_of_length_le (by omega)] at h))
          have HSq := Lib.hid (HS.out.below (Hd.out.below _) (Nat.le_refl _))
          have hzq := (Hd.out.below 0).size
          have HBq := Lib.hid (Hd.out.below lo)
          obtain ⟨v', w4, hr, hs4, hb4⟩ := HSq.out.absorb (P := Tryz.prog) (OTab.kept 3 46) 33 33 (.slice none 0 0) 24 Tryz.underlying33 infoT rfl (by omega) (w1 := wq.alloc (.cells #[.slice (some ⟨b, o, none⟩) m vc] 24)) ((Below.refl _ _).alloc (Nat.le_refl _) _) (bb := wq.heap.size) (c := 1) (by rw [Hm.out]; exact World.cell?_alloc_at _ _ _ 0 rfl) (by have := HL.out; omega) (by have := HL.out; omega)
          obtain ⟨za, zc, rfl, -⟩ := (New.tabs hs4.headNew).shape
          have HS4 := Lib.hid hs4
          have HB4 := Lib.hid (HBq.out.trans hb4)
          have Hr := Lib.hid hr
          generalize (L ++ [M]).length = ln at *
          clear hs4 hb4 hr HSq HBq Hd HQ HTm HTl Hcl HSs
          go_wp2_with (first
            | (at_builtin; refine wpl_append_run rfl (.tmp 52) (.tmp 54) 33 rfl rfl rfl Hr.out ?_)
            | fail)
          go_ret
          exact ⟨_, rfl, by rw [HF.out]; exact HS4.out, HB4.out⟩
end Go.Proofs.YtlkgkfgpnnahdaaGreat
end

section
/-
  PartsOf, the reference's, whole.
-/
namespace Go.Sd
open Go.RowKit Go.Deep
/-- Where the rows of an own table lie. -/
theorem OTab.rows {eI eR : TypeId} {w : World} {v : Value} {xs : Tbl} {F : List Nat} (h : OTab eI eR w v xs F) (hn : F.Nodup) (h0 : 0 < xs.length) :
    ∃ (b c : Nat) (Fs : List (List Nat)), v = .slice (some ⟨b, 0, none⟩) xs.length c ∧ xs.length ≤ c ∧ b < w.heap.size ∧ F = b :: Fs.flatten ∧ b ∉ Fs.flatten ∧ Fs.flatten.Nodup ∧ Fs.length = xs.length ∧
      ∀ k x, xs[k]? = some x → ∃ u G, Fs[k]? = some G ∧ w.cell? ⟨b, k, none⟩ = some u ∧ OInts eI w u x G := by
  obtain ⟨us, Fs, ho, hl, hr, rfl⟩ := h
  have hul : us.length = xs.length := by simpa using ho.1
  rcases ho.2 with ⟨rfl, hz⟩ | ⟨g, cap, cur, rfl, _, hg, hnc, hcm, hcs, htake⟩
  · omega
  · have hnd := List.nodup_append.1 hn
    refine ⟨g, cap, Fs, rfl, by omega, (ho.lt g rfl).2, rfl, fun hm => hnd.2.2 g (by simp [Value.ownBlock]) g hm rfl, hnd.2.1, hl, fun k x hx => ?_⟩
    have hk := (List.getElem?_eq_some_iff.1 hx).1
    refine ⟨us[k], Fs[k], List.getElem?_eq_getElem (by omega), ?_, hr k _ x _ (List.getElem?_eq_getElem (by omega)) hx (List.getElem?_eq_getElem (by omega))⟩
    have := ho.cells (g := g) rfl k us[k] (List.getElem?_eq_getElem (by omega))
    cases k <;> simpa [Addr.add] using this
theorem comp_pos : ∀ (r h : List Int), 0 < (compo r h).length
  | [], h => by simp [compo]
  | x :: r, h => by
    unfold compo
    rw [List.range_succ_eq_map, List.flatMap_cons, List.length_append]
    have := comp_pos r (h ++ [((0 : Nat) : Int)])
    omega
theorem flatten_take_succ {Fs : List (List Nat)} {k : Nat} {G : List Nat} (h : Fs[k]? = some G) : (Fs.take (k + 1)).flatten = (Fs.take k).flatten ++ G := by
  rw [List.take_add_one, h]; simp
theorem flatten_disj {Fs : List (List Nat)} (hn : Fs.flatten.Nodup) {k : Nat} {G : List Nat} (h : Fs[k]? = some G) : ∀ b, b ∈ G → b ∉ (Fs.take k).flatten := by
  intro b hb hm
  have e : Fs = Fs.take k ++ Fs.drop k := (List.take_append_drop k Fs).symm
  rw [e, List.flatten_append] at hn
  have hk := (List.getElem?_eq_some_iff.1 h).1
  have hd : b ∈ (Fs.drop k).flatten := by
    rw [List.drop_eq_getElem_cons hk, List.flatten_cons]
    have : Fs[k] = G := by rw [List.getElem?_eq_getElem hk] at h; exact Option.some.inj h
    rw [this]; exact List.mem_append_left _ hb
  exact (List.nodup_append.1 hn).2.2 b hm b hd rfl
theorem flatten_take_mem {Fs : List (List Nat)} {k b : Nat} (h : b ∈ (Fs.take k).flatten) : b ∈ Fs.flatten := by
  obtain ⟨G, hG, hb⟩ := List.mem_flatten.1 h
  exact List.mem_flatten_of_mem (List.mem_of_mem_take hG) hb
end Go.Sd
namespace Go.Proofs.YtlkgkfgpnnahdaaGreat
open Go.RowKit Go.Deep Go.Sd

set_option maxHeartbeats 4000000 in
set_option maxRecDepth 10000 in
theorem spec_PartsOf_c {w : World} {v : Value} {row : List Int} (h : Ints w v row) :
    Calls Tryz.prog 89 #[v] w (Makes (OTab 3 46) w (partsV row)) := by
  have hlen := h.len
  obtain ⟨a, c, rfl, _, _, hcell⟩ := h.shape
  have Hi := Lib.hid h
  clear h
  have HV := Lib.hid (show partsV row = if row.length ≤ 4 ∧ rowLe3 row = true then (compo row []).filter (keepS row) else [] from rfl)
  generalize partsV row = V at HV ⊢
  have Hzr := Lib.hid (show ∀ x, keepS row x = (!decide (x = List.replicate row.length 0) && !decide (x = row)) from fun _ => rfl)
  obtain ⟨n, hn⟩ : ∃ n, n = row.length := ⟨_, rfl⟩
  have Hn := Lib.hid hn
  rw [← hn] at hlen hcell HV Hi Hzr ⊢
  clear hn
  have hn0 : New (OTab 3 46) w.heap.size (w.alloc (.cells #[] 46)) (.slice (some ⟨w.heap.size, 0, none⟩) 0 0) [] := New.empty w (Nat.le_refl _)
  have hb0 : Below w.heap.size w (w.alloc (.cells #[] 46)) := (Below.refl _ _).alloc (Nat.le_refl _) _
  have hz0 : (w.alloc (.cells #[] 46)).heap.size = w.heap.size + 1 := by simp
  go_enter Tryz.func89, Tryz.ntmps89
  go_wp2
  generalize w.alloc (.cells #[] 46) = w1 at *
  have Hn0 := Lib.hid hn0
  have Hz0 := Lib.hid hz0
  have Hb0 := Lib.hid hb0
  clear hn0 hz0 hb0
  go_loopg [4] n (fun g i wr => ∃ (k : Nat), i = .int .i64 k ∧ k + g = n ∧ Hid (rowLe3 row = rowLe3 (row.drop k)) ∧ w1 = wr)
  case atStart => exact ⟨0, rfl, by omega, Lib.hid rfl, rfl⟩
  case round =>
    obtain ⟨k, rfl, hk, HK, rfl⟩ := hrel
    by_cases hlt : k < n
    · obtain ⟨b, o, rfl, hb, hx0⟩ := hcell (by omega)
      obtain ⟨x, hx, hd⟩ := at_lt (xs := row) (k := k) (by have := Hn.out; omega)
      obtain ⟨u, hu, hux⟩ := hx0 k x hx
      obtain rfl : u = .int .i64 x := hux
      have hu1 : w1.cell? ⟨b, o + k, none⟩ = some (.int .i64 x) := (Hb0.out.cell (p := ⟨b, o + k, none⟩) hb).trans hu
      have HK1 := Lib.hid (show rowLe3 row = (decide (0 ≤ x ∧ x ≤ 3) && rowLe3 (row.drop (k + 1))) from by rw [HK.out, hd]; rfl)
      have Hin := Lib.hid (fun w1 => (show Calls Tryz.prog 58 #[.int .i64 x, .int .i64 0, .int .i64 3] w1 fun e w' => e = .returned (.bool (decide (0 ≤ x ∧ x ≤ 3))) ∧ w1 = w' from by rw [Bool.decide_and]; exact l1In_c x 0 3 w1))
      have hkn : (k : Int) < (n : Int) := by omega
      clear hx hd hx0 hcell hu HK
      generalize decide (0 ≤ x ∧ x ≤ 3) = d at HK1 Hin
      cases d with
      | false =>
        have HF := Lib.hid (show V = [] from by rw [HV.out, if_neg (fun h => by rw [HK1.out] at h; simp at h)])
        go_wp2_with fail
        refine (Hin.out _).mono ?_
        rintro e w' ⟨rfl, rfl⟩
        clear HK1 HV
        go_wp2
        go_ret
        exact ⟨_, rfl, by rw [HF.out]; exact Hn0.out, Hb0.out⟩
      | true =>
        have HF := Lib.hid (show rowLe3 row = rowLe3 (row.drop (k + 1)) from by rw [HK1.out]; rfl)
        go_wp2_with fail
        refine (Hin.out _).mono ?_
        rintro e w' ⟨rfl, rfl⟩
        clear HK1
        go_wp2
        go_roundg (n - (k + 1))
        case measure => omega
        case rel => exact ⟨k + 1, by go_num, by omega, HF, rfl⟩
    · have hok : rowLe3 row = true := by rw [HK.out, drop_len (by have := Hn.out; omega)]; rfl
      have Hok := Lib.hid hok
      clear HK hok hcell
      by_cases h4 : n ≤ 4
      rotate_left
      · have HF := Lib.hid (show V = [] from by rw [HV.out, if_neg (fun h => h4 h.1)])
        clear HV
        go_wp2
        go_ret
        exact ⟨_, rfl, by rw [HF.out]; exact Hn0.out, Hb0.out⟩
      have HVV := Lib.hid (show V = (compo row []).filter (keepS row) from by rw [HV.out, if_pos ⟨h4, Hok.out⟩])
      clear HV
      go_wp2_with (first
        | (at_make; refine wpl_make (R := OIntR) rfl (.tmp 27) (.tmp 27) 46 rfl 3 (.int .i64 0) 8 Tryz.underlying46 infoI rfl n (by rfl) (by rfl) (by omega) (by omega) (d := 0) (fun _ => ⟨rfl, rfl⟩) ?_; intro wm hzm hnm hbm; have Hzm := Lib.hid hzm; have Hnm := Lib.hid hnm; have Hbm := Lib.hid hbm; clear hzm hnm hbm)
        | fail)
      have Hbwm := Lib.hid (Hb0.out.trans (Hbm.out.mono Hb0.out.size))
      obtain ⟨G, hG, hGn, hGe⟩ := New.empty (e := 3) (R := OIntR) (lo := wm.heap.size) wm (Nat.le_refl _)
      obtain ⟨F, hF, hFn, hFe⟩ := New.empty (e := 46) (R := OInts 3) (lo := (wm.alloc (.cells #[] 3)).heap.size) (wm.alloc (.cells #[] 3)) (Nat.le_refl _)
      have hGlt := (OInts.kept _).lt _ _ _ _ hG
      have hFlt := (OTab.kept _ _).lt _ _ _ _ hF
      have hz1 : (wm.alloc (.cells #[] 3)).heap.size = wm.heap.size + 1 := by simp
      have hz2 : ((wm.alloc (.cells #[] 3)).alloc (.cells #[] 46)).heap.size = wm.heap.size + 1 + 1 := by simp
      have hb2 : Below wm.heap.size wm ((wm.alloc (.cells #[] 3)).alloc (.cells #[] 46)) := ((Below.refl _ _).alloc (Nat.le_refl _) _).alloc (by simp) _
      rw [hz1] at hFe hF hGlt
      rw [hz2] at hFlt
      have hp4 : 4 ^ n ≤ 256 := Nat.le_trans (Nat.pow_le_pow_right (by decide) h4) (by decide)
      have Hfill := Lib.hid (l17Fill_c (wl := wm) Hok.out (by rw [← Hn.out]; exact h4) (Ints.frame _ _ _ _ Hi.out Hbwm.out) n (head := []) (out := []) (by simp; exact Hn.out) hb2 (Kept.below (OInts.kept _) hG ((Below.refl _ _).alloc (Nat.le_refl _) _)) hGn hF hFn (fun b h1 h2 => by have := hGlt b h1; have := hFe b h2; omega) (fun b hb => by have := hFe b hb; omega) (by simp; omega))
      have HFG := Lib.hid (show (∀ b, b ∈ F → wm.heap.size ≤ b) ∧ (∀ b, b ∈ G → wm.heap.size ≤ b) ∧ (∀ b, b ∈ F → b < wm.heap.size + 1 + 1) from ⟨fun b hb => by have := hFe b hb; omega, hGe, hFlt⟩)
      have Hb2 := Lib.hid hb2
      have Hz2 := Lib.hid hz2
      clear hG hGn hGe hF hFn hFe hGlt hFlt hz1 hz2 hb2
      go_wp2_with fail
      refine Hfill.out.mono ?_
      rintro e w5 ⟨r, F', rfl, hall, hnd, hin, hoff⟩
      rw [List.nil_append, show row.drop ([] : List Int).length = row from rfl] at hall
      have hge : ∀ b, b ∈ F' → wm.heap.size ≤ b := fun b hb => by
        rcases hin b hb with h | h | h
        · exact HFG.out.1 b h
        · exact HFG.out.2.1 b h
        · have := Hz2.out; omega
      have hbw5 : Below wm.heap.size wm w5 := Hb2.out.trans (hoff.below HFG.out.1 Hb2.out.size)
      obtain ⟨hb9, hc9, Fs, rfl, hcap, hblt, rfl, hbF, hFsn, hFsl, hrows⟩ := OTab.rows hall hnd (comp_pos row [])
      obtain ⟨m, hm⟩ : ∃ m, m = (compo row []).length := ⟨_, rfl⟩
      have Hm := Lib.hid hm
      have hm256 : m ≤ 256 := by rw [hm]; have := comp_len row [] Hok.out; rw [← Hn.out] at this; omega
      rw [← hm] at hFsl hcap ⊢
      clear hm
      obtain ⟨Fo, hFo, hFon, hFoge⟩ := Hn0.out
      have hFolt := (OTab.kept _ _).lt _ _ _ _ hFo
      obtain ⟨Z, hZ, hZn, hZge⟩ := Hnm.out
      have hZlt := (OInts.kept _).lt _ _ _ _ hZ
      have hzmm := Hzm.out
      have HFo5 := Lib.hid (Kept.below (OTab.kept _ _) (Kept.below (OTab.kept _ _) hFo (Hbm.out)) (hbw5))
      have HZ5 := Lib.hid (Kept.below (OInts.kept _) hZ hbw5)
      have hsz5 := hbw5.size
      have Hdz := Lib.hid (show ∀ b, b ∈ Z → b ∉ Fo ∧ b ∉ Fs.flatten from fun b hb => ⟨fun h => by have := hZge b hb; have := hFolt b h; omega, fun h => by have := hZlt b hb; have := hge b (List.mem_cons_of_mem _ h); omega⟩)
      have Hdo := Lib.hid (show ∀ b, b ∈ Fo → b ∉ Fs.flatten ∧ b ≠ hb9 ∧ w.heap.size ≤ b from fun b hb => ⟨fun h => by have := hFolt b hb; have := hge b (List.mem_cons_of_mem _ h); omega, fun h => by have := hFolt b hb; have := hge b (by rw [h]; simp); omega, hFoge b hb⟩)
      have Hge := Lib.hid hge
      have Hrows := Lib.hid hrows
      have HFsn := Lib.hid hFsn
      have HbF := Lib.hid hbF
      have Hbw5 := Lib.hid (Hbwm.out.trans (hbw5.mono Hbwm.out.size))
      have Hblt := Lib.hid hblt
      have HFon := Lib.hid hFon
      have hwm : w.heap.size ≤ wm.heap.size := Hbwm.out.size
      clear hall hnd hin hoff hge hbw5 hblt hbF hFsn hrows hFo hFon hFoge hFolt hZ hZn hZge hZlt hzmm hsz5 Hfill HFG
      go_wp2
      go_loopg [3, 7] m (fun g vo i wr => ∃ (k : Nat) (Fk : List Nat), i = .int .i64 k ∧ k + g = m ∧ Hid (OTab 3 46 wr vo (((compo row []).take k).filter (keepS row)) Fk) ∧ Hid Fk.Nodup ∧ Hid (Out (Fo ++ (Fs.take k).flatten) w5 Fk) ∧ Hid (Off (Fo ++ (Fs.take k).flatten) w5 wr))
      case atStart => exact ⟨0, Fo, rfl, by omega, Lib.hid (by simpa using HFo5.out), HFon, Lib.hid (fun b hb => Or.inl (by simp [hb])), Lib.hid (Off.refl _ _)⟩
      case round =>
        obtain ⟨k, Fk, rfl, hk2, hown, hnd, hin, hoff⟩ := hrel
        have hge2 : ∀ b, b ∈ Fo ++ (Fs.take k).flatten → w.heap.size ≤ b := fun b hb => by
          rcases List.mem_append.1 hb with h | h
          · exact (Hdo.out b h).2.2
          · have := Hge.out b (List.mem_cons_of_mem _ (flatten_take_mem h)); omega
        have hbr : Below w.heap.size w wr := Hbw5.out.trans (hoff.out.below hge2 Hbw5.out.size)
        by_cases hlt2 : k < m
        · obtain ⟨x, hx, hd⟩ := at_lt (xs := compo row []) (k := k) (by have := Hm.out; omega)
          obtain ⟨u, Gk, hGk, hcu, hou⟩ := Hrows.out k x hx
          have hdk := flatten_disj HFsn.out hGk
          have hGkF : ∀ b, b ∈ Gk → b ∈ Fs.flatten := fun b hb => List.mem_flatten_of_mem (List.mem_of_getElem? hGk) hb
          have hbh : hb9 ∉ Fo ++ (Fs.take k).flatten := fun hm => by
            rcases List.mem_append.1 hm with h | h
            · exact (Hdo.out _ h).2.1 rfl
            · exact HbF.out (flatten_take_mem h)
          have hGd : ∀ b, b ∈ Gk → b ∉ Fo ++ (Fs.take k).flatten := fun b hb hm => by
            rcases List.mem_append.1 hm with h | h
            · exact (Hdo.out b h).1 (hGkF b hb)
            · exact hdk b hb h
          have hcr : wr.cell? ⟨hb9, k, none⟩ = some u := by
            rw [← hcu]; simp only [World.cell?, hoff.out.block _ Hblt.out hbh]
          have hour := Kept.off (OInts.kept _) hou hoff.out hGd
          have hzr := Kept.off (OInts.kept _) HZ5.out hoff.out (fun b hb hm => by
            rcases List.mem_append.1 hm with h | h
            · exact (Hdz.out b hb).1 h
            · exact (Hdz.out b hb).2 (flatten_take_mem h))
          have hGlt := (OInts.kept _).lt _ _ _ _ hou
          have hGkn : Gk.Nodup := (nodup_flatten.1 HFsn.out).1 _ (List.mem_of_getElem? hGk)
          have HC1 := Lib.hid (l4SameRow_p hour.reads hzr.reads)
          have HC2 := Lib.hid (fun wz (hz : Drawn wr wz) => l4SameRow_p (hz.read Ints.frame hour.reads) (hz.read Ints.frame (Ints.frame _ _ _ _ Hi.out hbr)))
          have HKp := Lib.hid (show keepS row x = (!decide (x = List.replicate n 0) && !decide (x = row)) from Hzr.out x)
          have HT := Lib.hid (show (compo row []).take (k + 1) = (compo row []).take k ++ [x] from (take_snoc' hx).symm)
          have HFk := Lib.hid (show (Fs.take (k + 1)).flatten = (Fs.take k).flatten ++ Gk from flatten_take_succ hGk)
          obtain ⟨ua, uc, rfl, _, _, _⟩ := hour.reads.shape
          have Hour := Lib.hid hour
          have HGd := Lib.hid hGd
          have HGkn := Lib.hid hGkn
          have hlen3 : (((compo row []).take k).filter (keepS row)).length ≤ 256 := by
            have h1 := List.length_filter_le (keepS row) ((compo row []).take k)
            have h2 : ((compo row []).take k).length ≤ k := List.length_take_le _ _
            omega
          have Hlen3 := Lib.hid hlen3
          have Hmono := Lib.hid (show ∀ b, b ∈ Fo ++ (Fs.take k).flatten → b ∈ Fo ++ (Fs.take (k + 1)).flatten from fun b hb => by
            rw [HFk.out, ← List.append_assoc]; exact List.mem_append_left _ hb)
          have HinG := Lib.hid (show ∀ b, b ∈ Gk → b ∈ Fo ++ (Fs.take (k + 1)).flatten from fun b hb => by
            rw [HFk.out, ← List.append_assoc]; exact List.mem_append_right _ hb)
          have HFkd := Lib.hid (show ∀ b, b ∈ Gk → b ∉ Fk from fun b hb hm => by
            rcases hin.out b hm with h | h
            · exact hGd b hb h
            · have := hGlt b hb; omega)
          have hkm : (k : Int) < (m : Int) := by omega
          have hbr9 : hb9 < wr.heap.size := Nat.lt_of_lt_of_le Hblt.out hoff.out.size
          clear hx hd hGk hcu hou hdk hGkF hbh hGd hzr hGlt hGkn hlen3 hour
          generalize decide (x = List.replicate n 0) = s1 at HC1 HKp
          generalize decide (x = row) = s2 at HC2 HKp
          have keepOut : ∀ (wz : World), Drawn wr wz → keepS row x = false → (Hid (OTab 3 46 wz _ (((compo row []).take (k + 1)).filter (keepS row)) Fk) ∧ Hid (Out (Fo ++ (Fs.take (k + 1)).flatten) w5 Fk) ∧ Hid (Off (Fo ++ (Fs.take (k + 1)).flatten) w5 wz)) := fun wz hz hke =>
            ⟨Lib.hid (by rw [HT.out, List.filter_append, List.filter_cons_of_neg (by rw [hke]; simp), List.filter_nil, List.append_nil]; exact Kept.below (OTab.kept _ _) hown.out (hz.below _)), Lib.hid (fun b hb => (hin.out b hb).imp (Hmono.out b) id), Lib.hid ((hoff.out.mono Hmono.out).trans (Off.of_below (hz.below _)))⟩
          have HkeepOut := Lib.hid keepOut
          clear keepOut
          cases s1 with
          | true =>
            go_wp2_with fail
            refine HC1.out.mono ?_
            rintro e w6 ⟨rfl, hd1⟩
            obtain ⟨R1, R2, R3⟩ := HkeepOut.out w6 hd1 (by rw [HKp.out]; rfl)
            have hcr6 := (hd1.cell ⟨hb9, k, none⟩).trans hcr
            clear hd1
            go_wp2
            go_roundg (m - (k + 1))
            case measure => omega
            case rel => exact ⟨k + 1, Fk, by go_num, by omega, R1, hnd, R2, R3⟩
          | false =>
          go_wp2_with fail
          refine HC1.out.mono ?_
          rintro e w6 ⟨rfl, hd1⟩
          have hcr6 := (hd1.cell ⟨hb9, k, none⟩).trans hcr
          have Hd1 := Lib.hid hd1
          clear hd1
          cases s2 with
          | true =>
            go_wp2_with fail
            refine (HC2.out _ Hd1.out).mono ?_
            rintro e w7 ⟨rfl, hd2⟩
            obtain ⟨R1, R2, R3⟩ := HkeepOut.out w7 (Hd1.out.trans hd2) (by rw [HKp.out]; rfl)
            clear hd2
            go_wp2
            go_roundg (m - (k + 1))
            case measure => omega
            case rel => exact ⟨k + 1, Fk, by go_num, by omega, R1, hnd, R2, R3⟩
          | false =>
          go_wp2_with fail
          refine (HC2.out _ Hd1.out).mono ?_
          rintro e w7 ⟨rfl, hd2⟩
          have hcr7 := (hd2.cell ⟨hb9, k, none⟩).trans hcr6
          have Hd7 := Lib.hid (Hd1.out.trans hd2)
          have hb7 : hb9 < w7.heap.size := by have := (Hd7.out.below 0).size; omega
          have HB7 := Lib.hid (Hd7.out.below wr.heap.size)
          have Hs7 := Lib.hid (show wr.heap.size ≤ w7.heap.size from HB7.out.size)
          clear hd2 hcr6 hcr
          go_wp2_with (first
            | (at_builtin; refine wpl_pushF (OInts.kept _) rfl (.tmp 55) (.tmp 60) 24 rfl 46 (.slice none 0 0) 24 Tryz.underlying24 infoR rfl (Kept.below (OTab.kept _ _) hown.out (HB7.out.alloc Hs7.out _)) hnd.out (Kept.below (OInts.kept _) Hour.out (HB7.out.alloc Hs7.out _)) HGkn.out HFkd.out (bb := w7.heap.size) (c := 1) (by simp) rfl rfl (by have := Hlen3.out; omega) (by have := Hlen3.out; omega) ?_; intro r8 w8 F8 hown8 hnd8 hin8 hoff8; have Hown8 := Lib.hid hown8; have Hnd8 := Lib.hid hnd8; have Hin8 := Lib.hid hin8; have Hoff8 := Lib.hid hoff8; clear hown8 hnd8 hin8 hoff8)
            | fail)
          have R1 := Lib.hid (show OTab 3 46 w8 r8 (((compo row []).take (k + 1)).filter (keepS row)) F8 from by
            rw [HT.out, List.filter_append, List.filter_cons_of_pos (by rw [HKp.out]; rfl), List.filter_nil]; exact Hown8.out)
          have hs8 := hoff.out.size
          have R2 := Lib.hid (show Out (Fo ++ (Fs.take (k + 1)).flatten) w5 F8 from fun b hb => by
            rcases Hin8.out b hb with h | h | h
            · exact (hin.out b h).imp (Hmono.out b) id
            · exact Or.inl (HinG.out b h)
            · have := Hs7.out; simp at h; exact Or.inr (by omega))
          have R3 := Lib.hid (show Off (Fo ++ (Fs.take (k + 1)).flatten) w5 w8 from
            (((hoff.out.mono Hmono.out).trans (Off.of_below (HB7.out.alloc Hs7.out _))).step (fun b hb => (hin.out b hb).imp (Hmono.out b) id) Hoff8.out))
          go_roundg (m - (k + 1))
          case measure => omega
          case rel => exact ⟨k + 1, F8, by go_num, by omega, R1, Hnd8, R2, R3⟩
        · have e : k = m := by omega
          subst e
          have HF := Lib.hid (show V = ((compo row []).take k).filter (keepS row) from by rw [HVV.out, List.take_of_length_le (by rw [← Hm.out]; exact Nat.le_refl _)])
          have hgeF : ∀ b, b ∈ Fk → w.heap.size ≤ b := fun b hb => by
            rcases hin.out b hb with h | h
            · exact hge2 b h
            · have := Hbw5.out.size; omega
          have HgeF := Lib.hid hgeF
          have Hbr := Lib.hid hbr
          clear hgeF hbr hge2
          go_wp2
          go_ret
          exact ⟨_, rfl, ⟨Fk, by rw [HF.out]; exact hown.out, hnd.out, HgeF.out⟩, Hbr.out⟩
end Go.Proofs.YtlkgkfgpnnahdaaGreat
end
