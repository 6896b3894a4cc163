/-
  Laws for this claim's walks, contracts of the functions that it reaches.
-/
import Derived.Test.YtcilgihmaaobeaaGreatDoorFnLabelsM31
import Derived.Test.YtcilgihmaaobeaaGreatDoorFnLabelsM25
set_option linter.unusedVariables false
set_option linter.unusedSimpArgs false
section
namespace Go.Proofs.YtcilgihmaaobeaaGreatDoor
open Go.RowKit Go.Deep Go.Sd
set_option linter.unusedSimpArgs false
def rdwF (xs : List Arc3) (S : Int) (wd : List Nat) : Bool := decide (0 < readB xs (wordT wd).data.toList (allN S))
def rdwM (l : Lb) (n : Int) : List ByteArray := if (isLab l && decide (0 ≤ n ∧ n ≤ 6)) = true then ((allW l.1.toNat n.toNat).filter (rdwF l.2.2 l.2.1)).map wordT else []
theorem wordM_all {N : Nat} (h0 : 0 < N) (hN : N ≤ 3) {k : Nat} (hk : k ≤ 6) {wd : List Nat} (h : wd ∈ allW N k) : wordM (N : Int) (wordT wd) = true := by
  obtain ⟨h1, h2⟩ := allW_mem h0 h
  unfold wordM
  rw [decide_eq_true (by omega), decide_eq_true (by rw [wordT_size]; omega)]
  have := letB_of hN wd h2
  simpa [wordT] using this
theorem reads_all {N : Nat} {S : Int} {xs : List Arc3} (hl : isLab ((N : Int), S, xs) = true) (h0 : 0 < N) (hN : N ≤ 3) {k : Nat} (hk : k ≤ 6) {wd : List Nat} (h : wd ∈ allW N k) : readsM ((N : Int), S, xs) (wordT wd) = rdwF xs S wd := by
  unfold readsM rdwF
  rw [hl, wordM_all h0 hN hk h]
  rfl
set_option maxHeartbeats 2000000 in
set_option maxRecDepth 100000 in
theorem rdwclo_c {w : World} {bL : Nat} {L S : Int} {a : Option Addr} {n c : Nat} {xs : List Arc3} (hb : Box3 w bL (.int .i64 L) (.int .i64 S) (.slice a n c)) (hfr : ∀ w1, Below w.heap.size w w1 → LabR w1 (.agg #[.int .i64 L, .int .i64 S, .slice a n c]) (L, S, xs)) (ho : okArcs S xs) (hS1 : 1 ≤ S) (hS2 : S ≤ 12) {wd : List Nat} (hw : ∀ x, x ∈ wd → x < 3) (hl : wd.length ≤ 16) :
    Calls Tryz.prog 38 #[.string (wordT wd), .pointer (some ⟨bL, 0, none⟩)] w fun e w' => e = .returned (.bool (rdwF xs S wd)) ∧ Below w.heap.size w w' := by
  have C1 := Lib.hid (fun w1 (h : Below w.heap.size w w1) => impl_all_c (hfr w1 h) hS1 hS2)
  have C2 := Lib.hid (fun w1 (h : Below w.heap.size w w1) => impl_read_c (hfr w1 h) ho hS2 (allN_lt hS2) (s := wordT wd) (by rw [wordT_size]; unfold maxLen; omega) (fun c hc => (wordT_bytes hw c hc).1))
  simp only at C1 C2
  have HF := Lib.hid (show rdwF xs S wd = decide (0 < readB xs (wordT wd).data.toList (allN S)) from rfl)
  generalize readB xs (wordT wd).data.toList (allN S) = r at C2 HF
  generalize rdwF xs S wd = T at HF ⊢
  generalize allN S = A at C1 C2
  obtain ⟨m1, hc0, hc1, hc2⟩ := hb
  have hS0 : w.cell? ⟨bL, 0, none⟩ = some (.int .i64 L) ∧ w.cell? ⟨bL, 1, none⟩ = some (.int .i64 S) ∧ w.cell? ⟨bL, 2, none⟩ = some (.slice a n c) := ⟨hc0, hc1, hc2⟩
  have hSd : w.drew.cell? ⟨bL, 0, none⟩ = some (.int .i64 L) ∧ w.drew.cell? ⟨bL, 1, none⟩ = some (.int .i64 S) ∧ w.drew.cell? ⟨bL, 2, none⟩ = some (.slice a n c) := hS0
  have HSS := Lib.hid (fun (w' : World) (hb3 : Below w.heap.size w w') => (show w'.cell? ⟨bL, 0, none⟩ = some (.int .i64 L) ∧ w'.cell? ⟨bL, 1, none⟩ = some (.int .i64 S) ∧ w'.cell? ⟨bL, 2, none⟩ = some (.slice a n c) from ⟨(hb3.cell (p := ⟨bL, 0, none⟩) m1).trans hS0.1, (hb3.cell (p := ⟨bL, 1, none⟩) m1).trans hS0.2.1, (hb3.cell (p := ⟨bL, 2, none⟩) m1).trans hS0.2.2⟩))
  have B1 := (Below.refl w.heap.size w).drew
  have HyT := Lib.hid (show ∀ b : Bool, b = decide (0 < r) → b = T from fun b h => by rw [h, HF.out])
  clear hfr ho hS2 hw hl HF hc0 hc1 hc2
  go_enter Tryz.func38, Tryz.ntmps38
  go_wp2
  go_region_held3 (fun w' => w'.cell? ⟨bL, 0, none⟩ = some (.int .i64 L) ∧ w'.cell? ⟨bL, 1, none⟩ = some (.int .i64 S) ∧ w'.cell? ⟨bL, 2, none⟩ = some (.slice a n c))
    (first | with_reducible exact hS4 | with_reducible exact hS3 | with_reducible exact hSd | with_reducible exact hS0 | go_keep)
    ((first
      | (go_at_call 39; (with_reducible refine (C2.out _ B2).mono ?_); rintro e w_3 ⟨rfl, hb⟩; have B3 := B2.trans (hb.mono B2.size); have hS4 := HSS.out _ B3; clear hb)
      | (go_at_call 40; (with_reducible refine (C1.out _ B1).mono ?_); rintro e w_2 ⟨rfl, hb⟩; have B2 := B1.trans (hb.mono B1.size); have hS3 := HSS.out _ B2; clear hb)
      | fail))
  go_wp2
  go_ret
  exact ⟨by rw [← HyT.out _ rfl]; simp, B3⟩
set_option maxHeartbeats 4000000 in
set_option maxRecDepth 100000 in
theorem impl_ReadWords_c {w : World} {v : Value} {l : Lb} (h : LabR w v l) {nn : Int} (hI2 : I64 nn) :
    Calls Tryz.prog 6 #[v, .int .i64 nn] w (Makes OStrs w (rdwM l nn)) := by
  have H1 := Lib.hid (fun w1 (hb : Below w.heap.size w w1) => impl_IsLabels_c (LabR.frame _ _ _ _ h hb))
  have Hfr := Lib.hid (fun w1 (hb : Below w.heap.size w w1) => LabR.frame _ _ _ _ h hb)
  obtain ⟨T, hT⟩ : ∃ T, T = rdwM l nn := ⟨_, rfl⟩
  rw [← hT]
  have HT := Lib.hid hT
  clear hT hI2
  have Hok := Lib.hid (fun h => isLab_ok (l := l) h)
  have HF0 := Lib.hid (fun (h : isLab l = false) => (show rdwM l nn = [] from by unfold rdwM; rw [h]; rfl))
  generalize hil : isLab l = il at H1
  have Hil := Lib.hid hil
  clear hil
  obtain ⟨L, S, xs⟩ := l
  obtain ⟨_, rfl, -, a, c, rfl, -, -, -, -⟩ := h
  simp only at *
  generalize hn : xs.length = n at *
  clear hn
  obtain ⟨w1, e1⟩ : ∃ x, x = w.alloc (.cells #[.int .i64 L, .int .i64 S, .slice a n c] 26) := ⟨_, rfl⟩
  have A1 := Lib.hid (show Below w.heap.size w w1 from by rw [e1]; exact (Below.refl _ _).alloc (Nat.le_refl _) _)
  have c0 : w1.cell? ⟨w.heap.size, 0, none⟩ = some (.int .i64 L) := by rw [e1]; simp [go_sem]
  have c1 : w1.cell? ⟨w.heap.size, 1, none⟩ = some (.int .i64 S) := by rw [e1]; simp [go_sem]
  have c2 : w1.cell? ⟨w.heap.size, 2, none⟩ = some (.slice a n c) := by rw [e1]; simp [go_sem]
  have m1 : w.heap.size < w1.heap.size := by rw [e1]; simp
  have es := e1.symm
  clear e1
  go_enter Tryz.func6, Tryz.ntmps6
  go_wp2_with fail
  refine (H1.out _ A1.out).mono ?_
  rintro e w2 ⟨rfl, hb1⟩
  replace c0 := (hb1.cell (p := ⟨w.heap.size, 0, none⟩) m1).trans c0
  replace c1 := (hb1.cell (p := ⟨w.heap.size, 1, none⟩) m1).trans c1
  replace c2 := (hb1.cell (p := ⟨w.heap.size, 2, none⟩) m1).trans c2
  replace m1 : w.heap.size < w2.heap.size := Nat.lt_of_lt_of_le m1 hb1.size
  replace A1 := Lib.hid (A1.out.trans (hb1.mono A1.out.size))
  clear hb1 es H1
  cases il with
  | false =>
    have HF := Lib.hid (show T = [] from by rw [HT.out]; exact HF0.out Hil.out)
    clear HT HF0 Hil Hok Hfr
    go_wp2
    go_ret
    exact ⟨_, rfl, by rw [HF.out]; exact New.nil _ _, A1.out⟩
  | true =>
  have Hil2 := Lib.hid (Hok.out Hil.out)
  clear Hok HF0
  by_cases hc' : nn < 0
  · have HF := Lib.hid (show T = [] from by rw [HT.out]; unfold rdwM; rw [decide_eq_false (by omega)]; simp)
    clear HT Hil Hfr Hil2
    go_wp2
    go_ret
    exact ⟨_, rfl, by rw [HF.out]; exact New.nil _ _, A1.out⟩
  by_cases hd : 6 < nn
  · have HF := Lib.hid (show T = [] from by rw [HT.out]; unfold rdwM; rw [decide_eq_false (by omega)]; simp)
    clear HT Hil Hfr Hil2
    go_wp2
    go_ret
    exact ⟨_, rfl, by rw [HF.out]; exact New.nil _ _, A1.out⟩
  obtain ⟨ho, hS1, hS2, hL1, hL2⟩ := Hil2.out
  obtain ⟨N, rfl⟩ := Int.eq_ofNat_of_zero_le (show 0 ≤ L by omega)
  obtain ⟨k, rfl⟩ := Int.eq_ofNat_of_zero_le (show 0 ≤ nn by omega)
  have HT2 := Lib.hid (show T = ((allW N k).filter (rdwF xs S)).map wordT from by rw [HT.out]; unfold rdwM; rw [Hil.out, decide_eq_true (by omega)]; rfl)
  have hbx : Box3 w2 w.heap.size (.int .i64 (N : Int)) (.int .i64 S) (.slice a n c) := ⟨by omega, c0, c1, c2⟩
  have HR := Lib.hid (filtered_c (w := w2) (L := N) (n := k) (by omega) (by omega) (by omega) (F := 38) (caps := #[.pointer (some ⟨w.heap.size, 0, none⟩)]) (f := rdwF xs S) (fun _ _ => rfl) (fun w1 wd hb hl hx => rdwclo_c (hbx.below hb (by omega)) (fun w3 hb3 => Hfr.out w3 (A1.out.trans ((hb.trans (hb3.mono hb.size)).mono (by omega)))) ho hS1 hS2 (fun x h => by have := hx x h; omega) (by omega)))
  have hmf : ∀ (fn : Fn) (first cap : Array Value) (w : World), (Instr.makeFunc fn first cap).run Tryz.prog w = .ok (.func fn first cap) w := fun _ _ _ _ => rfl
  clear HT Hil Hil2 ho Hfr hbx hS1 hS2 hL1 hL2
  go_wp2_with fail
  refine HR.out.mono ?_
  rintro e w3 ⟨r, rfl, hn, hb⟩
  obtain ⟨ra, rn, rc, rfl⟩ := hn.slice
  have HN := Lib.hid (hn.mono (show w.heap.size ≤ w2.heap.size by omega))
  have A3 := Lib.hid (A1.out.trans (hb.mono (show w.heap.size ≤ w2.heap.size by omega)))
  clear hn hb HR c0 c1 c2 hmf
  go_wp2
  go_ret
  exact ⟨_, rfl, by rw [HT2.out]; exact HN.out, A3.out⟩
end Go.Proofs.YtcilgihmaaobeaaGreatDoor
end

section
namespace Go.Proofs.YtcilgihmaaobeaaGreatDoor
open Go.RowKit Go.Deep Go.Sd
/-! Sums. -/
def smN : Nat → (Nat → Int) → Int
  | 0, _ => 0
  | n + 1, f => smN n f + f n
theorem smN_congr {n : Nat} {f g : Nat → Int} (h : ∀ i, i < n → f i = g i) : smN n f = smN n g := by
  induction n with
  | zero => rfl
  | succ n ih => rw [smN, smN, ih fun i hi => h i (by omega), h n (by omega)]
theorem smN_zero {n : Nat} {f : Nat → Int} (h : ∀ i, i < n → f i = 0) : smN n f = 0 := by
  induction n with
  | zero => rfl
  | succ n ih => rw [smN, ih fun i hi => h i (by omega), h n (by omega)]; rfl
theorem smN_add (n : Nat) (f g : Nat → Int) : smN n (fun i => f i + g i) = smN n f + smN n g := by
  induction n with
  | zero => rfl
  | succ n ih => rw [smN, smN, smN, ih]; omega
theorem smN_one {n p : Nat} (hp : p < n) (F : Nat → Int) : smN n (fun j => if p = j then F j else 0) = F p := by
  induction n with
  | zero => omega
  | succ n ih =>
    rw [smN]
    by_cases e : p = n
    · subst e
      rw [smN_zero fun i hi => if_neg (by omega), if_pos rfl]
      omega
    · rw [ih (by omega), if_neg e]
      omega
/-! The matrix counts the arcs. -/
def sum2 (n : Nat) (m : List (List Int)) : Int := smN n fun i => smN n fun j => ent m i j
theorem bump_ent {n : Nat} {m : List (List Int)} (h : Sq n m) {a : Arc3} (ha : a.1.toNat < n) (hb : a.2.1.toNat < n) (i j : Nat) :
    ent (bump m a) i j = ent m i j + (if a.1.toNat = i then (if a.2.1.toNat = j then 1 else 0) else 0) := by
  have hr := h.row ha
  have hl : a.1.toNat < m.length := by rw [h.1]; exact ha
  unfold bump
  generalize hy : ent m a.1.toNat a.2.1.toNat + 1 = y
  unfold ent at hy ⊢
  simp only [List.getD_eq_getElem?_getD, List.getElem?_set] at hy hr ⊢
  by_cases e : a.1.toNat = i
  · subst e
    rw [if_pos rfl, if_pos hl, if_pos rfl]
    simp only [Option.getD_some, List.getElem?_set]
    by_cases e2 : a.2.1.toNat = j
    · subst e2
      rw [if_pos rfl, if_pos (by rw [hr.2]; exact hb), if_pos rfl]
      simp only [Option.getD_some]
      omega
    · rw [if_neg e2, if_neg e2]; omega
  · rw [if_neg e, if_neg e]; omega
theorem bump_sum {n : Nat} {m : List (List Int)} (h : Sq n m) {a : Arc3} (ha : a.1.toNat < n) (hb : a.2.1.toNat < n) : sum2 n (bump m a) = sum2 n m + 1 := by
  unfold sum2
  have h1 : ∀ i, i < n → (smN n fun j => ent (bump m a) i j) = (smN n fun j => ent m i j) + (if a.1.toNat = i then 1 else 0) := fun i hi => by
    rw [smN_congr fun j _ => bump_ent h ha hb i j, smN_add]
    by_cases e : a.1.toNat = i
    · simp only [if_pos e]
      rw [smN_one hb fun _ => 1]
    · simp only [if_neg e]
      rw [smN_zero fun _ _ => rfl]
  rw [smN_congr h1, smN_add, smN_one ha fun _ => 1]
theorem bumps_sum {n : Nat} : ∀ {xs : List Arc3} {m : List (List Int)}, Sq n m → (∀ a, a ∈ xs → a.1.toNat < n ∧ a.2.1.toNat < n) → sum2 n (bumps xs m) = sum2 n m + xs.length
  | [], m, _, _ => by simp [bumps]
  | a :: l, m, h, ho => by
    have h1 := ho a (by simp)
    show sum2 n (bumps l (bump m a)) = _
    rw [bumps_sum (bump_sq h h1.1) fun b hb => ho b (List.mem_cons_of_mem _ hb), bump_sum h h1.1 h1.2, List.length_cons]
    omega
theorem bumps_EB : ∀ {xs : List Arc3} {B : Int} {m : List (List Int)}, 0 ≤ B → EB B m → EB (B + xs.length) (bumps xs m)
  | [], B, m, _, h => by simpa [bumps] using h
  | a :: l, B, m, hB, h => by
    have h1 := h a.1.toNat a.2.1.toNat
    have h2 := bumps_EB (xs := l) (by omega) (EB.set h a.1.toNat a.2.1.toNat (y := ent m a.1.toNat a.2.1.toNat + 1) (by omega) (by omega))
    have e : B + ((a :: l).length : Int) = B + 1 + (l.length : Int) := by rw [List.length_cons]; omega
    rw [e]
    exact h2
theorem lb_tot (r : List Int) : ∀ j, tot r j = smN j fun b => r.getD b 0
  | 0 => rfl
  | j + 1 => by rw [tot, smN, lb_tot r j]
theorem lb_sumK (m : List (List Int)) : ∀ k, sumK m k = smN k fun i => tot (m.getD i []) (m.getD i []).length
  | 0 => rfl
  | k + 1 => by rw [sumK, smN, lb_sumK m k]
theorem matV_sum {l : Lb} (h : matOk l = true) : sumV (matV l) = l.2.2.length := by
  have h' := h
  unfold matOk at h'
  rw [Bool.and_eq_true, decide_eq_true_eq] at h'
  obtain ⟨hl, h9⟩ := h'
  obtain ⟨ho, h1, h2, -⟩ := isLab_ok hl
  have hlen := isLab_len hl
  obtain ⟨n, hn⟩ : ∃ n, n = l.2.1.toNat := ⟨_, rfl⟩
  have hoo : ∀ a, a ∈ l.2.2 → a.1.toNat < n ∧ a.2.1.toNat < n := fun a ha => by have := ho a ha; omega
  have e : matV l = bumps l.2.2 (List.replicate n (List.replicate n 0)) := by unfold matV; rw [if_pos h, hn]
  rw [e]
  have hsq := bumps_sq (xs := l.2.2) (Sq.zeros n) fun a ha => (hoo a ha).1
  have hE := bumps_EB (xs := l.2.2) (Int.le_refl 0) (EB.zeros n)
  have hs := bumps_sum (xs := l.2.2) (Sq.zeros n) hoo
  have h0 : sum2 n (List.replicate n (List.replicate n 0)) = 0 := by
    unfold sum2
    refine smN_zero fun i _ => smN_zero fun j _ => ?_
    have := EB.zeros n i j
    omega
  rw [h0, Int.zero_add] at hs
  generalize bumps l.2.2 (List.replicate n (List.replicate n 0)) = m at hsq hE hs
  have hm : isMat m = true := by
    unfold isMat
    rw [Bool.and_eq_true, decide_eq_true_eq, hsq.1, List.all_eq_true]
    refine ⟨by omega, fun r hr => ?_⟩
    rw [rowOk_yes (hsq.2 r hr), List.all_eq_true]
    intro x hx
    obtain ⟨i, hi⟩ := List.getElem?_of_mem hr
    obtain ⟨j, hj⟩ := List.getElem?_of_mem hx
    have e1 : ent m i j = x := by simp [ent, List.getD, hi, hj]
    have := hE i j
    rw [e1] at this
    unfold entOk
    simp
    omega
  rw [← hs]
  unfold sumV sum2
  rw [if_pos hm, lb_sumK, hsq.1]
  refine smN_congr fun i hi => ?_
  rw [lb_tot, (hsq.row hi).2]
  rfl
/-! Words of three letters. -/
theorem wordM_lets {k : Int} (h1 : 1 ≤ k ∧ k ≤ 3) : ∀ {wd : List Nat}, Lets k.toNat wd → wd.length ≤ 16 → wordM k (wordT wd) = true := by
  have key : ∀ wd : List Nat, Lets k.toNat wd → letB k (wd.map fun x => UInt8.ofNat (97 + x)) = true := by
    intro wd
    induction wd with
    | nil => exact fun _ => rfl
    | cons x wd ih =>
      intro h
      have hx := h x (by simp)
      have e4 : (UInt8.ofNat (97 + x)).toNat = 97 + x := by simp; omega
      simp only [List.map_cons, letB]
      rw [e4, if_pos (by omega)]
      exact ih fun y hy => h y (List.mem_cons_of_mem _ hy)
  intro wd hl hw
  unfold wordM
  rw [decide_eq_true h1, wordT_size, decide_eq_true hw]
  exact key wd hl
theorem readsM_of {l : Lb} (h : isLab l = true) {wd : List Nat} (hl : Lets l.1.toNat wd) (hw : wd.length ≤ 16) (hr : readB l.2.2 (bl wd) (allN l.2.1) ≠ 0) : readsM l (wordT wd) = true := by
  unfold readsM
  rw [h, wordM_lets (by have := isLab_ok h; omega) hl hw, bl_data, decide_eq_true (by omega)]
  rfl
theorem nz_bit {s : Nat} (h : s ≠ 0) : ∃ i, s.testBit i = true := by
  apply Classical.byContradiction
  intro hn
  exact h (nat_zero.2 fun i hi => hn ⟨i, hi⟩)
theorem bit_nz {s i : Nat} (h : s.testBit i = true) : s ≠ 0 := fun e => nat_zero.1 e i h
section
variable {t : Lb} (h : trimOk t = true)
include h
theorem rdw_word {n : Int} {p : ByteArray} (hp : p ∈ rdwM (trimV t) n) : ∃ wd, p = wordT wd ∧ (wd.length : Int) = n ∧ n ≤ 6 ∧ Lets t.1.toNat wd ∧ readB (trimV t).2.2 (bl wd) (allN (trimV t).2.1) ≠ 0 := by
  unfold rdwM at hp
  split at hp
  · rename_i hc
    rw [Bool.and_eq_true, decide_eq_true_eq] at hc
    obtain ⟨wd, hm, rfl⟩ := List.mem_map.1 hp
    rw [List.mem_filter] at hm
    have h0 := isLab_ok hc.1
    obtain ⟨h1, h2⟩ := allW_mem (by omega) hm.1
    have e1 : (trimV t).1 = t.1 := by rw [trim_eq h]
    refine ⟨wd, rfl, by omega, hc.2.2, fun x hx => by rw [← e1]; exact h2 x hx, ?_⟩
    have h3 := hm.2
    unfold rdwF at h3
    rw [decide_eq_true_eq, bl_data] at h3
    omega
  · cases hp
theorem rdw_reads {n : Int} {p : ByteArray} (hp : p ∈ rdwM (trimV t) n) : readsM t p = true := by
  obtain ⟨wd, rfl, h1, h2, hl, hr⟩ := rdw_word h hp
  obtain ⟨j, hj⟩ := nz_bit hr
  obtain ⟨i, -, -, hi⟩ := trim_reads h wd hl j hj
  exact readsM_of (trim_isLab h) hl (by omega) (bit_nz hi)
theorem rdw_tail {x : Nat} {wd : List Nat} (hl : Lets t.1.toNat (x :: wd)) (hw : wd.length ≤ 16) (hr : readB (trimV t).2.2 (bl (x :: wd)) (allN (trimV t).2.1) ≠ 0) : readsM (trimV t) (wordT wd) = true := by
  have hlab := trim_lab h
  have h0 := isLab_ok hlab
  have ho := isLab_arcs hlab
  have e1 : (trimV t).1 = t.1 := by rw [trim_eq h]
  have hx := hl x (by simp)
  refine readsM_of hlab (fun y hy => by rw [e1]; exact hl y (List.mem_cons_of_mem _ hy)) hw ?_
  rw [bl_cons (by rw [← e1] at hx; omega)] at hr
  obtain ⟨j, hj⟩ := nz_bit hr
  refine bit_nz (Sub.read (bl wd) (fun i hi => ?_) j hj)
  rw [allN_bit]
  exact step_all ho _ _ _ hi
theorem rdw_more {wd : List Nat} (hl : Lets t.1.toNat wd) (hw : wd.length ≤ 15) (hr : readB (trimV t).2.2 (bl wd) (allN (trimV t).2.1) ≠ 0) :
    readsM (trimV t) (wordT (wd ++ [0])) = true ∨ readsM (trimV t) (wordT (wd ++ [1])) = true ∨ readsM (trimV t) (wordT (wd ++ [2])) = true := by
  have hlab := trim_lab h
  have h0 := isLab_ok hlab
  have e1 : (trimV t).1 = t.1 := by rw [trim_eq h]
  obtain ⟨x, hx, hz⟩ := trim_more h hl hr
  have hgo : readsM (trimV t) (wordT (wd ++ [x])) = true := readsM_of hlab (by rw [e1]; exact hl.snoc hx) (by rw [List.length_append, List.length_singleton]; omega) hz
  have h3 : x < 3 := by rw [← e1] at hx; omega
  rcases x with _ | _ | _ | x
  · exact Or.inl hgo
  · exact Or.inr (Or.inl hgo)
  · exact Or.inr (Or.inr hgo)
  · omega
end
/-- What the law asks of the i-th word of three letters. -/
theorem labels_law {t : Lb} (h : trimOk t = true) {p : ByteArray} (hp : p ∈ rdwM (trimV t) 3) :
    p.size = 3 ∧ readsM t p = true ∧ readsM (trimV t) (p.extract 1 p.size) = true ∧
    (readsM (trimV t) (p ++ "a".toUTF8) = true ∨ readsM (trimV t) (p ++ "b".toUTF8) = true ∨ readsM (trimV t) (p ++ "c".toUTF8) = true) := by
  have h0 := rdw_reads h hp
  obtain ⟨wd, rfl, h1, h2, hl, hr⟩ := rdw_word h hp
  have h3 : wd.length = 3 := by omega
  have hap : ∀ (x : Nat) (s : ByteArray), s.data.toList = [UInt8.ofNat (97 + x)] → wordT wd ++ s = wordT (wd ++ [x]) := fun x s hs => by
    apply ByteArray.ext
    apply Array.toList_inj.1
    rw [bl_data, bl_append, ByteArray.data_append, Array.toList_append, bl_data, hs]
    rfl
  refine ⟨by rw [wordT_size]; exact h3, h0, ?_, ?_⟩
  · obtain _ | ⟨x, w⟩ := wd
    · simp at h3
    have e : (wordT (x :: w)).extract 1 (wordT (x :: w)).size = wordT w := by
      apply ByteArray.ext
      apply Array.toList_inj.1
      rw [extract_list, bl_data, bl_data, wordT_size]
      simp [bl]
      exact List.take_of_length_le (by simp)
    rw [e]
    exact rdw_tail h hl (by simp at h3; omega) hr
  · rw [hap 0 _ (by decide), hap 1 _ (by decide), hap 2 _ (by decide)]
    exact rdw_more h hl (by omega) hr
/-! The language. -/
theorem lof_words {s : Sh} (h : lofOk s = true) {n : Int} : rdwM (lofV s) n = lanM s n := by
  have hr := lof_resolv h
  have hlab : isLab (lofV s) = true := by unfold resolvM at hr; rw [Bool.and_eq_true] at hr; exact hr.1
  have h' := h
  unfold lofOk at h'
  rw [Bool.and_eq_true, decide_eq_true_eq] at h'
  obtain ⟨hs, hne⟩ := h'
  have hP := shiftM_of hs
  unfold rdwM lanM
  rw [hlab, hs]
  by_cases hn : (true && decide (0 ≤ n ∧ n ≤ 6)) = true
  · rw [if_pos hn, if_pos hn]
    have e : lofV s = (s.1, ((statesM s.2 s.1.toNat).length : Int), garcs s.2 (statesM s.2 s.1.toNat) (statesM s.2 s.1.toNat).length) := by unfold lofV; rw [if_pos h]
    rw [e]
    simp only
    congr 1
    have hS := hP.short
    obtain ⟨h1, -⟩ := hP
    refine List.filter_congr fun wd hwd => ?_
    obtain ⟨-, hx⟩ := allW_mem (by omega) hwd
    rw [← lang_law hS (by omega) (by omega) hx hne]
    rfl
  · rw [if_neg hn, if_neg hn]
end Go.Proofs.YtcilgihmaaobeaaGreatDoor
end
