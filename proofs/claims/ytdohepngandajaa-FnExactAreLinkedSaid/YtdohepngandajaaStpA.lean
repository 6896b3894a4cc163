/-
  StepsFrom: a matrix is put behind others, both sides.
-/
import Derived.Test.YtdohepngandajaaRows
import Derived.Test.YtdohepngandajaaBase
import Derived.Test.YtdohepngandajaaTabs
import Derived.Test.YtdohepngandajaaHarn
import Derived.Test.YtdohepngandajaaMat
import Derived.Test.YtdohepngandajaaEqual
import Derived.Test.YtdohepngandajaaApart
import Derived.Test.YtdohepngandajaaSep
import Derived.Test.YtdohepngandajaaSepK
import Derived.Test.YtdohepngandajaaRegL
import Derived.Test.YtdohepngandajaaHarn3
import Derived.Test.YtdohepngandajaaStpM
import Derived.IntWalk
import Derived.Deep.RegionHeld3
import Derived.Deep.DeepCutAuto
namespace Go.Proofs.Ytdohepngandajaa
open Go.RowKit Go.Deep Go.Sd
set_option linter.unusedSimpArgs false
abbrev Res.tabs (v : Value) (L : List Tbl) : Res := Res.of (OTabs 3 50 41) (OTabs.kept _ _ _).held v L
abbrev Res.tab (v : Value) (M : Tbl) : Res := Res.of (OTab 3 50) (OTab.kept _ _).held v M
def bigR (l : List Int) : Bool := l.any fun y => decide (3 < y)
theorem big_row (r : List Int) : bigR r = !(r.all fun x => decide (x ≤ 3)) := by
  unfold bigR
  rw [List.any_eq_not_all_not]
  congr 2
  funext y
  by_cases h : 3 < y
  · rw [decide_eq_true h, decide_eq_false (by omega)]; rfl
  · rw [decide_eq_false h, decide_eq_true (by omega)]; rfl
theorem big_small (m : Tbl) : m.any bigR = !smallT m := by
  unfold smallT
  rw [List.any_eq_not_all_not]
  congr 2
  funext r
  rw [big_row]; simp
def findX {α : Type} (p : α → Bool) : List α → Nat → Int
  | [], _ => -1
  | x :: xs, k => if p x = true then (k : Int) else findX p xs (k + 1)
theorem findX_any {α : Type} (p : α → Bool) : ∀ (xs : List α) (k : Nat), decide (0 ≤ findX p xs k) = xs.any p
  | [], _ => by simp [findX]
  | x :: xs, k => by
    unfold findX
    rw [List.any_cons]
    cases h : p x with
    | true => rw [if_pos rfl]; simp <;> omega
    | false => rw [if_neg (by simp), findX_any p xs (k + 1)]; simp
set_option maxHeartbeats 1000000 in
theorem max_c {w : World} {v : Value} {row : List Int} (h : Ints w v row) (h0 : 0 < row.length) :
    Calls Try.prog 161 #[v] w fun e w' => ∃ x : Int, e = .returned (.int .i64 x) ∧ decide (3 < x) = bigR row ∧ w = w' := by
  obtain ⟨a, c, rfl, _, hc63, hcell⟩ := h.shape
  obtain ⟨b, o, rfl, hb, hx0⟩ := hcell h0
  have hlen := h.len
  clear h hcell
  obtain ⟨y0, hy0, _⟩ := at_lt h0
  obtain ⟨u0, hu0, rfl⟩ := hx0 0 y0 hy0
  rw [Nat.add_zero] at hu0
  have H0 := Lib.hid (show decide (3 < y0) = bigR (row.take 1) from by
    rw [show row.take 1 = [y0] from by cases row with
      | nil => simp at h0
      | cons z r => simp at hy0; subst hy0; simp]
    simp [bigR])
  obtain ⟨n, hn⟩ : ∃ n, n = row.length := ⟨_, rfl⟩
  have Hn := Lib.hid hn
  have Hx := Lib.hid (fun i x (hi : row[i]? = some x) => (show w.cell? ⟨b, o + i, none⟩ = some (.int .i64 x) from by obtain ⟨u, hu, rfl⟩ := hx0 i x hi; exact hu))
  rw [← hn] at h0 hlen ⊢
  have hn1 : ¬ ((n : Int) < 1) := by omega
  clear hn hy0 hx0
  go_enter Try.func161, Try.ntmps161
  go_wp2
  go_loopg [3, 4] (n - 1) (fun g m i wr => ∃ (k : Nat) (y : Int), m = .int .i64 y ∧ i = .int .i64 k ∧ k + g = n ∧ 1 ≤ k ∧ Hid (decide (3 < y) = bigR (row.take k)) ∧ w = wr)
  case atStart => exact ⟨1, y0, rfl, rfl, by omega, by omega, H0, rfl⟩
  case round =>
    clear H0 hu0
    obtain ⟨k, y, rfl, rfl, hk, hk1, HK, rfl⟩ := hrel
    by_cases hlt : k < n
    · obtain ⟨x, hx, _⟩ := at_lt (xs := row) (k := k) (by have := Hn.out; omega)
      have hu := Hx.out k x hx
      have HK2 := Lib.hid (show decide (3 < max y x) = bigR (row.take (k + 1)) from by
        rw [← take_snoc' hx]
        have h1 := HK.out
        unfold bigR at h1 ⊢
        rw [List.any_append, ← h1]
        simp only [List.any_cons, List.any_nil, Bool.or_false]
        by_cases q1 : 3 < y
        · by_cases q2 : 3 < x
          · rw [decide_eq_true q1, decide_eq_true q2, decide_eq_true (by omega)]; rfl
          · rw [decide_eq_true q1, decide_eq_false q2, decide_eq_true (by omega)]; rfl
        · by_cases q2 : 3 < x
          · rw [decide_eq_false q1, decide_eq_true q2, decide_eq_true (by omega)]; rfl
          · rw [decide_eq_false q1, decide_eq_false q2, decide_eq_false (by omega)]; rfl)
      have hki : (k : Int) < (n : Int) := by omega
      clear hx HK
      have HKx := Lib.hid (fun (h : y ≤ x) => (show decide (3 < x) = bigR (row.take (k + 1)) from by have h2 := HK2.out; rwa [show max y x = x by omega] at h2))
      have HKy := Lib.hid (fun (h : x ≤ y) => (show decide (3 < y) = bigR (row.take (k + 1)) from by have h2 := HK2.out; rwa [show max y x = y by omega] at h2))
      clear HK2
      go_wp2
      all_goals (
        go_roundg (n - (k + 1))
        case measure => omega
        case rel => first | exact ⟨k + 1, x, rfl, by go_num, by omega, by omega, Lib.hid (HKx.out (by omega)), rfl⟩ | exact ⟨k + 1, y, rfl, by go_num, by omega, by omega, Lib.hid (HKy.out (by omega)), rfl⟩)
    · have HF := Lib.hid (show decide (3 < y) = bigR row from by have h := HK.out; rwa [List.take_of_length_le (by have := Hn.out; omega)] at h)
      have hki : ¬ ((k : Int) < (n : Int)) := by omega
      clear HK
      go_wp2
      go_ret
      exact ⟨y, rfl, HF.out, rfl⟩
set_option maxHeartbeats 400000 in
theorem bigclo_c {w : World} {v : Value} {row : List Int} (h : Ints w v row) (h0 : 0 < row.length) :
    Calls Try.prog 160 #[v] w (Reads w (.bool (bigR row))) := by
  have Hm := Lib.hid (max_c h h0)
  obtain ⟨a, c, rfl, -⟩ := h.shape
  generalize row.length = n at *
  generalize bigR row = T at Hm ⊢
  clear h h0
  go_enter Try.func160, Try.ntmps160
  go_wp2_with fail
  refine Hm.out.mono ?_
  rintro e w' ⟨x, rfl, hx, rfl⟩
  have HF := Lib.hid hx
  clear hx
  go_wp2
  go_ret
  exact ⟨by rw [← HF.out]; rfl, Drawn.refl _⟩
set_option maxHeartbeats 400000 in
theorem sameclo_c {w : World} {v vm : Value} {bx : Nat} {x M : Tbl} (hx : Tab w v x) (hM : Tab w vm M) (hb : w.cell? ⟨bx, 0, none⟩ = some vm) :
    Calls Try.prog 163 #[v, .pointer (some ⟨bx, 0, none⟩)] w (Reads w (.bool (decide (M = x)))) := by
  have Hm := Lib.hid (impl_EqualMatrix_c hM hx)
  obtain ⟨a, c, rfl, -⟩ := hx.shape
  obtain ⟨a2, c2, rfl, -⟩ := hM.shape
  generalize decide (M = x) = T at Hm ⊢
  generalize x.length = n at *
  generalize M.length = n2 at *
  clear hx hM
  go_enter Try.func163, Try.ntmps163
  go_wp2_with fail
  refine Hm.out.mono ?_
  rintro e w' ⟨rfl, hd⟩
  have HD := Lib.hid hd
  clear hd Hm
  go_wp2
  go_ret
  exact ⟨rfl, HD.out⟩
set_option maxHeartbeats 1000000 in
theorem bigs_i {w : World} {v : Value} {xs : List (List Int)} (h : SlOf Ints w v xs) (hne : ∀ r, r ∈ xs → 0 < r.length) :
    Calls Try.prog 199 #[v, .func (.func 160) #[] #[]] w (Reads w (.int .i64 (findX bigR xs 0))) := by
  have hlen := h.len
  obtain ⟨a, c, rfl, _, _, hcell⟩ := h.shape
  clear h
  have H0 := Lib.hid (show findX bigR xs 0 = findX bigR (xs.drop 0) 0 from rfl)
  generalize findX bigR xs 0 = T at H0 ⊢
  have Hclo := Lib.hid (fun (wr : World) (hd : Drawn w wr) vl l (hl : Ints wr vl l) (hm : l ∈ xs) => bigclo_c hl (hne l hm))
  obtain ⟨n, hn⟩ : ∃ n, n = xs.length := ⟨_, rfl⟩
  have Hn := Lib.hid hn
  rw [← hn] at hlen hcell ⊢
  clear hn hne
  go_enter Try.func199, Try.ntmps199
  go_wp2
  go_loopg [8] n (fun g i wr => ∃ (k : Nat), i = .int .i64 k ∧ k + g = n ∧ Hid (T = findX bigR (xs.drop k) k) ∧ Drawn w wr)
  case atStart => exact ⟨0, rfl, by omega, H0, Drawn.refl _⟩
  case round =>
    obtain ⟨k, rfl, hk, HK, hdr⟩ := hrel
    by_cases hlt : k < n
    · obtain ⟨b, o, rfl, hb, hx0⟩ := hcell (by omega)
      obtain ⟨x, hx, hd⟩ := at_lt (xs := xs) (k := k) (by have := Hn.out; omega)
      obtain ⟨u, hu, hux⟩ := hx0 k x hx
      rw [← hdr.cell] at hu
      have Hc := Lib.hid (Hclo.out wr hdr u x (hdr.read Ints.frame hux) (List.mem_of_getElem? hx))
      have HK1 := Lib.hid (show T = if bigR x = true then (k : Int) else findX bigR (xs.drop (k + 1)) (k + 1) from by rw [HK.out, hd]; rfl)
      obtain ⟨ua, uc, rfl, _, _, _⟩ := hux.shape
      generalize x.length = xn at *
      have Hdr := Lib.hid hdr
      have hkn : (k : Int) < (n : Int) := by omega
      clear hx hd hx0 hcell HK H0 hux hdr
      try simp only at Hc HK1
      generalize bigR x = d at Hc HK1
      cases d with
      | true =>
        have HF := Lib.hid (show T = (k : Int) from by rw [HK1.out, if_pos rfl])
        go_wp2_with fail
        refine Hc.out.mono ?_
        rintro e w2 ⟨rfl, hd2⟩
        have HZ := Lib.hid (Hdr.out.trans hd2)
        clear hd2 HK1
        go_wp2
        go_ret
        exact ⟨by rw [HF.out]; rfl, HZ.out⟩
      | false =>
        have HF := Lib.hid (show T = findX bigR (xs.drop (k + 1)) (k + 1) from by rw [HK1.out, if_neg (by simp)])
        go_wp2_with fail
        refine Hc.out.mono ?_
        rintro e w2 ⟨rfl, hd2⟩
        have HZ := Hdr.out.trans hd2
        clear hd2 HK1
        go_wp2
        go_roundg (n - (k + 1))
        case measure => omega
        case rel => exact ⟨k + 1, by go_num, by omega, HF, HZ⟩
    · have HF := Lib.hid (show T = -1 from by rw [HK.out, drop_len (by have := Hn.out; omega)]; rfl)
      clear HK H0 hcell
      go_wp2
      go_ret
      exact ⟨by rw [HF.out]; rfl, hdr⟩
set_option maxHeartbeats 400000 in
theorem bigs_c {w : World} {v : Value} {xs : List (List Int)} (h : SlOf Ints w v xs) (hne : ∀ r, r ∈ xs → 0 < r.length) :
    Calls Try.prog 159 #[v, .func (.func 160) #[] #[]] w (Reads w (.bool (xs.any bigR))) := by
  have Hi := Lib.hid (bigs_i h hne)
  have HF := Lib.hid (findX_any bigR xs 0)
  obtain ⟨a, c, rfl, -⟩ := h.shape
  generalize xs.any bigR = T at HF ⊢
  generalize findX bigR xs 0 = r at Hi HF
  generalize xs.length = n at *
  clear h hne
  go_enter Try.func159, Try.ntmps159
  go_wp2_with fail
  refine Hi.out.mono ?_
  rintro e w' ⟨rfl, hd⟩
  have HD := Lib.hid hd
  clear hd Hi
  go_wp2
  go_ret
  exact ⟨by rw [← HF.out]; first | rfl | simp, HD.out⟩
set_option maxHeartbeats 1000000 in
theorem sames_i {w : World} {v : Value} {vm : Value} {bx : Nat} {M : Tbl} {xs : List Tbl} (h : SlOf Tab w v xs) (hM : Tab w vm M) (hbx : w.cell? ⟨bx, 0, none⟩ = some vm) :
    Calls Try.prog 200 #[v, .func (.func 163) #[] #[.pointer (some ⟨bx, 0, none⟩)]] w (Reads w (.int .i64 (findX (fun x => decide (M = x)) xs 0))) := by
  obtain ⟨p, hp⟩ : ∃ p : Tbl → Bool, p = (fun x => decide (M = x)) := ⟨_, rfl⟩
  rw [← hp]
  have hlen := h.len
  obtain ⟨a, c, rfl, _, _, hcell⟩ := h.shape
  clear h
  have H0 := Lib.hid (show findX p xs 0 = findX p (xs.drop 0) 0 from rfl)
  generalize findX p xs 0 = T at H0 ⊢
  have Hclo := Lib.hid (fun (wr : World) (hd : Drawn w wr) vl l (hl : Tab wr vl l) (hm : l ∈ xs) => (show Calls Try.prog 163 #[vl, .pointer (some ⟨bx, 0, none⟩)] wr (Reads wr (.bool (p l))) from by rw [hp]; exact sameclo_c hl (hd.read Tab.frame hM) (by rw [hd.cell]; exact hbx)))
  obtain ⟨n, hn⟩ : ∃ n, n = xs.length := ⟨_, rfl⟩
  have Hn := Lib.hid hn
  rw [← hn] at hlen hcell ⊢
  clear hn hM hbx hp
  go_enter Try.func200, Try.ntmps200
  go_wp2
  go_loopg [8] n (fun g i wr => ∃ (k : Nat), i = .int .i64 k ∧ k + g = n ∧ Hid (T = findX p (xs.drop k) k) ∧ Drawn w wr)
  case atStart => exact ⟨0, rfl, by omega, H0, Drawn.refl _⟩
  case round =>
    obtain ⟨k, rfl, hk, HK, hdr⟩ := hrel
    by_cases hlt : k < n
    · obtain ⟨b, o, rfl, hb, hx0⟩ := hcell (by omega)
      obtain ⟨x, hx, hd⟩ := at_lt (xs := xs) (k := k) (by have := Hn.out; omega)
      obtain ⟨u, hu, hux⟩ := hx0 k x hx
      rw [← hdr.cell] at hu
      have Hc := Lib.hid (Hclo.out wr hdr u x (hdr.read Tab.frame hux) (List.mem_of_getElem? hx))
      have HK1 := Lib.hid (show T = if p x = true then (k : Int) else findX p (xs.drop (k + 1)) (k + 1) from by rw [HK.out, hd]; rfl)
      obtain ⟨ua, uc, rfl, _, _, _⟩ := hux.shape
      generalize x.length = xn at *
      have Hdr := Lib.hid hdr
      have hkn : (k : Int) < (n : Int) := by omega
      clear hx hd hx0 hcell HK H0 hux hdr
      try simp only at Hc HK1
      generalize p x = d at Hc HK1
      cases d with
      | true =>
        have HF := Lib.hid (show T = (k : Int) from by rw [HK1.out, if_pos rfl])
        go_wp2_with fail
        refine Hc.out.mono ?_
        rintro e w2 ⟨rfl, hd2⟩
        have HZ := Lib.hid (Hdr.out.trans hd2)
        clear hd2 HK1
        go_wp2
        go_ret
        exact ⟨by rw [HF.out]; rfl, HZ.out⟩
      | false =>
        have HF := Lib.hid (show T = findX p (xs.drop (k + 1)) (k + 1) from by rw [HK1.out, if_neg (by simp)])
        go_wp2_with fail
        refine Hc.out.mono ?_
        rintro e w2 ⟨rfl, hd2⟩
        have HZ := Hdr.out.trans hd2
        clear hd2 HK1
        go_wp2
        go_roundg (n - (k + 1))
        case measure => omega
        case rel => exact ⟨k + 1, by go_num, by omega, HF, HZ⟩
    · have HF := Lib.hid (show T = -1 from by rw [HK.out, drop_len (by have := Hn.out; omega)]; rfl)
      clear HK H0 hcell
      go_wp2
      go_ret
      exact ⟨by rw [HF.out]; rfl, hdr⟩
set_option maxHeartbeats 400000 in
theorem sames_c {w : World} {v : Value} {vm : Value} {bx : Nat} {M : Tbl} {xs : List Tbl} (h : SlOf Tab w v xs) (hM : Tab w vm M) (hbx : w.cell? ⟨bx, 0, none⟩ = some vm) :
    Calls Try.prog 162 #[v, .func (.func 163) #[] #[.pointer (some ⟨bx, 0, none⟩)]] w (Reads w (.bool (xs.any (fun x => decide (M = x))))) := by
  have Hi := Lib.hid (sames_i h hM hbx)
  have HF := Lib.hid (findX_any (fun x => decide (M = x)) xs 0)
  obtain ⟨a, c, rfl, -⟩ := h.shape
  generalize xs.any (fun x => decide (M = x)) = T at HF ⊢
  generalize findX (fun x => decide (M = x)) xs 0 = r at Hi HF
  generalize xs.length = n at *
  clear h hM hbx
  go_enter Try.func162, Try.ntmps162
  go_wp2_with fail
  refine Hi.out.mono ?_
  rintro e w' ⟨rfl, hd⟩
  have HD := Lib.hid hd
  clear hd Hi
  go_wp2
  go_ret
  exact ⟨by rw [← HF.out]; first | rfl | simp, HD.out⟩
end Go.Proofs.Ytdohepngandajaa
