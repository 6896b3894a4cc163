/-
  Texts of this claim joined: laws for its walks, contracts of the functions that the law reaches.
-/
import Derived.Test.YtdohepngandajaaRows
import Derived.Test.YtdohepngandajaaFnPureM1
import Derived.ProofKit
import Derived.OpenShut
import Derived.Deep.Matrix
import Derived.Deep.Slices
import Derived.OwnWalk
import Derived.Lib.SmallJoins
section
/-
  The laws' own helpers on integer slices and tables: sizes, copies, comparisons, marks.
-/
namespace Go.Proofs.Ytdohepngandajaa
open Go.RowKit Go.Deep Go.Sd

theorem infoI : (Try.prog.info? 3).map (fun i => (i.zero, i.size, i.bytes)) = some (some (.int .i64 0), 1, 8) := by kernel_rfl
theorem infoR : (Try.prog.info? 50).map (fun i => (i.zero, i.size, i.bytes)) = some (some (.slice none 0 0), 1, 24) := by kernel_rfl

def szS (left n : Int) : Int := if left - n < 0 then -1 else left - n
def szLoop : List (List Int) → Int → Int
  | [], l => l
  | r :: rs, l => if szS l r.length < 0 then -1 else szLoop rs (szS l r.length)
def szSS (m : List (List Int)) (l : Int) : Int := if l - m.length < 0 then -1 else szLoop m (l - m.length)

theorem szS_bd (l n : Int) (hn : 0 ≤ n) : -1 ≤ szS l n ∧ (0 ≤ l → szS l n ≤ l) ∧ (0 ≤ szS l n → n ≤ l) := by unfold szS; split <;> omega
theorem szLoop_bd (m : List (List Int)) (l : Int) (hl : 0 ≤ l) : -1 ≤ szLoop m l ∧ szLoop m l ≤ l ∧ (0 ≤ szLoop m l → ∀ r ∈ m, (r.length : Int) ≤ l) := by
  induction m generalizing l with
  | nil => simp [szLoop]; omega
  | cons r rs ih =>
    have h := szS_bd l r.length (by omega)
    unfold szLoop
    by_cases h0 : szS l r.length < 0
    · rw [if_pos h0]; refine ⟨by omega, by omega, fun h => by omega⟩
    · rw [if_neg h0]
      have := ih (szS l r.length) (by omega)
      refine ⟨this.1, by omega, fun hh x hx => ?_⟩
      rcases List.mem_cons.1 hx with rfl | hx
      · omega
      · have := this.2.2 hh x hx; omega
theorem szSS_bd (m : List (List Int)) (l : Int) (hl : 0 ≤ l) : -1 ≤ szSS m l ∧ szSS m l ≤ l ∧ (0 ≤ szSS m l → (m.length : Int) ≤ l ∧ ∀ r ∈ m, (r.length : Int) ≤ l) := by
  unfold szSS
  split
  · refine ⟨by omega, by omega, fun h => by omega⟩
  · have h := szLoop_bd m (l - m.length) (by omega)
    refine ⟨h.1, by omega, fun hh => ⟨by omega, fun r hr => by have := h.2.2 hh r hr; omega⟩⟩

theorem szIntS_c {w : World} {v : Value} {xs : List Int} {l : Int} (h : Ints w v xs) (h0 : 0 ≤ l) (h1 : l ≤ 1048576) :
    Calls Try.prog 88 #[v, .int .i64 l] w fun e w' => e = .returned (.int .i64 (szS l xs.length)) ∧ w = w' := by
  have hlen := h.len
  obtain ⟨a, c, rfl, hc, hc', _⟩ := h.shape
  clear h
  by_cases ht : l - xs.length < 0
  all_goals
    have H := Lib.hid (show szS l xs.length = _ from by unfold szS; first | rw [if_pos ht] | rw [if_neg ht])
    go_enter Try.func88, Try.ntmps88
    go_wp2
    go_ret
    exact ⟨by rw [H.out]; rfl, rfl⟩

set_option maxHeartbeats 400000 in
theorem szIntSS_c {w : World} {v : Value} {m : List (List Int)} {l : Int} (h : Tab w v m) (h0 : 0 ≤ l) (h1 : l ≤ 1048576) :
    Calls Try.prog 29 #[v, .int .i64 l] w fun e w' => e = .returned (.int .i64 (szSS m l)) ∧ w = w' := by
  have hlen := h.len
  obtain ⟨a, c, rfl, hc, hc', hcell⟩ := h.shape
  clear h
  by_cases ht : l - m.length < 0
  · have H := Lib.hid (show szSS m l = _ from by unfold szSS; rw [if_pos ht])
    go_enter Try.func29, Try.ntmps29
    go_wp2
    go_ret
    exact ⟨by rw [H.out]; rfl, rfl⟩
  · have H0 := Lib.hid (show szSS m l = szLoop (m.drop 0) (l - m.length) from by unfold szSS; rw [if_neg ht]; rfl)
    go_enter Try.func29, Try.ntmps29
    go_wp2
    go_loopg [1, 5] (m.length) (fun g x i wr => ∃ (k : Nat) (l' : Int), i = .int .i64 k ∧ x = .int .i64 l' ∧ k + g = m.length ∧ 0 ≤ l' ∧ l' ≤ 1048576 ∧ Hid (szSS m l = szLoop (m.drop k) l') ∧ w = wr)
    case atStart => exact ⟨0, _, rfl, rfl, by omega, by omega, by omega, H0, rfl⟩
    case round =>
      obtain ⟨k, l', rfl, rfl, hk, h2, h3, H, rfl⟩ := hrel
      by_cases hlt : k < m.length
      · obtain ⟨b, o, rfl, hb, hc⟩ := hcell (by omega)
        obtain ⟨r, hr, hd⟩ := at_lt hlt
        obtain ⟨u, hu, hru⟩ := hc k r hr
        have H1 := Lib.hid (show szSS m l = if szS l' r.length < 0 then -1 else szLoop (m.drop (k + 1)) (szS l' r.length) from by rw [H.out, hd]; rfl)
        have hbd := szS_bd l' r.length (by omega)
        clear H hc hd hcell hr H0
        generalize hs : szS l' r.length = s at H1 hbd
        have hcon := szIntS_c (l := l') hru h2 h3
        rw [hs] at hcon
        have Hcon := Lib.hid hcon
        clear hcon hs hru
        by_cases h4 : s < 0
        · go_wp2_with (go_at_call 88; refine Hcon.out.mono ?_; rintro e w' ⟨rfl, rfl⟩)
          go_ret
          exact ⟨by rw [H1.out, if_pos h4]; rfl, rfl⟩
        · go_wp2_with (go_at_call 88; refine Hcon.out.mono ?_; rintro e w' ⟨rfl, rfl⟩)
          go_roundg (m.length - (k + 1))
          case measure => omega
          case rel => exact ⟨k + 1, s, by go_num, rfl, by omega, by omega, by omega, Lib.hid (by rw [H1.out, if_neg (by omega)]), rfl⟩
      · have H1 := Lib.hid (show szSS m l = l' from by rw [H.out, drop_len hlt]; rfl)
        clear H
        go_wp2
        go_ret
        exact ⟨by rw [H1.out]; rfl, rfl⟩

/-! ### equality -/

def eqLoop : List Int → List Int → Bool
  | x :: xs, y :: ys => if x = y then eqLoop xs ys else false
  | _, _ => true

theorem eqLoop_iff (xs ys : List Int) (h : xs.length = ys.length) : eqLoop xs ys = decide (xs = ys) := by
  induction xs generalizing ys with
  | nil => cases ys <;> simp_all [eqLoop]
  | cons a l ih =>
    cases ys with
    | nil => simp at h
    | cons b bs =>
      unfold eqLoop
      rw [ih bs (by simpa using h)]
      by_cases e : a = b <;> simp [e]

set_option maxHeartbeats 400000 in
theorem eqIntS_c {w : World} {v1 v2 : Value} {xs ys : List Int} (h1 : Ints w v1 xs) (h2 : Ints w v2 ys) :
    Calls Try.prog 42 #[v1, v2] w (Reads w (.bool (decide (xs = ys)))) := by
  have hlen1 := h1.len
  have hlen2 := h2.len
  obtain ⟨a1, c1, rfl, _, _, hc1⟩ := h1.shape
  obtain ⟨a2, c2, rfl, _, _, hc2⟩ := h2.shape
  clear h1 h2
  by_cases hl : xs.length = ys.length
  · have H0 := Lib.hid (show decide (xs = ys) = eqLoop (xs.drop 0) (ys.drop 0) from (eqLoop_iff xs ys hl).symm)
    have hl1 : ((ys.length : Int) != ys.length) = false := by simp
    have hl2 := Lib.hid hl
    obtain ⟨n, hn⟩ : ∃ n, n = xs.length := ⟨_, rfl⟩
    rw [← hl, ← hn]
    have hnb : n ≤ 9223372036854775807 := by omega
    have hl3 := Lib.hid hn
    clear hl hn
    go_enter Try.func42, Try.ntmps42
    go_wp2
    go_loopg [5] n (fun g i wr => ∃ (k : Nat), i = .int .i64 k ∧ k + g = n ∧ Hid (decide (xs = ys) = eqLoop (xs.drop k) (ys.drop k)) ∧ Drawn w wr)
    case atStart => exact ⟨0, rfl, by omega, H0, Drawn.refl _⟩
    case round =>
      obtain ⟨k, rfl, hk, H, hdr⟩ := hrel
      by_cases hlt : k < n
      · obtain ⟨b1, o1, rfl, _, hx1⟩ := hc1 (by have := hl3.out; omega)
        obtain ⟨b2, o2, rfl, _, hx2⟩ := hc2 (by have := hl3.out; have := hl2.out; omega)
        obtain ⟨x, hx, hdx⟩ := at_lt (xs := xs) (k := k) (by have := hl3.out; omega)
        obtain ⟨y, hy, hdy⟩ := at_lt (xs := ys) (k := k) (by have := hl3.out; have := hl2.out; omega)
        obtain ⟨u1, hu1, rfl⟩ := hx1 k x hx
        obtain ⟨u2, hu2, rfl⟩ := hx2 k y hy
        rw [← hdr.cell] at hu1 hu2
        have H1 := Lib.hid (show decide (xs = ys) = if x = y then eqLoop (xs.drop (k + 1)) (ys.drop (k + 1)) else false from by rw [H.out, hdx, hdy]; rfl)
        clear H hx hdx hy hdy hx1 hx2 hc1 hc2 H0
        by_cases hxy : x = y
        · have H2 := Lib.hid (show decide (xs = ys) = eqLoop (xs.drop (k + 1)) (ys.drop (k + 1)) from by rw [H1.out, if_pos hxy])
          have hd : (x != y) = false := by simp [hxy]
          have hi1 : (k : Int) < (n : Int) := by omega
          clear hxy H1
          go_wp2
          go_quiet (fail)
          go_wp2
          go_roundg (n - (k + 1))
          case measure => omega
          case rel => exact ⟨k + 1, by go_num, by omega, H2, hdr.drewN _⟩
        · have H2 := Lib.hid (show decide (xs = ys) = false from by rw [H1.out, if_neg hxy])
          have hd : (x != y) = true := by simp [hxy]
          have hi1 : (k : Int) < (n : Int) := by omega
          clear hxy H1
          go_wp2
          go_quiet (fail)
          go_wp2
          go_ret
          exact ⟨by rw [H2.out]; rfl, hdr.drewN _⟩
      · have H1 := Lib.hid (show decide (xs = ys) = true from by rw [H.out, drop_len (by have := hl3.out; omega)]; rfl)
        clear H
        go_wp2
        go_ret
        exact ⟨by rw [H1.out]; rfl, hdr⟩
  · have H := Lib.hid (show decide (xs = ys) = false from by simp; intro h; exact hl (by rw [h]))
    have hl1 : ((xs.length : Int) != ys.length) = true := by simp; omega
    go_enter Try.func42, Try.ntmps42
    go_wp2
    go_ret
    exact ⟨by rw [H.out]; rfl, Drawn.refl _⟩

def eqLoopT : List (List Int) → List (List Int) → Bool
  | x :: xs, y :: ys => if x = y then eqLoopT xs ys else false
  | _, _ => true

theorem eqLoopT_iff (xs ys : List (List Int)) (h : xs.length = ys.length) : eqLoopT xs ys = decide (xs = ys) := by
  induction xs generalizing ys with
  | nil => cases ys <;> simp_all [eqLoopT]
  | cons a l ih =>
    cases ys with
    | nil => simp at h
    | cons b bs =>
      unfold eqLoopT
      rw [ih bs (by simpa using h)]
      by_cases e : a = b <;> simp [e]

set_option maxHeartbeats 400000 in
theorem eqIntSS_c {w : World} {v1 v2 : Value} {xs ys : List (List Int)} (h1 : Tab w v1 xs) (h2 : Tab w v2 ys) :
    Calls Try.prog 34 #[v1, v2] w (Reads w (.bool (decide (xs = ys)))) := by
  have hlen1 := h1.len
  have hlen2 := h2.len
  obtain ⟨a1, c1, rfl, _, _, hc1⟩ := h1.shape
  obtain ⟨a2, c2, rfl, _, _, hc2⟩ := h2.shape
  clear h1 h2
  by_cases hl : xs.length = ys.length
  · have H0 := Lib.hid (show decide (xs = ys) = eqLoopT (xs.drop 0) (ys.drop 0) from (eqLoopT_iff xs ys hl).symm)
    have hl2 := Lib.hid hl
    obtain ⟨n, hn⟩ : ∃ n, n = xs.length := ⟨_, rfl⟩
    rw [← hl, ← hn]
    have hnb : n ≤ 9223372036854775807 := by omega
    have hl3 := Lib.hid hn
    clear hl hn
    go_enter Try.func34, Try.ntmps34
    go_wp2
    go_loopg [5] n (fun g i wr => ∃ (k : Nat), i = .int .i64 k ∧ k + g = n ∧ Hid (decide (xs = ys) = eqLoopT (xs.drop k) (ys.drop k)) ∧ Drawn w wr)
    case atStart => exact ⟨0, rfl, by omega, H0, Drawn.refl _⟩
    case round =>
      obtain ⟨k, rfl, hk, H, hdr⟩ := hrel
      by_cases hlt : k < n
      · obtain ⟨b1, o1, rfl, _, hx1⟩ := hc1 (by have := hl3.out; omega)
        obtain ⟨b2, o2, rfl, _, hx2⟩ := hc2 (by have := hl3.out; have := hl2.out; omega)
        obtain ⟨x, hx, hdx⟩ := at_lt (xs := xs) (k := k) (by have := hl3.out; omega)
        obtain ⟨y, hy, hdy⟩ := at_lt (xs := ys) (k := k) (by have := hl3.out; have := hl2.out; omega)
        obtain ⟨u1, hu1, hr1⟩ := hx1 k x hx
        obtain ⟨u2, hu2, hr2⟩ := hx2 k y hy
        rw [← hdr.cell] at hu1 hu2
        have H1 := Lib.hid (show decide (xs = ys) = if x = y then eqLoopT (xs.drop (k + 1)) (ys.drop (k + 1)) else false from by rw [H.out, hdx, hdy]; rfl)
        have hi1 : (k : Int) < (n : Int) := by omega
        have Hc := Lib.hid (fun n => Reads.quiet (eqIntS_c ((hdr.read Ints.frame hr1).dn n) ((hdr.read Ints.frame hr2).dn n)))
        clear H hx hdx hy hdy hx1 hx2 hc1 hc2 H0 hr1 hr2
        by_cases hxy : x = y
        · have H2 := Lib.hid (show decide (xs = ys) = eqLoopT (xs.drop (k + 1)) (ys.drop (k + 1)) from by rw [H1.out, if_pos hxy])
          have hd : decide (x = y) = true := by simp [hxy]
          rw [hd] at Hc
          clear hxy H1 hd
          go_wp2
          go_quiet ((go_at_call 42; exact Hc.out _))
          go_wp2
          go_roundg (n - (k + 1))
          case measure => omega
          case rel => exact ⟨k + 1, by go_num, by omega, H2, hdr.drewN _⟩
        · have H2 := Lib.hid (show decide (xs = ys) = false from by rw [H1.out, if_neg hxy])
          have hd : decide (x = y) = false := by simp [hxy]
          rw [hd] at Hc
          clear hxy H1 hd
          go_wp2
          go_quiet ((go_at_call 42; exact Hc.out _))
          go_wp2
          go_ret
          exact ⟨by rw [H2.out]; rfl, hdr.drewN _⟩
      · have H1 := Lib.hid (show decide (xs = ys) = true from by rw [H.out, drop_len (by have := hl3.out; omega)]; rfl)
        clear H
        go_wp2
        go_ret
        exact ⟨by rw [H1.out]; rfl, hdr⟩
  · have H := Lib.hid (show decide (xs = ys) = false from by simp; intro h; exact hl (by rw [h]))
    have hl1 : ((xs.length : Int) != ys.length) = true := by simp; omega
    go_enter Try.func34, Try.ntmps34
    go_wp2
    go_ret
    exact ⟨by rw [H.out]; rfl, Drawn.refl _⟩

/-! ### copies -/

theorem fill_step {α : Type} (xs : List α) (d : α) (k n : Nat) (hn : n = xs.length) (hk : k < n) (x : α) (hx : xs[k]? = some x) :
    (xs.take k ++ List.replicate (n - k) d).set k x = xs.take (k + 1) ++ List.replicate (n - (k + 1)) d := by
  have hl : (xs.take k).length = k := by simp; omega
  have e : n - k = (n - (k + 1)) + 1 := by omega
  rw [List.set_append_right _ _ (by omega), hl, Nat.sub_self, e, List.replicate_succ, List.set_cons_zero, List.take_add_one, hx]
  simp

theorem fill_at {α : Type} (xs : List α) (d : α) (k n : Nat) (hn : n = xs.length) (hk : k < n) : (xs.take k ++ List.replicate (n - k) d)[k]? = some d := by
  have hl : (xs.take k).length = k := by simp; omega
  rw [List.getElem?_append_right (by omega), hl, Nat.sub_self, List.getElem?_replicate, if_pos (by omega)]

theorem fill_len {α : Type} (xs : List α) (d : α) (k n : Nat) (hn : n = xs.length) (hk : k ≤ n) : (xs.take k ++ List.replicate (n - k) d).length = n := by
  simp; omega

set_option maxHeartbeats 400000 in
theorem toIntS_c {w : World} {v : Value} {xs : List Int} (h : Ints w v xs) (hsz : xs.length ≤ 1048576) :
    Calls Try.prog 92 #[v] w (Makes (OInts 3) w xs) := by
  obtain ⟨a, c, rfl, _, _, hcell⟩ := h.shape
  clear h
  obtain ⟨n, hn⟩ : ∃ n, n = xs.length := ⟨_, rfl⟩
  rw [← hn] at hsz hcell ⊢
  have Hn := Lib.hid hn
  clear hn
  have hmk := run_make_row' (P := Try.prog) 50 3 (.int .i64 0) 8 Try.underlying50 infoI rfl .i64 .i64 n (by omega) (by omega)
  go_enter Try.func92, Try.ntmps92
  go_wp2
  go_loopg [4] n (fun g i wr => ∃ (k : Nat), i = .int .i64 k ∧ k + g = n ∧ New (OInts 3) w.heap.size wr (.slice (some ⟨w.heap.size, 0, none⟩) n n) (xs.take k ++ List.replicate (n - k) 0) ∧ Below w.heap.size w wr)
  case atStart => exact ⟨0, rfl, by omega, by simpa using New.made 3 w (.int .i64 0) 0 n (Nat.le_refl _) (by omega) OIntR.zero, (Below.refl _ _).alloc (Nat.le_refl _) _⟩
  case round =>
    obtain ⟨k, rfl, hk, hnew, hbel⟩ := hrel
    by_cases hlt : k < n
    · obtain ⟨b, o, rfl, hb, hx0⟩ := hcell (by omega)
      obtain ⟨x, hx, _⟩ := at_lt (xs := xs) (k := k) (by have := Hn.out; omega)
      obtain ⟨u, hu, rfl⟩ := hx0 k x hx
      have hu1 : wr.cell? ⟨b, o + k, none⟩ = some (.int .i64 x) := (hbel.cell (p := ⟨b, o + k, none⟩) hb).trans hu
      obtain ⟨b', c', hv, _, _, _, hcl, hfr, hst⟩ := hnew.int_at (fill_at xs 0 k n Hn.out hlt)
      obtain rfl : b' = w.heap.size := by simp at hv; exact hv.1.symm
      clear hv
      have hst1 := hst x
      rw [fill_step xs 0 k n Hn.out hlt x hx] at hst1
      have hbel1 := hbel.setCell (p := ⟨w.heap.size, k, none⟩) (Nat.le_refl _) (.int .i64 x)
      clear hst hnew hx hu hx0 hbel hcell hmk
      go_wp2
      go_roundg (n - (k + 1))
      case measure => omega
      case rel => exact ⟨k + 1, by go_num, by omega, hst1, hbel1⟩
    · have e : k = n := by omega
      subst e
      rw [Nat.sub_self, List.replicate_zero, List.append_nil, List.take_of_length_le (by have := Hn.out; omega)] at hnew
      clear hcell hmk
      go_wp2
      go_ret
      exact ⟨_, rfl, hnew, hbel⟩

set_option maxHeartbeats 400000 in
theorem toIntSS_c {w : World} {v : Value} {m : List (List Int)} (h : Tab w v m) (hsz : m.length ≤ 1048576) (hsr : ∀ r, r ∈ m → r.length ≤ 1048576) :
    Calls Try.prog 31 #[v] w (Makes (OTab 3 50) w m) := by
  have h' := h
  obtain ⟨a, c, rfl, _, _, hcell⟩ := h.shape
  clear h
  obtain ⟨n, hn⟩ : ∃ n, n = m.length := ⟨_, rfl⟩
  rw [← hn] at hsz hcell ⊢
  have Hn := Lib.hid hn
  have Hsr := Lib.hid hsr
  clear hn hsr h'
  have hmk := run_make_row' (P := Try.prog) 41 50 (.slice none 0 0) 24 Try.underlying41 infoR rfl .i64 .i64 n (by omega) (by omega)
  go_enter Try.func31, Try.ntmps31
  go_wp2
  go_loopg [4] n (fun g i wr => ∃ (k : Nat), i = .int .i64 k ∧ k + g = n ∧ New (OTab 3 50) w.heap.size wr (.slice (some ⟨w.heap.size, 0, none⟩) n n) (m.take k ++ List.replicate (n - k) []) ∧ Below w.heap.size w wr)
  case atStart => exact ⟨0, rfl, by omega, by simpa using New.made 50 w (.slice none 0 0) [] n (Nat.le_refl _) (by omega) OwnOf.nil, (Below.refl _ _).alloc (Nat.le_refl _) _⟩
  case round =>
    obtain ⟨k, rfl, hk, hnew, hbel⟩ := hrel
    by_cases hlt : k < n
    · obtain ⟨b, o, rfl, hb, hx0⟩ := hcell (by omega)
      obtain ⟨x, hx, _⟩ := at_lt (xs := m) (k := k) (by have := Hn.out; omega)
      obtain ⟨u, hu, hr⟩ := hx0 k x hx
      have hu1 : wr.cell? ⟨b, o + k, none⟩ = some u := (hbel.cell (p := ⟨b, o + k, none⟩) hb).trans hu
      have Hc := Lib.hid (toIntS_c (Ints.frame _ _ _ _ hr hbel) (Hsr.out x (List.mem_of_getElem? hx)))
      obtain ⟨b', c', u', hv, _, _, hlt', hcl, hfr, _, hst⟩ := hnew.at (OInts.kept _) (fill_at m [] k n Hn.out hlt)
      obtain rfl : b' = w.heap.size := by simp at hv; exact hv.1.symm
      clear hv
      have Hst := Lib.hid hst
      have Hx := Lib.hid hx
      clear hst hx hu hx0 hcell hmk hr
      go_wp2_with (go_at_call 92; refine Hc.out.mono ?_; rintro e w1 ⟨r, rfl, hr1, hb1⟩; obtain ⟨ra, rn, rc, rfl⟩ := hr1.slice; have hcl1 := (hb1.cell (p := ⟨w.heap.size, k, none⟩) hlt').trans hcl; have hfr1 := (hb1.frozen (p := ⟨w.heap.size, k, none⟩) hlt').trans hfr)
      go_roundg (n - (k + 1))
      case measure => omega
      case rel =>
        have hst1 := Hst.out _ _ _ hb1 hr1
        rw [fill_step m [] k n Hn.out hlt x Hx.out] at hst1
        exact ⟨k + 1, by go_num, by omega, hst1, (hbel.trans (hb1.mono hbel.size)).setCell (p := ⟨w.heap.size, k, none⟩) (Nat.le_refl _) _⟩
    · have e : k = n := by omega
      subst e
      rw [Nat.sub_self, List.replicate_zero, List.append_nil, List.take_of_length_le (by have := Hn.out; omega)] at hnew
      clear hcell hmk
      go_wp2
      go_ret
      exact ⟨_, rfl, hnew, hbel⟩

/-! ### marks -/

def markS : List Int → Int → List Int
  | [], _ => []
  | _ :: xs, k => k :: markS xs (k + 1)
def heldS : List Int → Int → Int
  | [], k => k
  | x :: xs, k => if x = k then heldS xs (k + 1) else -1
def cntSS : List (List Int) → Int
  | [] => 0
  | r :: rs => r.length + cntSS rs
def markSS : List (List Int) → Int → List (List Int)
  | [], _ => []
  | r :: rs, k => markS r k :: markSS rs (k + r.length)
def heldSS : List (List Int) → Int → Int
  | [], k => k
  | r :: rs, k => if heldS r k < 0 then -1 else heldSS rs (heldS r k)

theorem markS_len (xs : List Int) (k : Int) : (markS xs k).length = xs.length := by
  induction xs generalizing k with
  | nil => rfl
  | cons x xs ih => simp [markS, ih]
theorem markS_at (xs : List Int) (k : Int) (i : Nat) (h : i < xs.length) : (markS xs k)[i]? = some (k + i) := by
  induction xs generalizing k i with
  | nil => simp at h
  | cons x xs ih =>
    cases i with
    | zero => simp [markS]
    | succ i =>
      simp only [markS, List.getElem?_cons_succ]
      rw [ih (k + 1) i (by simpa using h)]
      congr 1; omega
theorem heldS_mark (xs : List Int) (k : Int) : heldS (markS xs k) k = k + xs.length := by
  induction xs generalizing k with
  | nil => simp [heldS, markS]
  | cons x xs ih => simp only [markS, heldS, if_true, ih, List.length_cons]; omega
theorem heldS_bd (xs : List Int) (k : Int) (h : 0 ≤ k) : -1 ≤ heldS xs k ∧ heldS xs k ≤ k + xs.length := by
  induction xs generalizing k with
  | nil => simp [heldS]; omega
  | cons x xs ih =>
    unfold heldS
    split
    · have := ih (k + 1) (by omega); simp only [List.length_cons]; omega
    · simp only [List.length_cons]; omega
theorem cntSS_nn (m : List (List Int)) : 0 ≤ cntSS m := by
  induction m with
  | nil => simp [cntSS]
  | cons r rs ih => unfold cntSS; omega
theorem markSS_len (m : List (List Int)) (k : Int) : (markSS m k).length = m.length := by
  induction m generalizing k with
  | nil => rfl
  | cons x xs ih => simp [markSS, ih]
theorem heldSS_mark (m : List (List Int)) (k : Int) (h : 0 ≤ k) : heldSS (markSS m k) k = k + cntSS m := by
  induction m generalizing k with
  | nil => simp [heldSS, markSS, cntSS]
  | cons x xs ih =>
    simp only [markSS, heldSS, heldS_mark, cntSS]
    rw [if_neg (by omega), ih _ (by omega)]
    omega

theorem mark_step {α : Type} (ms xs : List α) (k n : Nat) (hm : n = ms.length) (hn : n = xs.length) (hk : k < n) (y : α) (hy : ms[k]? = some y) :
    (ms.take k ++ xs.drop k).set k y = ms.take (k + 1) ++ xs.drop (k + 1) := by
  have hl : (ms.take k).length = k := by simp; omega
  rw [List.set_append_right _ _ (by omega), hl, Nat.sub_self, List.drop_eq_getElem_cons (by omega : k < xs.length), List.set_cons_zero, List.take_add_one, hy]
  simp

theorem mark_at {α : Type} (ms xs : List α) (k n : Nat) (hm : n = ms.length) (hn : n = xs.length) (hk : k < n) (x : α) (hx : xs[k]? = some x) : (ms.take k ++ xs.drop k)[k]? = some x := by
  have hl : (ms.take k).length = k := by simp; omega
  rw [List.getElem?_append_right (by omega), hl, Nat.sub_self, List.getElem?_drop]
  simpa using hx

theorem mark_len {α : Type} (ms xs : List α) (k n : Nat) (hm : n = ms.length) (hn : n = xs.length) : (ms.take k ++ xs.drop k).length = n := by
  simp; omega

set_option maxHeartbeats 400000 in
theorem markIntS_c {w : World} {v : Value} {xs : List Int} {F : List Nat} {k0 : Int} (h : OInts 3 w v xs F) (hF : F.Nodup) (h0 : 0 ≤ k0) (h1 : k0 + xs.length ≤ 4611686018427387904) :
    Calls Try.prog 43 #[v, .int .i64 k0] w (Marks (OInts 3) F w v (markS xs k0) (k0 + xs.length)) := by
  have hsh := h.reads.shape
  obtain ⟨a, c, hv, _, _, _⟩ := hsh
  obtain ⟨n, hn⟩ : ∃ n, n = xs.length := ⟨_, rfl⟩
  rw [← hn] at hv h1 ⊢
  have Hn := Lib.hid hn
  have Hm := Lib.hid (markS_len xs k0)
  have hn0 : n ≤ 4611686018427387904 := by omega
  clear hn
  subst hv
  go_enter Try.func43, Try.ntmps43
  go_wp2
  go_loopg [1, 5] n (fun g x i wr => ∃ (k : Nat), i = .int .i64 k ∧ x = .int .i64 (k0 + k) ∧ k + g = n ∧ OInts 3 wr (.slice a n c) ((markS xs k0).take k ++ xs.drop k) F ∧ Off F w wr)
  case atStart => exact ⟨0, rfl, by simp, by omega, by simpa using h, Off.refl _ _⟩
  case round =>
    obtain ⟨k, rfl, rfl, hk, hown, hoff⟩ := hrel
    clear h
    by_cases hlt : k < n
    · obtain ⟨x, hx, _⟩ := at_lt (xs := xs) (k := k) (by have := Hn.out; omega)
      obtain ⟨b, c', u, G, hv, _, hbF, _, hcl, hfr, ⟨rfl, rfl⟩, _, _, _, hst⟩ := hown.focus OIntR.kept hF (mark_at (markS xs k0) xs k n (by rw [Hm.out, Hn.out]) Hn.out hlt x hx)
      obtain rfl : a = some ⟨b, 0, none⟩ := by simp at hv; exact hv.1
      have hst1 : OInts 3 (wr.setCell ⟨b, k, none⟩ (.int .i64 (k0 + k))) (.slice (some ⟨b, 0, none⟩) n c) ((markS xs k0).take (k + 1) ++ xs.drop (k + 1)) F := by
        obtain ⟨F', hF', _, _, e⟩ := hst wr (.int .i64 (k0 + k)) (k0 + k) [] ⟨rfl, rfl⟩ (by simp) (fun _ _ _ => rfl)
        rw [mark_step (markS xs k0) xs k n (by rw [Hm.out, Hn.out]) Hn.out hlt _ (markS_at xs k0 k (by have := Hn.out; omega))] at hF'
        rw [e rfl] at hF'
        exact hF'
      have hoff1 := hoff.trans (Off.setCell (w := wr) (p := ⟨b, k, none⟩) hbF (.int .i64 (k0 + k)))
      clear hv hst hown hx hoff
      go_wp2
      go_roundg (n - (k + 1))
      case measure => omega
      case rel => exact ⟨k + 1, by go_num, by go_num, by omega, hst1, hoff1⟩
    · have e : k = n := by omega
      subst e
      rw [List.take_of_length_le (by rw [Hm.out, ← Hn.out]; omega), drop_len (by have := Hn.out; omega), List.append_nil] at hown
      go_wp2
      go_ret
      exact ⟨rfl, hown, hoff⟩

theorem markSS_at (m : List (List Int)) (k : Int) (i : Nat) (x : List Int) (h : m[i]? = some x) : (markSS m k)[i]? = some (markS x (k + cntSS (m.take i))) ∧ cntSS (m.take (i + 1)) = cntSS (m.take i) + x.length := by
  induction m generalizing k i with
  | nil => simp at h
  | cons r rs ih =>
    cases i with
    | zero => simp at h; subst h; simp [markSS, cntSS]
    | succ i =>
      have := ih (k + r.length) i (by simpa using h)
      simp only [markSS, List.getElem?_cons_succ, List.take_succ_cons, cntSS]
      refine ⟨?_, by rw [this.2]; omega⟩
      rw [this.1]; congr 2; omega
theorem cntSS_take (m : List (List Int)) (i : Nat) : 0 ≤ cntSS (m.take i) ∧ cntSS (m.take i) ≤ cntSS m := by
  induction m generalizing i with
  | nil => simp [cntSS]
  | cons r rs ih =>
    cases i with
    | zero => simp [cntSS]; have := cntSS_nn rs; omega
    | succ i => simp only [List.take_succ_cons, cntSS]; have := ih i; omega

set_option maxHeartbeats 400000 in
theorem markIntSS_c {w : World} {v : Value} {m : List (List Int)} {F : List Nat} {k0 : Int} (h : OTab 3 50 w v m F) (hF : F.Nodup) (h0 : 0 ≤ k0) (h1 : k0 + cntSS m ≤ 4611686018427387904) :
    Calls Try.prog 35 #[v, .int .i64 k0] w (Marks (OTab 3 50) F w v (markSS m k0) (k0 + cntSS m)) := by
  have hsh := h.reads.shape
  have hlen := h.reads.len
  obtain ⟨a, c, hv, _, _, _⟩ := hsh
  obtain ⟨n, hn⟩ : ∃ n, n = m.length := ⟨_, rfl⟩
  rw [← hn] at hv hlen
  have Hn := Lib.hid hn
  have Hm := Lib.hid (markSS_len m k0)
  have H1 := Lib.hid h1
  clear hn h1
  subst hv
  go_enter Try.func35, Try.ntmps35
  go_wp2
  go_loopg [1, 5] n (fun g x i wr => ∃ (k : Nat) (j : Int), i = .int .i64 k ∧ x = .int .i64 j ∧ Hid (j = k0 + cntSS (m.take k)) ∧ k + g = n ∧ OTab 3 50 wr (.slice a n c) ((markSS m k0).take k ++ m.drop k) F ∧ Off F w wr)
  case atStart => exact ⟨0, k0, rfl, rfl, Lib.hid (by simp [cntSS]), by omega, by simpa using h, Off.refl _ _⟩
  case round =>
    obtain ⟨k, j, rfl, rfl, Hj, hk, hown, hoff⟩ := hrel
    clear h
    by_cases hlt : k < n
    · obtain ⟨x, hx, _⟩ := at_lt (xs := m) (k := k) (by have := Hn.out; omega)
      have hat := markSS_at m k0 k x hx
      have ht := cntSS_take m k
      have ht1 := cntSS_take m (k + 1)
      obtain ⟨b, c', u, G, hv, _, hbF, _, hcl, hfr, hu, hGF, hGn, hst, _⟩ := hown.focus (OInts.kept _) hF (mark_at (markSS m k0) m k n (by rw [Hm.out, Hn.out]) Hn.out hlt x hx)
      obtain rfl : a = some ⟨b, 0, none⟩ := by simp at hv; exact hv.1
      have Hc := Lib.hid (markIntS_c (k0 := j) hu hGn (by have := Hj.out; omega) (by have := Hj.out; have := H1.out; rw [hat.2] at ht1; omega))
      have Hst := Lib.hid (show ∀ w1, OInts 3 w1 u (markS x j) G → Off G wr w1 → OTab 3 50 w1 (.slice (some ⟨b, 0, none⟩) n c) ((markSS m k0).take (k + 1) ++ m.drop (k + 1)) F by
        intro w1 h2 h3
        have := hst w1 (markS x j) h2 (fun q hq hqG => h3.block q ((OTab.kept _ _).lt _ _ _ _ hown q hq) hqG)
        rw [mark_step (markSS m k0) m k n (by rw [Hm.out, Hn.out]) Hn.out hlt _ (by rw [hat.1, ← Hj.out])] at this
        exact this)
      have HG := Lib.hid hGF
      have Hat := Lib.hid hat
      have hj : 0 ≤ j ∧ j + x.length ≤ 4611686018427387904 := by have := Hj.out; have := H1.out; rw [hat.2] at ht1; omega
      obtain ⟨hj1, hj2⟩ := hj
      clear hv hst hown hx hu hGF hGn hat ht ht1
      go_wp2_with (go_at_call 43; refine Hc.out.mono ?_; rintro e w1 ⟨rfl, hm1, hoff1⟩)
      go_roundg (n - (k + 1))
      case measure => omega
      case rel => exact ⟨k + 1, _, by go_num, rfl, Lib.hid (by rw [Hat.out.2, Hj.out]; omega), by omega, Hst.out _ hm1 hoff1, hoff.trans (hoff1.mono HG.out)⟩
    · have e : k = n := by omega
      subst e
      rw [List.take_of_length_le (by rw [Hm.out, ← Hn.out]; omega), drop_len (by have := Hn.out; omega), List.append_nil] at hown
      rw [List.take_of_length_le (by have := Hn.out; omega)] at Hj
      go_wp2
      go_ret
      exact ⟨by rw [← Hj.out]; rfl, hown, hoff⟩

/-! ### held -/

set_option maxHeartbeats 400000 in
theorem heldIntS_c {w : World} {v : Value} {xs : List Int} {k0 : Int} (h : Ints w v xs) (h0 : 0 ≤ k0) (h1 : k0 + xs.length ≤ 4611686018427387904) :
    Calls Try.prog 44 #[v, .int .i64 k0] w fun e w' => e = .returned (.int .i64 (heldS xs k0)) ∧ w = w' := by
  obtain ⟨a, c, rfl, _, _, hcell⟩ := h.shape
  clear h
  obtain ⟨n, hn⟩ : ∃ n, n = xs.length := ⟨_, rfl⟩
  rw [← hn] at h1 hcell ⊢
  have Hn := Lib.hid hn
  clear hn
  go_enter Try.func44, Try.ntmps44
  go_wp2
  go_loopg [1, 5] n (fun g x i wr => ∃ (k : Nat), i = .int .i64 k ∧ x = .int .i64 (k0 + k) ∧ k + g = n ∧ Hid (heldS xs k0 = heldS (xs.drop k) (k0 + k)) ∧ w = wr)
  case atStart => exact ⟨0, rfl, by simp, by omega, Lib.hid (by simp), rfl⟩
  case round =>
    obtain ⟨k, rfl, rfl, hk, H, rfl⟩ := hrel
    by_cases hlt : k < n
    · obtain ⟨b, o, rfl, hb, hx0⟩ := hcell (by omega)
      obtain ⟨x, hx, hd⟩ := at_lt (xs := xs) (k := k) (by have := Hn.out; omega)
      obtain ⟨u, hu, rfl⟩ := hx0 k x hx
      have H1 := Lib.hid (show heldS xs k0 = if x = k0 + k then heldS (xs.drop (k + 1)) (k0 + k + 1) else -1 from by rw [H.out, hd]; rfl)
      clear H hx hd hx0 hcell
      by_cases hxe : x = k0 + k
      · have H2 := Lib.hid (show heldS xs k0 = heldS (xs.drop (k + 1)) (k0 + k + 1) from by rw [H1.out, if_pos hxe])
        have hb1 : (x != k0 + k) = false := by simp [hxe]
        clear H1 hxe
        go_wp2
        go_roundg (n - (k + 1))
        case measure => omega
        case rel => exact ⟨k + 1, by go_num, by go_num, by omega, Lib.hid (by rw [H2.out]; congr 1; omega), rfl⟩
      · have H2 := Lib.hid (show heldS xs k0 = -1 from by rw [H1.out, if_neg hxe])
        have hb1 : (x != k0 + k) = true := by simp [hxe]
        clear H1 hxe
        go_wp2
        go_ret
        exact ⟨by rw [H2.out]; rfl, rfl⟩
    · have H1 := Lib.hid (show heldS xs k0 = k0 + k from by rw [H.out, drop_len (by have := Hn.out; omega)]; rfl)
      clear H
      go_wp2
      go_ret
      exact ⟨by rw [H1.out]; rfl, rfl⟩

theorem heldSS_bd (m : List (List Int)) (k : Int) (h : 0 ≤ k) : -1 ≤ heldSS m k ∧ heldSS m k ≤ k + cntSS m := by
  induction m generalizing k with
  | nil => simp [heldSS, cntSS]; omega
  | cons r rs ih =>
    unfold heldSS
    have hb := heldS_bd r k h
    have hn := cntSS_nn rs
    split
    · simp only [cntSS]; omega
    · have := ih (heldS r k) (by omega); simp only [cntSS]; omega

set_option maxHeartbeats 400000 in
theorem heldIntSS_c {w : World} {v : Value} {m : List (List Int)} {k0 : Int} (h : Tab w v m) (h0 : 0 ≤ k0) (h1 : k0 + cntSS m ≤ 4611686018427387904) :
    Calls Try.prog 101 #[v, .int .i64 k0] w fun e w' => e = .returned (.int .i64 (heldSS m k0)) ∧ w = w' := by
  have hlen := h.len
  obtain ⟨a, c, rfl, _, _, hcell⟩ := h.shape
  clear h
  obtain ⟨n, hn⟩ : ∃ n, n = m.length := ⟨_, rfl⟩
  rw [← hn] at hcell hlen ⊢
  have Hn := Lib.hid hn
  have H1 := Lib.hid h1
  clear hn h1
  go_enter Try.func101, Try.ntmps101
  go_wp2
  go_loopg [1, 5] n (fun g x i wr => ∃ (k : Nat) (j : Int), i = .int .i64 k ∧ x = .int .i64 j ∧ 0 ≤ j ∧ Hid (j ≤ k0 + cntSS (m.take k)) ∧ k + g = n ∧ Hid (heldSS m k0 = heldSS (m.drop k) j) ∧ w = wr)
  case atStart => exact ⟨0, k0, rfl, rfl, by omega, Lib.hid (by simp [cntSS]), by omega, Lib.hid (by simp), rfl⟩
  case round =>
    obtain ⟨k, j, rfl, rfl, hj0, Hj, hk, H, rfl⟩ := hrel
    by_cases hlt : k < n
    · obtain ⟨b, o, rfl, hb, hx0⟩ := hcell (by omega)
      obtain ⟨x, hx, hd⟩ := at_lt (xs := m) (k := k) (by have := Hn.out; omega)
      obtain ⟨u, hu, hr⟩ := hx0 k x hx
      have hat := (markSS_at m k0 k x hx).2
      have ht1 := cntSS_take m (k + 1)
      have H2 := Lib.hid (show heldSS m k0 = if heldS x j < 0 then -1 else heldSS (m.drop (k + 1)) (heldS x j) from by rw [H.out, hd]; rfl)
      have Hc := Lib.hid (heldIntS_c hr hj0 (by have := Hj.out; have := H1.out; omega))
      have hbd := heldS_bd x j hj0
      have Hb := Lib.hid (show heldS x j ≤ k0 + cntSS (m.take (k + 1)) from by have := Hj.out; omega)
      clear H hx hd hx0 hcell hr hat ht1
      generalize heldS x j = y at H2 Hc hbd Hb
      by_cases hy : y < 0
      · have H3 := Lib.hid (show heldSS m k0 = -1 from by rw [H2.out, if_pos hy])
        clear H2
        go_wp2_with (go_at_call 44; refine Hc.out.mono ?_; rintro e w' ⟨rfl, rfl⟩)
        go_ret
        exact ⟨by rw [H3.out]; rfl, rfl⟩
      · have H3 := Lib.hid (show heldSS m k0 = heldSS (m.drop (k + 1)) y from by rw [H2.out, if_neg hy])
        clear H2
        go_wp2_with (go_at_call 44; refine Hc.out.mono ?_; rintro e w' ⟨rfl, rfl⟩)
        go_roundg (n - (k + 1))
        case measure => omega
        case rel => exact ⟨k + 1, y, by go_num, rfl, by omega, Hb, by omega, H3, rfl⟩
    · have H2 := Lib.hid (show heldSS m k0 = j from by rw [H.out, drop_len (by have := Hn.out; omega)]; rfl)
      clear H
      go_wp2
      go_ret
      exact ⟨by rw [H2.out]; rfl, rfl⟩
end Go.Proofs.Ytdohepngandajaa
end

section
/-
  What the laws' own walks keep: what lies where, by intervals of blocks; the helpers' contracts said by them.
-/
namespace Go.Sd
open Go.RowKit Go.Deep

/-- What a footprint is good for. -/
structure Held {α : Type} (R : OwnRel α) : Prop where
  keep : ∀ w w' v x F, R w v x F → (∀ b, b ∈ F → w'.heap[b]? = w.heap[b]?) → R w' v x F
  lt : ∀ w v x F, R w v x F → ∀ b, b ∈ F → b < w.heap.size
theorem Kept.held {α : Type} {R : OwnRel α} (h : Kept R) : Held R := ⟨h.keep, h.lt⟩

/-- Own memory in the blocks from lo up to hi. -/
def NewIn {α : Type} (R : OwnRel α) (lo hi : Nat) (w : World) (v : Value) (x : α) : Prop := ∃ F, R w v x F ∧ F.Nodup ∧ ∀ b, b ∈ F → lo ≤ b ∧ b < hi

theorem New.inn {α : Type} {R : OwnRel α} (hR : Held R) {lo : Nat} {w : World} {v : Value} {x : α} (h : New R lo w v x) : NewIn R lo w.heap.size w v x := by
  obtain ⟨F, hF, hn, hge⟩ := h
  exact ⟨F, hF, hn, fun b hb => ⟨hge b hb, hR.lt _ _ _ _ hF b hb⟩⟩

theorem NewIn.new {α : Type} {R : OwnRel α} {lo hi : Nat} {w : World} {v : Value} {x : α} (h : NewIn R lo hi w v x) : New R lo w v x := by
  obtain ⟨F, hF, hn, hge⟩ := h
  exact ⟨F, hF, hn, fun b hb => (hge b hb).1⟩

theorem NewIn.keep {α : Type} {R : OwnRel α} (hR : Held R) {lo hi B : Nat} {w w' : World} {v : Value} {x : α} (h : NewIn R lo hi w v x) (hb : Below B w w') (hB : hi ≤ B) : NewIn R lo hi w' v x := by
  obtain ⟨F, hF, hn, hge⟩ := h
  exact ⟨F, hR.keep _ _ _ _ _ hF fun b hb' => hb.block b (by have := hge b hb'; omega), hn, hge⟩

/-- Only blocks from lo up to hi may hold something else. -/
structure OffIn (lo hi : Nat) (w w' : World) : Prop where
  os : w'.os = w.os
  tape : w'.tape = w.tape
  output : w'.output = w.output
  size : w.heap.size ≤ w'.heap.size
  block : ∀ b, b < w.heap.size → ¬ (lo ≤ b ∧ b < hi) → w'.heap[b]? = w.heap[b]?

theorem OffIn.below {lo hi B : Nat} {w w' : World} (h : OffIn lo hi w w') (hB : B ≤ lo) (hs : B ≤ w.heap.size) : Below B w w' :=
  ⟨h.os, h.tape, h.output, h.size, fun k hk => h.block k (by omega) (by omega)⟩

theorem NewIn.off {α : Type} {R : OwnRel α} (hR : Held R) {lo hi lo' hi' : Nat} {w w' : World} {v : Value} {x : α} (h : NewIn R lo hi w v x) (ho : OffIn lo' hi' w w') (hd : hi ≤ lo' ∨ hi' ≤ lo) : NewIn R lo hi w' v x := by
  obtain ⟨F, hF, hn, hge⟩ := h
  exact ⟨F, hR.keep _ _ _ _ _ hF fun b hb' => ho.block b (hR.lt _ _ _ _ hF b hb') (by have := hge b hb'; omega), hn, hge⟩

theorem Off.inn {F : List Nat} {lo hi : Nat} {w w' : World} (h : Off F w w') (hF : ∀ b, b ∈ F → lo ≤ b ∧ b < hi) : OffIn lo hi w w' :=
  ⟨h.os, h.tape, h.output, h.size, fun b hb hn => h.block b hb fun hm => hn (hF b hm)⟩

/-- What a call that writes numbers into its argument leaves, by intervals. -/
def MarksIn {α : Type} (R : OwnRel α) (lo hi : Nat) (w : World) (v : Value) (y : α) (n : Int) (e : Ending) (w' : World) : Prop := e = .returned (.int .i64 n) ∧ NewIn R lo hi w' v y ∧ OffIn lo hi w w'

theorem Marks.inn {α : Type} {R : OwnRel α} {lo hi : Nat} {w : World} {v : Value} {y : α} {n : Int} {F : List Nat} {e : Ending} {w' : World} (h : Marks R F w v y n e w') (hn : F.Nodup) (hF : ∀ b, b ∈ F → lo ≤ b ∧ b < hi) : MarksIn R lo hi w v y n e w' :=
  ⟨h.1, ⟨F, h.2.1, hn, hF⟩, h.2.2.inn hF⟩

end Go.Sd
namespace Go.Proofs.Ytdohepngandajaa
open Go.RowKit Go.Deep Go.Sd

theorem cntSS_le (m : List (List Int)) (l : Int) (_hl : 0 ≤ l) (h : 0 ≤ szSS m l) : cntSS m + szSS m l + m.length = l := by
  have key : ∀ (m : List (List Int)) (l : Int), 0 ≤ l → 0 ≤ szLoop m l → cntSS m + szLoop m l = l := by
    intro m
    induction m with
    | nil => intro l h0 h; simp [cntSS, szLoop]
    | cons r rs ih =>
      intro l h0 h
      unfold szLoop at h ⊢
      by_cases h1 : szS l r.length < 0
      · rw [if_pos h1] at h; omega
      · rw [if_neg h1] at h ⊢
        have := ih _ (by omega) h
        have e : szS l r.length = l - r.length := by unfold szS at h1 ⊢; split <;> simp_all
        simp only [cntSS]
        omega
  unfold szSS at h ⊢
  by_cases h1 : l - m.length < 0
  · rw [if_pos h1] at h; omega
  · rw [if_neg h1] at h ⊢
    have := key m (l - m.length) (by omega) h
    omega

theorem len_le_cntSS {m : List (List Int)} {r : List Int} (h : r ∈ m) : (r.length : Int) ≤ cntSS m := by
  induction m with
  | nil => simp at h
  | cons x xs ih =>
    unfold cntSS
    have := cntSS_nn xs
    rcases List.mem_cons.1 h with rfl | h
    · omega
    · have := ih h; omega

theorem cntSS_bd {m : List (List Int)} {p r : Nat} (hp : m.length ≤ p) (hr : ∀ x, x ∈ m → x.length ≤ r) : cntSS m ≤ (p : Int) * (r : Int) := by
  have key : ∀ m : List (List Int), (∀ x, x ∈ m → x.length ≤ r) → cntSS m ≤ (m.length : Int) * (r : Int) := by
    intro m
    induction m with
    | nil => intro _; simp [cntSS]
    | cons x xs ih =>
      intro h
      have h1 := h x (by simp)
      have h2 := ih fun y hy => h y (by simp [hy])
      simp only [cntSS, List.length_cons, Int.natCast_add, Int.add_mul, Int.natCast_one, Int.one_mul]
      omega
  have h1 := key m hr
  have h2 : (m.length : Int) * (r : Int) ≤ (p : Int) * (r : Int) := Int.mul_le_mul_of_nonneg_right (by omega) (by omega)
  omega

theorem eqIntS_same {w : World} {v1 v2 : Value} {xs : List Int} (h1 : Ints w v1 xs) (h2 : Ints w v2 xs) : Calls Try.prog 42 #[v1, v2] w (Reads w (.bool true)) := by
  have := eqIntS_c h1 h2
  simpa using this
theorem eqIntSS_same {w : World} {v1 v2 : Value} {xs : List (List Int)} (h1 : Tab w v1 xs) (h2 : Tab w v2 xs) : Calls Try.prog 34 #[v1, v2] w (Reads w (.bool true)) := by
  have := eqIntSS_c h1 h2
  simpa using this
theorem markIntS_in {lo hi : Nat} {w : World} {v : Value} {xs : List Int} {k0 : Int} (h : NewIn (OInts 3) lo hi w v xs) (h0 : 0 ≤ k0) (h1 : k0 + xs.length ≤ 4611686018427387904) :
    Calls Try.prog 43 #[v, .int .i64 k0] w (MarksIn (OInts 3) lo hi w v (markS xs k0) (k0 + xs.length)) := by
  obtain ⟨F, hF, hn, hge⟩ := h
  exact (markIntS_c hF hn h0 h1).mono fun e w' hm => hm.inn hn hge
theorem markIntSS_in {lo hi : Nat} {w : World} {v : Value} {m : List (List Int)} {k0 : Int} (h : NewIn (OTab 3 50) lo hi w v m) (h0 : 0 ≤ k0) (h1 : k0 + cntSS m ≤ 4611686018427387904) :
    Calls Try.prog 35 #[v, .int .i64 k0] w (MarksIn (OTab 3 50) lo hi w v (markSS m k0) (k0 + cntSS m)) := by
  obtain ⟨F, hF, hn, hge⟩ := h
  exact (markIntSS_c hF hn h0 h1).mono fun e w' hm => hm.inn hn hge
theorem cntSS_mark (m : List (List Int)) (k : Int) : cntSS (markSS m k) = cntSS m := by
  induction m generalizing k with
  | nil => rfl
  | cons r rs ih => simp [markSS, cntSS, markS_len, ih]
theorem heldIntS_same {w : World} {v : Value} {xs : List Int} {k0 : Int} (h : Ints w v (markS xs k0)) (h0 : 0 ≤ k0) (h1 : k0 + xs.length ≤ 4611686018427387904) :
    Calls Try.prog 44 #[v, .int .i64 k0] w fun e w' => e = .returned (.int .i64 (k0 + xs.length)) ∧ w = w' := by
  have := heldIntS_c h h0 (by rw [markS_len]; exact h1)
  rw [heldS_mark] at this
  exact this
theorem heldIntSS_same {w : World} {v : Value} {m : List (List Int)} {k0 : Int} (h : Tab w v (markSS m k0)) (h0 : 0 ≤ k0) (h1 : k0 + cntSS m ≤ 4611686018427387904) :
    Calls Try.prog 101 #[v, .int .i64 k0] w fun e w' => e = .returned (.int .i64 (k0 + cntSS m)) ∧ w = w' := by
  have := heldIntSS_c h h0 (by rw [cntSS_mark]; exact h1)
  rw [heldSS_mark _ _ h0] at this
  exact this
end Go.Proofs.Ytdohepngandajaa
end

section
/-
  How the laws' arguments are opened: what was read as data reads by this proof's own predicates.
-/
namespace Go.Sd
open Go.ChangeShapes Go.WideShapes Go.ChangeAt Go.RowKit Go.Deep

def I64 (x : Int) : Prop := -9223372036854775808 ≤ x ∧ x ≤ 9223372036854775807
theorem I64.of_wf {x : Int} (h : (Lit.int .i64 x).wf = true) : I64 x := bounds_i64 h

section
variable {H : Type} {enc : TypeId × Value → H} {P : Program} {W : World} {base : Nat}

theorem Sl.mk' {w : World} {a : Option Addr} {len cap : Nat} {us : List Value} (hu : us.length = len) (hl : len ≤ cap) (hm : cap ≤ 9223372036854775807) (hc : ∀ a', a = some a' → ∀ (i : Nat) (u : Value), us[i]? = some u → w.cell? (a'.add i) = some u) (hn0 : a = none → cap = 0) : Sl w (.slice a len cap) us := by
  subst hu
  refine ⟨by omega, a, cap, rfl, hl, hm, hn0, ?_⟩
  by_cases h0 : us.length = 0
  · exact Or.inl (List.eq_nil_of_length_eq_zero h0)
  · right
    cases a with
    | none => have := hn0 rfl; omega
    | some a' =>
      obtain ⟨b, o, sp⟩ := a'
      have h1 := hc _ rfl 0 us[0] (List.getElem?_eq_getElem (by omega))
      have hs : sp = none := by simpa [Addr.add] using World.cell?_spot h1
      subst hs
      refine ⟨b, o, rfl, World.block_lt_of_cell? w ⟨b, o, none⟩ (by simpa [Addr.add] using h1), fun i u hi => ?_⟩
      have := hc _ rfl i u hi
      cases i <;> simpa [Addr.add] using this

theorem open_Ints_cells {t q : TypeId} (ht : P.underlying t = some (.slice q)) (hq : P.underlying q = some (.int .i64)) (cq : P.cellsOf q = 1) {a : Option Addr} {len cap fuel : Nat} {x : DataW H × List MemPlace}
    (h : DataW.trod enc P W base (fun _ => true) true fuel t [.slice a len cap] = some x) : ∃ xs, Ints W (.slice a len cap) xs ∧ ∀ x, x ∈ xs → I64 x := by
  rcases open_ints ht hq cq h with ⟨hcs, _⟩ | ⟨a', l, c, zs, hcs, _, hl, hm, hz, _, hcell, hwz⟩
  · simp at hcs
    obtain ⟨rfl, rfl, rfl⟩ := hcs
    exact ⟨[], ⟨[], Sl.mk' rfl (by simp) (by simp) (by simp) (by simp), rfl, by simp⟩, by simp⟩
  · simp at hcs
    obtain ⟨rfl, rfl, rfl⟩ := hcs
    simp only [if_true] at hz
    have hm' : cap ≤ 9223372036854775807 := hm
    refine ⟨zs.take len, ⟨(zs.take len).map (Value.int .i64), Sl.mk' (by simp; omega) hl hm' ?_ (by simp), by simp, ?_⟩, fun y hy => I64.of_wf (hwz y (List.mem_of_mem_take hy))⟩
    · intro a'' ha i u hu
      cases ha
      rw [List.getElem?_map, Option.map_eq_some_iff] at hu
      obtain ⟨z, hz1, rfl⟩ := hu
      have hi : i < (zs.take len).length := (List.getElem?_eq_some_iff.1 hz1).1
      rw [List.length_take] at hi
      rw [List.getElem?_take, if_pos (by omega)] at hz1
      have := hcell i (by omega)
      rw [List.getD, hz1] at this
      simpa using this
    · intro i u z hu hz1
      rw [List.getElem?_map, hz1] at hu
      simp at hu
      exact hu.symm

theorem open_Ints {t q : TypeId} (ht : P.underlying t = some (.slice q)) (hq : P.underlying q = some (.int .i64)) (cq : P.cellsOf q = 1) {v : Value} {d : DataW H} {p : List MemPlace}
    (hv : Value.okWide P W .any base t v) (h : DataW.Trod enc P W 0 (fun _ => true) true t v d p) : ∃ xs, Ints W v xs ∧ ∀ x, x ∈ xs → I64 x := by
  obtain ⟨a, len, cap, rfl⟩ := okWide_slice ht hv
  obtain ⟨fuel, hf⟩ := h
  exact open_Ints_cells ht hq cq (by simpa [Value.cells] using hf)

/-- A slice whose elements each read: the elements' readings gathered. -/
theorem gather {α : Type} {R : World → Value → α → Prop} {w : World} {us : List Value} (h : ∀ u, u ∈ us → ∃ x, R w u x) : ∃ xs : List α, us.length = xs.length ∧ ∀ (i : Nat) (u : Value) (x : α), us[i]? = some u → xs[i]? = some x → R w u x := by
  induction us with
  | nil => exact ⟨[], rfl, by simp⟩
  | cons u us ih =>
    obtain ⟨x, hx⟩ := h u (by simp)
    obtain ⟨xs, hl, hr⟩ := ih fun u' hu' => h u' (by simp [hu'])
    refine ⟨x :: xs, by simp [hl], fun i u' x' hu' hx' => ?_⟩
    cases i with
    | zero => simp at hu' hx'; subst hu' hx'; exact hx
    | succ i => exact hr i u' x' (by simpa using hu') (by simpa using hx')

theorem open_Tab_cells {t e q : TypeId} (ht : P.underlying t = some (.slice e)) (he : P.underlying e = some (.slice q)) (hq : P.underlying q = some (.int .i64)) (ce : P.cellsOf e = 1) (cq : P.cellsOf q = 1) {a : Option Addr} {len cap fuel : Nat} {x : DataW H × List MemPlace}
    (h : DataW.trod enc P W base (fun _ => true) true fuel t [.slice a len cap] = some x) : ∃ m, Tab W (.slice a len cap) m ∧ ∀ r, r ∈ m → ∀ x, x ∈ r → I64 x := by
  rcases open_slice1 ht ce h with ⟨hcs, _⟩ | ⟨a', l, c, mm, n, V, D, Pl, hcs, hb, hl, hm, hmm, _, hx⟩
  · simp at hcs
    obtain ⟨rfl, rfl, rfl⟩ := hcs
    exact ⟨[], ⟨[], Sl.mk' rfl (by simp) (by simp) (by simp) (by simp), rfl, by simp⟩, by simp⟩
  · simp at hcs
    obtain ⟨rfl, rfl, rfl⟩ := hcs
    simp only [if_true] at hmm
    have hmm2 := hmm.symm
    subst hmm2
    have hm' : cap ≤ 9223372036854775807 := hm
    have each : ∀ u, u ∈ (List.range len).map V → ∃ r : List Int, Ints W u r ∧ ∀ x, x ∈ r → I64 x := by
      intro u hu
      obtain ⟨i, hi, rfl⟩ := List.mem_map.1 hu
      have hi' := List.mem_range.1 hi
      have h2 := (hx i (by omega)).2
      rcases open_ints he hq cq h2 with ⟨hcs, _⟩ | ⟨a2, l2, c2, zs, hcs, _⟩
      · simp at hcs
        rw [hcs] at h2 ⊢
        exact open_Ints_cells he hq cq h2
      · simp at hcs
        rw [hcs] at h2 ⊢
        exact open_Ints_cells he hq cq h2
    obtain ⟨m, hml, hmr⟩ := gather (R := fun w u r => Ints w u r ∧ ∀ x, x ∈ r → I64 x) (w := W) each
    refine ⟨m, ⟨(List.range len).map V, Sl.mk' (by simp) hl hm' ?_ (by simp), hml, fun i u r hu hr => (hmr i u r hu hr).1⟩, fun r hr => ?_⟩
    · intro a'' ha i u hu
      cases ha
      rw [List.getElem?_map, Option.map_eq_some_iff] at hu
      obtain ⟨j, hj, rfl⟩ := hu
      have hj2 := List.getElem?_eq_some_iff.1 hj
      obtain ⟨hj3, hj4⟩ := hj2
      simp at hj3 hj4
      subst hj4
      exact (hx i (by omega)).1
    · obtain ⟨i, hi⟩ := List.getElem?_of_mem hr
      have hi2 : i < m.length := (List.getElem?_eq_some_iff.1 hi).1
      exact (hmr i _ r (List.getElem?_eq_getElem (by omega)) hi).2

theorem open_Tab {t e q : TypeId} (ht : P.underlying t = some (.slice e)) (he : P.underlying e = some (.slice q)) (hq : P.underlying q = some (.int .i64)) (ce : P.cellsOf e = 1) (cq : P.cellsOf q = 1) {v : Value} {d : DataW H} {p : List MemPlace}
    (hv : Value.okWide P W .any base t v) (h : DataW.Trod enc P W 0 (fun _ => true) true t v d p) : ∃ m, Tab W v m ∧ ∀ r, r ∈ m → ∀ x, x ∈ r → I64 x := by
  obtain ⟨a, len, cap, rfl⟩ := okWide_slice ht hv
  obtain ⟨fuel, hf⟩ := h
  exact open_Tab_cells ht he hq ce cq (by simpa [Value.cells] using hf)
end
end Go.Sd
end

section
/-
  Labelled graphs by value: two numbers and a slice of structs of three numbers: how they read; how the laws' arguments are opened.
-/
namespace Go.Sd
open Go.RowKit Go.Deep Go.Joins Go.ChangeShapes Go.WideShapes Go.ChangeAt

abbrev Arc3 := Int × Int × Int
abbrev Lb := Int × Int × List Arc3
/-- v is a slice of structs of three numbers. -/
def ArcsR (w : World) (v : Value) (xs : List Arc3) : Prop :=
  xs.length ≤ 9223372036854775807 ∧ ∃ a c, v = .slice a xs.length c ∧ xs.length ≤ c ∧ c ≤ 9223372036854775807 ∧ (a = none → c = 0) ∧
    (0 < xs.length → ∃ b o, a = some ⟨b, o, none⟩ ∧ b < w.heap.size ∧ ∀ i x, xs[i]? = some x → w.cell? ⟨b, o + i * 3, none⟩ = some (.int .i64 x.1) ∧ w.cell? ⟨b, o + i * 3 + 1, none⟩ = some (.int .i64 x.2.1) ∧ w.cell? ⟨b, o + i * 3 + 2, none⟩ = some (.int .i64 x.2.2))
theorem ArcsR.frame : Framed ArcsR := by
  intro w w' v xs h hb
  obtain ⟨h1, a, c, rfl, h2, h3, h4, h5⟩ := h
  refine ⟨h1, a, c, rfl, h2, h3, h4, fun h0 => ?_⟩
  obtain ⟨b, o, rfl, hlt, hx⟩ := h5 h0
  refine ⟨b, o, rfl, Nat.lt_of_lt_of_le hlt hb.size, fun i x hi => ?_⟩
  obtain ⟨c0, c1, c2⟩ := hx i x hi
  exact ⟨(hb.cell (p := ⟨b, o + i * 3, none⟩) hlt).trans c0, (hb.cell (p := ⟨b, o + i * 3 + 1, none⟩) hlt).trans c1, (hb.cell (p := ⟨b, o + i * 3 + 2, none⟩) hlt).trans c2⟩
theorem ArcsR.store_off {w : World} {B n c : Nat} {xs : List Arc3} (h : ArcsR w (.slice (some ⟨B, 0, none⟩) n c) xs) {p : Addr} (hp : p.block ≠ B) (u : Value) : ArcsR (w.setCell p u) (.slice (some ⟨B, 0, none⟩) n c) xs := by
  obtain ⟨h1, a, c', hv, h2, h3, h4, h5⟩ := h
  refine ⟨h1, a, c', hv, h2, h3, h4, fun h0 => ?_⟩
  obtain ⟨b, o, rfl, hlt, hx⟩ := h5 h0
  have hb : b = B := by simp at hv; exact hv.1.1.symm
  refine ⟨b, o, rfl, by rw [World.size_setCell]; exact hlt, fun i x hi => ?_⟩
  obtain ⟨c0, c1, c2⟩ := hx i x hi
  have hne : ∀ j : Nat, p ≠ ⟨b, j, none⟩ := fun j e => hp (by rw [e]; exact hb)
  exact ⟨(World.cell?_setCell_other _ _ _ _ (hne _)).trans c0, (World.cell?_setCell_other _ _ _ _ (hne _)).trans c1, (World.cell?_setCell_other _ _ _ _ (hne _)).trans c2⟩
def LabR (w : World) (v : Value) (l : Lb) : Prop := ∃ va, v = .agg #[.int .i64 l.1, .int .i64 l.2.1, va] ∧ ArcsR w va l.2.2
theorem LabR.frame : Framed LabR := fun _ _ _ _ ⟨va, e, h⟩ hb => ⟨va, e, ArcsR.frame _ _ _ _ h hb⟩

/-- n numbers in a block, as a function gives them. -/
def CellsI (w : World) (B m : Nat) (f : Nat → Int) : Prop := ∀ j, j < m → w.cell? ⟨B, j, none⟩ = some (.int .i64 (f j)) ∧ w.frozen? ⟨B, j, none⟩ = false
theorem CellsI.set {w : World} {B m : Nat} {f : Nat → Int} (h : CellsI w B m f) {j : Nat} (hj : j < m) (y : Int) : CellsI (w.setCell ⟨B, j, none⟩ (.int .i64 y)) B m (fun i => if i = j then y else f i) := by
  intro i hi
  refine ⟨?_, (World.frozen?_setCell _ _ _ _).trans (h i hi).2⟩
  by_cases e : i = j
  · subst e
    show _ = some (Value.int .i64 (if i = i then y else f i))
    rw [if_pos rfl]
    exact World.cell?_setCell_same _ _ _ (h i hi).1
  · show _ = some (Value.int .i64 (if i = j then y else f i))
    rw [if_neg e]
    exact (World.cell?_setCell_other _ _ _ _ (by simp <;> omega)).trans (h i hi).1
theorem CellsI.congr {w : World} {B m : Nat} {f g : Nat → Int} (h : CellsI w B m f) (e : ∀ j, j < m → f j = g j) : CellsI w B m g := fun j hj => by rw [← e j hj]; exact h j hj
theorem CellsI.keep {w w' : World} {B m : Nat} {f : Nat → Int} (h : CellsI w B m f) {lo : Nat} (hb : Below lo w w') (hlt : B < lo) : CellsI w' B m f := fun j hj =>
  ⟨(hb.cell (p := ⟨B, j, none⟩) hlt).trans (h j hj).1, (hb.frozen (p := ⟨B, j, none⟩) hlt).trans (h j hj).2⟩

def comp (j : Nat) (x : Arc3) : Int := if j = 0 then x.1 else if j = 1 then x.2.1 else x.2.2
/-- The first k arcs laid out, zeros behind them. -/
def arcF (xs : List Arc3) (k j : Nat) : Int := if j / 3 < k then comp (j % 3) (xs.getD (j / 3) (0, 0, 0)) else 0
theorem arcF_next {xs : List Arc3} {k : Nat} {x : Arc3} (hx : xs[k]? = some x) (j : Nat) :
    (if j = k * 3 + 2 then x.2.2 else if j = k * 3 + 1 then x.2.1 else if j = k * 3 then x.1 else arcF xs k j) = arcF xs (k + 1) j := by
  have hg : xs.getD k (0, 0, 0) = x := by simp [List.getD, hx]
  unfold arcF
  by_cases e2 : j = k * 3 + 2
  · rw [if_pos e2, if_pos (by omega), show j / 3 = k by omega, hg, show j % 3 = 2 by omega]; rfl
  rw [if_neg e2]
  by_cases e1 : j = k * 3 + 1
  · rw [if_pos e1, if_pos (by omega), show j / 3 = k by omega, hg, show j % 3 = 1 by omega]; rfl
  rw [if_neg e1]
  by_cases e0 : j = k * 3
  · rw [if_pos e0, if_pos (by omega), show j / 3 = k by omega, hg, show j % 3 = 0 by omega]; rfl
  rw [if_neg e0]
  by_cases h : j / 3 < k
  · rw [if_pos h, if_pos (by omega)]
  · rw [if_neg h, if_neg (by omega)]
theorem ArcsR.of_cells {w : World} {B : Nat} {xs : List Arc3} (hB : B < w.heap.size) (hl : xs.length ≤ 9223372036854775807) (h : CellsI w B (xs.length * 3) (arcF xs xs.length)) : ArcsR w (.slice (some ⟨B, 0, none⟩) xs.length xs.length) xs := by
  refine ⟨hl, _, _, rfl, Nat.le_refl _, hl, by simp, fun _ => ⟨B, 0, rfl, hB, fun i x hi => ?_⟩⟩
  have hi2 := (List.getElem?_eq_some_iff.1 hi).1
  have hg : xs.getD i (0, 0, 0) = x := by simp [List.getD, hi]
  have key : ∀ c, c < 3 → arcF xs xs.length (i * 3 + c) = comp c x := fun c hc => by
    unfold arcF
    rw [if_pos (by omega), show (i * 3 + c) / 3 = i by omega, hg, show (i * 3 + c) % 3 = c by omega]
  have k0 := (h (i * 3 + 0) (by omega)).1
  have k1 := (h (i * 3 + 1) (by omega)).1
  have k2 := (h (i * 3 + 2) (by omega)).1
  rw [key _ (by omega)] at k0 k1 k2
  rw [Nat.zero_add]
  exact ⟨k0, k1, k2⟩

/-- 'make([]T, n)', T a struct of three numbers; the world is hidden. -/
theorem wpl_make3 {P : Program} {w : World} {ops : Array Oper} {rest : List Oper} {o : Oper} {a : Act} {Q : Exit → Act → World → Prop}
    (hg : o.guard = none) (l c : Operand) (t : TypeId) (hop : o.op = Op.makeSlice t l c)
    (e : TypeId) (bytes : Nat) (ht : P.underlying t = some (.slice e)) (hinfo : (P.info? e).map (fun i => (i.zero, i.size, i.bytes)) = some (some (.agg #[.int .i64 0, .int .i64 0, .int .i64 0]), 3, bytes))
    (n : Nat) (hl : a.eval l = .int .i64 (n : Int)) (hc : a.eval c = .int .i64 (n : Int)) (hbytes : bytes * n ≤ 281474976710656) (h63 : n ≤ 9223372036854775807)
    (hK : ∀ w', w.heap.size < w'.heap.size → CellsI w' w.heap.size (n * 3) (fun _ => 0) → Below w.heap.size w w' → wpList P ops Q rest (a.put o.dst (.slice (some ⟨w.heap.size, 0, none⟩) n n)) w') :
    wpList P ops Q (o :: rest) a w := by
  obtain ⟨i, hi, hzz⟩ := Option.map_eq_some_iff.1 hinfo
  simp only [Prod.mk.injEq] at hzz
  obtain ⟨hz, hs, hb⟩ := hzz
  refine wpList_make_full w hg l c t hop 0 e i _ 3 ht hi hz hs .i64 .i64 _ _ n hl hc rfl rfl (by rw [hb]; exact hbytes) h63 (Nat.zero_le _) fun w' ho hgr => ?_
  rcases ho.2 with ⟨h, _⟩ | ⟨g, cap, cur, hv, _, hgp, hnc, _, hsz, hcur⟩
  · simp at h
  · simp at hv
    obtain ⟨rfl, rfl⟩ := hv
    have hlt : w.heap.size < w'.heap.size := by
      have := (Array.getElem?_eq_some_iff.1 hgp).1
      exact this
    refine hK w' hlt (fun j hj => ?_) ((Below.refl w.heap.size w).grown hgr (Nat.le_refl _) (by simp))
    have hj2 : cur[j]? = some (.int .i64 0) := by
      have h1 : (cur.toList.take (n * 3))[j]? = some (.int .i64 0) := by
        rw [hcur]
        simp [madeCells, Value.cells, hj]
        have h3 : j % 3 = 0 ∨ j % 3 = 1 ∨ j % 3 = 2 := by omega
        rcases h3 with h | h | h <;> rw [h] <;> rfl
      rw [List.getElem?_take, if_pos hj] at h1
      simpa using h1
    constructor
    · simp [World.cell?, hgp, hj2]
    · simp [World.frozen?, hgp]

section
variable {H : Type} {enc : TypeId × Value → H} {P : Program} {W : World} {base : Nat}
theorem open_Arcs_cells {t e q : TypeId} {f0 f1 f2 : Field} (ht : P.underlying t = some (.slice e)) (he : P.underlying e = some (.struct #[f0, f1, f2])) (hq : P.underlying q = some (.int .i64)) (e0 : f0.type = q) (e1 : f1.type = q) (e2 : f2.type = q)
    (o0 : f0.offset = 0) (o1 : f1.offset = 1) (o2 : f2.offset = 2) (ce : P.cellsOf e = 3) (cq : P.cellsOf q = 1) {v : Value} {fuel : Nat} {x : DataW H × List MemPlace}
    (h : DataW.trod enc P W base (fun _ => true) true fuel t [v] = some x) : ∃ xs, ArcsR W v xs := by
  rcases open_slice ht h with ⟨hcs, _⟩ | ⟨a, len, cap, m, n, D, Pl, hcs, hb, hl, hm, hmm, _, hx⟩
  · simp at hcs
    subst hcs
    exact ⟨[], by simp, none, 0, rfl, by simp, by simp, by simp, by simp⟩
  · simp at hcs
    subst hcs
    simp only [if_true] at hmm
    obtain rfl : m = cap := hmm
    have each : ∀ i, i < m → ∃ y : Arc3, W.cell? (a.add (i * 3)) = some (.int .i64 y.1) ∧ W.cell? (a.add (i * 3 + 1)) = some (.int .i64 y.2.1) ∧ W.cell? (a.add (i * 3 + 2)) = some (.int .i64 y.2.2) := by
      intro i hi
      obtain ⟨cs', h1, h2⟩ := hx i hi
      rw [ce] at h1
      obtain ⟨_, hlen, hcell⟩ := World.cells?_some h1
      obtain ⟨xs, k, hk, hxy, _, hxl, hf⟩ := DataW.trod_struct he h2
      match xs, hxl, cs', hlen with
      | [y0, y1, y2], _, [v0, v1, v2], _ =>
        have g0 := hf 0 f0 rfl
        have g1 := hf 1 f1 rfl
        have g2 := hf 2 f2 rfl
        rw [e0] at g0
        rw [e1] at g1
        rw [e2] at g2
        simp [o0, o1, o2, cq] at g0 g1 g2
        obtain ⟨a0, z0, _, _⟩ := DataW.trod_int hq g0
        obtain ⟨a1, z1, _, _⟩ := DataW.trod_int hq g1
        obtain ⟨a2, z2, _, _⟩ := DataW.trod_int hq g2
        simp at z0 z1 z2
        subst z0 z1 z2
        have c0 := hcell 0 (by omega)
        have c1 := hcell 1 (by omega)
        have c2 := hcell 2 (by omega)
        rw [add_add] at c0 c1 c2
        exact ⟨(a0, a1, a2), by simpa using c0, by simpa using c1, by simpa using c2⟩
    obtain ⟨q, hqq⟩ := choose_lt each
    have hm' : m ≤ 9223372036854775807 := hm
    refine ⟨(List.range len).map q, by simp; omega, some a, m, by simp, by simp; exact hl, hm', by simp, fun h0 => ?_⟩
    simp at h0
    obtain ⟨b, o, sp⟩ := a
    have h1 := (hqq 0 (by omega)).1
    have hs : sp = none := by simpa [Addr.add] using World.cell?_spot h1
    subst hs
    refine ⟨b, o, rfl, World.block_lt_of_cell? W ⟨b, o, none⟩ (by simpa [Addr.add] using h1), fun i x hi => ?_⟩
    have hi2 : i < len := by simpa using (List.getElem?_eq_some_iff.1 hi).1
    rw [List.getElem?_map, List.getElem?_range hi2] at hi
    simp at hi
    subst hi
    have h3 := hqq i (by omega)
    rw [add_plain, add_plain, add_plain] at h3
    exact h3
theorem open_Labels {tS tA e q : TypeId} {g0 g1 g2 f0 f1 f2 : Field} (hs : P.underlying tS = some (.struct #[g0, g1, g2])) (hone : oneCellFields P #[g0, g1, g2] = true) (hC : P.cellsOf tS = 3) (k0 : g0.type = q) (k1 : g1.type = q) (k2 : g2.type = tA)
    (ht : P.underlying tA = some (.slice e)) (he : P.underlying e = some (.struct #[f0, f1, f2])) (hq : P.underlying q = some (.int .i64)) (e0 : f0.type = q) (e1 : f1.type = q) (e2 : f2.type = q)
    (o0 : f0.offset = 0) (o1 : f1.offset = 1) (o2 : f2.offset = 2) (ce : P.cellsOf e = 3) (cq : P.cellsOf q = 1) {v : Value} {d : DataW H} {p : List MemPlace}
    (hv : Value.okWide P W .any base tS v) (h : DataW.Trod enc P W 0 (fun _ => true) true tS v d p) : ∃ l, LabR W v l ∧ I64 l.1 ∧ I64 l.2.1 := by
  obtain ⟨c0, c1, c2, y0, y1, y2, m, rfl, rfl, rfl, hy0, hy1, hy2⟩ := open_agg3 hs hone hC hv h
  rw [k0] at hy0
  rw [k1] at hy1
  rw [k2] at hy2
  obtain ⟨a0, z0, _, w0⟩ := DataW.trod_int hq hy0
  obtain ⟨a1, z1, _, w1⟩ := DataW.trod_int hq hy1
  simp at z0 z1
  subst z0 z1
  obtain ⟨xs, hxs⟩ := open_Arcs_cells ht he hq e0 e1 e2 o0 o1 o2 ce cq hy2
  exact ⟨(a0, a1, xs), ⟨c2, rfl, hxs⟩, I64.of_wf w0, I64.of_wf w1⟩
end
end Go.Sd
end

section
/-
  The function of Moebius: the program's and the reference's both return 'moeb n'.
-/
namespace Go.Proofs.Ytdohepngandajaa
open Go.RowKit Go.Deep Go.Sd

/-- The loop, by rounds that are left. -/
def moebLoop : Nat → Int → Int → Int → Int
  | 0, _, _, out => out
  | f + 1, n, p, out => if p ≤ n then (if n % p ≠ 0 then moebLoop f n (p + 1) out else if (n / p) % p = 0 then 0 else moebLoop f (n / p) (p + 1) (-out)) else out
def moeb (n : Int) : Int := if n < 1 ∨ 1000 < n then 0 else moebLoop (n.toNat + 1) n 2 1

theorem moebLoop_stop (f : Nat) (n p out : Int) (h : n < p) : moebLoop f n p out = out := by
  cases f with
  | zero => rfl
  | succ f => unfold moebLoop; rw [if_neg (by omega)]

theorem div_bd (n p : Int) (h0 : 1 ≤ n) (h1 : 2 ≤ p) (h2 : n % p = 0) : 1 ≤ n / p ∧ n / p ≤ n := by
  have h3 := Int.emod_add_mul_ediv n p
  have h4 : n = p * (n / p) := by omega
  have h5 : 0 < n / p := by
    rcases Int.lt_or_le 0 (n / p) with h | h
    · exact h
    · have : p * (n / p) ≤ 0 := Int.mul_nonpos_of_nonneg_of_nonpos (by omega) h
      omega
  have h6 : 1 * (n / p) ≤ p * (n / p) := Int.mul_le_mul_of_nonneg_right (by omega) (by omega)
  omega

theorem moeb_bd (n : Int) : -1000 ≤ moeb n ∧ moeb n ≤ 1000 := by
  have h : ∀ (f : Nat) (n p out : Int), -1 ≤ out → out ≤ 1 → -1 ≤ moebLoop f n p out ∧ moebLoop f n p out ≤ 1 := by
    intro f
    induction f with
    | zero => intro n p out h0 h1; exact ⟨h0, h1⟩
    | succ f ih =>
      intro n p out h0 h1
      unfold moebLoop
      split
      · split
        · exact ih _ _ _ h0 h1
        · split
          · omega
          · exact ih _ _ _ (by omega) (by omega)
      · omega
  unfold moeb
  split
  · omega
  · have := h (n.toNat + 1) n 2 1 (by omega) (by omega); omega

theorem l1In_c (a b c : Int) (w : World) :
    Calls Try.prog 75 #[.int .i64 a, .int .i64 b, .int .i64 c] w fun e w' => e = .returned (.bool (decide (b ≤ a) && decide (a ≤ c))) ∧ w = w' := by
  by_cases h1 : b ≤ a <;> by_cases h2 : a ≤ c
  all_goals
    go_enter Try.func75, Try.ntmps75
    go_wp2
    go_ret
    exact ⟨by simp [*], rfl⟩
theorem l1In_yes {a b c : Int} (w : World) (h1 : b ≤ a) (h2 : a ≤ c) : Calls Try.prog 75 #[.int .i64 a, .int .i64 b, .int .i64 c] w fun e w' => e = .returned (.bool true) ∧ w = w' := by
  have := l1In_c a b c w
  simpa [h1, h2] using this
theorem l1In_no {a b c : Int} (w : World) (h : a < b ∨ c < a) : Calls Try.prog 75 #[.int .i64 a, .int .i64 b, .int .i64 c] w fun e w' => e = .returned (.bool false) ∧ w = w' := by
  have e : (decide (b ≤ a) && decide (a ≤ c)) = false := by
    rcases h with h | h
    · simp; omega
    · simp; omega
  have := l1In_c a b c w
  rw [e] at this
  exact this



end Go.Proofs.Ytdohepngandajaa
end
