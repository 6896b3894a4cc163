/-
  The laws' own helpers on integer slices and tables: sizes, copies, comparisons, marks.
-/
import Derived.Test.YtdohepngandajaaRows
import Derived.Test.YtdohepngandajaaBase
namespace Go.Proofs.Ytdohepngandajaa
open Go.RowKit Go.Deep Go.Sd

theorem infoI : (Try.prog.info? 3).map (fun i => (i.zero, i.size, i.bytes)) = some (some (.int .i64 0), 1, 8) := by kernel_rfl
theorem infoR : (Try.prog.info? 50).map (fun i => (i.zero, i.size, i.bytes)) = some (some (.slice none 0 0), 1, 24) := by kernel_rfl

def szS (left n : Int) : Int := if left - n < 0 then -1 else left - n
def szLoop : List (List Int) → Int → Int
  | [], l => l
  | r :: rs, l => if szS l r.length < 0 then -1 else szLoop rs (szS l r.length)
def szSS (m : List (List Int)) (l : Int) : Int := if l - m.length < 0 then -1 else szLoop m (l - m.length)

theorem szS_bd (l n : Int) (hn : 0 ≤ n) : -1 ≤ szS l n ∧ (0 ≤ l → szS l n ≤ l) ∧ (0 ≤ szS l n → n ≤ l) := by unfold szS; split <;> omega
theorem szLoop_bd (m : List (List Int)) (l : Int) (hl : 0 ≤ l) : -1 ≤ szLoop m l ∧ szLoop m l ≤ l ∧ (0 ≤ szLoop m l → ∀ r ∈ m, (r.length : Int) ≤ l) := by
  induction m generalizing l with
  | nil => simp [szLoop]; omega
  | cons r rs ih =>
    have h := szS_bd l r.length (by omega)
    unfold szLoop
    by_cases h0 : szS l r.length < 0
    · rw [if_pos h0]; refine ⟨by omega, by omega, fun h => by omega⟩
    · rw [if_neg h0]
      have := ih (szS l r.length) (by omega)
      refine ⟨this.1, by omega, fun hh x hx => ?_⟩
      rcases List.mem_cons.1 hx with rfl | hx
      · omega
      · have := this.2.2 hh x hx; omega
theorem szSS_bd (m : List (List Int)) (l : Int) (hl : 0 ≤ l) : -1 ≤ szSS m l ∧ szSS m l ≤ l ∧ (0 ≤ szSS m l → (m.length : Int) ≤ l ∧ ∀ r ∈ m, (r.length : Int) ≤ l) := by
  unfold szSS
  split
  · refine ⟨by omega, by omega, fun h => by omega⟩
  · have h := szLoop_bd m (l - m.length) (by omega)
    refine ⟨h.1, by omega, fun hh => ⟨by omega, fun r hr => by have := h.2.2 hh r hr; omega⟩⟩

theorem szIntS_c {w : World} {v : Value} {xs : List Int} {l : Int} (h : Ints w v xs) (h0 : 0 ≤ l) (h1 : l ≤ 1048576) :
    Calls Try.prog 88 #[v, .int .i64 l] w fun e w' => e = .returned (.int .i64 (szS l xs.length)) ∧ w = w' := by
  have hlen := h.len
  obtain ⟨a, c, rfl, hc, hc', _⟩ := h.shape
  clear h
  by_cases ht : l - xs.length < 0
  all_goals
    have H := Lib.hid (show szS l xs.length = _ from by unfold szS; first | rw [if_pos ht] | rw [if_neg ht])
    go_enter Try.func88, Try.ntmps88
    go_wp2
    go_ret
    exact ⟨by rw [H.out]; rfl, rfl⟩

set_option maxHeartbeats 400000 in
theorem szIntSS_c {w : World} {v : Value} {m : List (List Int)} {l : Int} (h : Tab w v m) (h0 : 0 ≤ l) (h1 : l ≤ 1048576) :
    Calls Try.prog 29 #[v, .int .i64 l] w fun e w' => e = .returned (.int .i64 (szSS m l)) ∧ w = w' := by
  have hlen := h.len
  obtain ⟨a, c, rfl, hc, hc', hcell⟩ := h.shape
  clear h
  by_cases ht : l - m.length < 0
  · have H := Lib.hid (show szSS m l = _ from by unfold szSS; rw [if_pos ht])
    go_enter Try.func29, Try.ntmps29
    go_wp2
    go_ret
    exact ⟨by rw [H.out]; rfl, rfl⟩
  · have H0 := Lib.hid (show szSS m l = szLoop (m.drop 0) (l - m.length) from by unfold szSS; rw [if_neg ht]; rfl)
    go_enter Try.func29, Try.ntmps29
    go_wp2
    go_loopg [1, 5] (m.length) (fun g x i wr => ∃ (k : Nat) (l' : Int), i = .int .i64 k ∧ x = .int .i64 l' ∧ k + g = m.length ∧ 0 ≤ l' ∧ l' ≤ 1048576 ∧ Hid (szSS m l = szLoop (m.drop k) l') ∧ w = wr)
    case atStart => exact ⟨0, _, rfl, rfl, by omega, by omega, by omega, H0, rfl⟩
    case round =>
      obtain ⟨k, l', rfl, rfl, hk, h2, h3, H, rfl⟩ := hrel
      by_cases hlt : k < m.length
      · obtain ⟨b, o, rfl, hb, hc⟩ := hcell (by omega)
        obtain ⟨r, hr, hd⟩ := at_lt hlt
        obtain ⟨u, hu, hru⟩ := hc k r hr
        have H1 := Lib.hid (show szSS m l = if szS l' r.length < 0 then -1 else szLoop (m.drop (k + 1)) (szS l' r.length) from by rw [H.out, hd]; rfl)
        have hbd := szS_bd l' r.length (by omega)
        clear H hc hd hcell hr H0
        generalize hs : szS l' r.length = s at H1 hbd
        have hcon := szIntS_c (l := l') hru h2 h3
        rw [hs] at hcon
        have Hcon := Lib.hid hcon
        clear hcon hs hru
        by_cases h4 : s < 0
        · go_wp2_with (go_at_call 88; refine Hcon.out.mono ?_; rintro e w' ⟨rfl, rfl⟩)
          go_ret
          exact ⟨by rw [H1.out, if_pos h4]; rfl, rfl⟩
        · go_wp2_with (go_at_call 88; refine Hcon.out.mono ?_; rintro e w' ⟨rfl, rfl⟩)
          go_roundg (m.length - (k + 1))
          case measure => omega
          case rel => exact ⟨k + 1, s, by go_num, rfl, by omega, by omega, by omega, Lib.hid (by rw [H1.out, if_neg (by omega)]), rfl⟩
      · have H1 := Lib.hid (show szSS m l = l' from by rw [H.out, drop_len hlt]; rfl)
        clear H
        go_wp2
        go_ret
        exact ⟨by rw [H1.out]; rfl, rfl⟩

/-! ### equality -/

def eqLoop : List Int → List Int → Bool
  | x :: xs, y :: ys => if x = y then eqLoop xs ys else false
  | _, _ => true

theorem eqLoop_iff (xs ys : List Int) (h : xs.length = ys.length) : eqLoop xs ys = decide (xs = ys) := by
  induction xs generalizing ys with
  | nil => cases ys <;> simp_all [eqLoop]
  | cons a l ih =>
    cases ys with
    | nil => simp at h
    | cons b bs =>
      unfold eqLoop
      rw [ih bs (by simpa using h)]
      by_cases e : a = b <;> simp [e]

set_option maxHeartbeats 400000 in
theorem eqIntS_c {w : World} {v1 v2 : Value} {xs ys : List Int} (h1 : Ints w v1 xs) (h2 : Ints w v2 ys) :
    Calls Try.prog 42 #[v1, v2] w (Reads w (.bool (decide (xs = ys)))) := by
  have hlen1 := h1.len
  have hlen2 := h2.len
  obtain ⟨a1, c1, rfl, _, _, hc1⟩ := h1.shape
  obtain ⟨a2, c2, rfl, _, _, hc2⟩ := h2.shape
  clear h1 h2
  by_cases hl : xs.length = ys.length
  · have H0 := Lib.hid (show decide (xs = ys) = eqLoop (xs.drop 0) (ys.drop 0) from (eqLoop_iff xs ys hl).symm)
    have hl1 : ((ys.length : Int) != ys.length) = false := by simp
    have hl2 := Lib.hid hl
    obtain ⟨n, hn⟩ : ∃ n, n = xs.length := ⟨_, rfl⟩
    rw [← hl, ← hn]
    have hnb : n ≤ 9223372036854775807 := by omega
    have hl3 := Lib.hid hn
    clear hl hn
    go_enter Try.func42, Try.ntmps42
    go_wp2
    go_loopg [5] n (fun g i wr => ∃ (k : Nat), i = .int .i64 k ∧ k + g = n ∧ Hid (decide (xs = ys) = eqLoop (xs.drop k) (ys.drop k)) ∧ Drawn w wr)
    case atStart => exact ⟨0, rfl, by omega, H0, Drawn.refl _⟩
    case round =>
      obtain ⟨k, rfl, hk, H, hdr⟩ := hrel
      by_cases hlt : k < n
      · obtain ⟨b1, o1, rfl, _, hx1⟩ := hc1 (by have := hl3.out; omega)
        obtain ⟨b2, o2, rfl, _, hx2⟩ := hc2 (by have := hl3.out; have := hl2.out; omega)
        obtain ⟨x, hx, hdx⟩ := at_lt (xs := xs) (k := k) (by have := hl3.out; omega)
        obtain ⟨y, hy, hdy⟩ := at_lt (xs := ys) (k := k) (by have := hl3.out; have := hl2.out; omega)
        obtain ⟨u1, hu1, rfl⟩ := hx1 k x hx
        obtain ⟨u2, hu2, rfl⟩ := hx2 k y hy
        rw [← hdr.cell] at hu1 hu2
        have H1 := Lib.hid (show decide (xs = ys) = if x = y then eqLoop (xs.drop (k + 1)) (ys.drop (k + 1)) else false from by rw [H.out, hdx, hdy]; rfl)
        clear H hx hdx hy hdy hx1 hx2 hc1 hc2 H0
        by_cases hxy : x = y
        · have H2 := Lib.hid (show decide (xs = ys) = eqLoop (xs.drop (k + 1)) (ys.drop (k + 1)) from by rw [H1.out, if_pos hxy])
          have hd : (x != y) = false := by simp [hxy]
          have hi1 : (k : Int) < (n : Int) := by omega
          clear hxy H1
          go_wp2
          go_quiet (fail)
          go_wp2
          go_roundg (n - (k + 1))
          case measure => omega
          case rel => exact ⟨k + 1, by go_num, by omega, H2, hdr.drewN _⟩
        · have H2 := Lib.hid (show decide (xs = ys) = false from by rw [H1.out, if_neg hxy])
          have hd : (x != y) = true := by simp [hxy]
          have hi1 : (k : Int) < (n : Int) := by omega
          clear hxy H1
          go_wp2
          go_quiet (fail)
          go_wp2
          go_ret
          exact ⟨by rw [H2.out]; rfl, hdr.drewN _⟩
      · have H1 := Lib.hid (show decide (xs = ys) = true from by rw [H.out, drop_len (by have := hl3.out; omega)]; rfl)
        clear H
        go_wp2
        go_ret
        exact ⟨by rw [H1.out]; rfl, hdr⟩
  · have H := Lib.hid (show decide (xs = ys) = false from by simp; intro h; exact hl (by rw [h]))
    have hl1 : ((xs.length : Int) != ys.length) = true := by simp; omega
    go_enter Try.func42, Try.ntmps42
    go_wp2
    go_ret
    exact ⟨by rw [H.out]; rfl, Drawn.refl _⟩

def eqLoopT : List (List Int) → List (List Int) → Bool
  | x :: xs, y :: ys => if x = y then eqLoopT xs ys else false
  | _, _ => true

theorem eqLoopT_iff (xs ys : List (List Int)) (h : xs.length = ys.length) : eqLoopT xs ys = decide (xs = ys) := by
  induction xs generalizing ys with
  | nil => cases ys <;> simp_all [eqLoopT]
  | cons a l ih =>
    cases ys with
    | nil => simp at h
    | cons b bs =>
      unfold eqLoopT
      rw [ih bs (by simpa using h)]
      by_cases e : a = b <;> simp [e]

set_option maxHeartbeats 400000 in
theorem eqIntSS_c {w : World} {v1 v2 : Value} {xs ys : List (List Int)} (h1 : Tab w v1 xs) (h2 : Tab w v2 ys) :
    Calls Try.prog 34 #[v1, v2] w (Reads w (.bool (decide (xs = ys)))) := by
  have hlen1 := h1.len
  have hlen2 := h2.len
  obtain ⟨a1, c1, rfl, _, _, hc1⟩ := h1.shape
  obtain ⟨a2, c2, rfl, _, _, hc2⟩ := h2.shape
  clear h1 h2
  by_cases hl : xs.length = ys.length
  · have H0 := Lib.hid (show decide (xs = ys) = eqLoopT (xs.drop 0) (ys.drop 0) from (eqLoopT_iff xs ys hl).symm)
    have hl2 := Lib.hid hl
    obtain ⟨n, hn⟩ : ∃ n, n = xs.length := ⟨_, rfl⟩
    rw [← hl, ← hn]
    have hnb : n ≤ 9223372036854775807 := by omega
    have hl3 := Lib.hid hn
    clear hl hn
    go_enter Try.func34, Try.ntmps34
    go_wp2
    go_loopg [5] n (fun g i wr => ∃ (k : Nat), i = .int .i64 k ∧ k + g = n ∧ Hid (decide (xs = ys) = eqLoopT (xs.drop k) (ys.drop k)) ∧ Drawn w wr)
    case atStart => exact ⟨0, rfl, by omega, H0, Drawn.refl _⟩
    case round =>
      obtain ⟨k, rfl, hk, H, hdr⟩ := hrel
      by_cases hlt : k < n
      · obtain ⟨b1, o1, rfl, _, hx1⟩ := hc1 (by have := hl3.out; omega)
        obtain ⟨b2, o2, rfl, _, hx2⟩ := hc2 (by have := hl3.out; have := hl2.out; omega)
        obtain ⟨x, hx, hdx⟩ := at_lt (xs := xs) (k := k) (by have := hl3.out; omega)
        obtain ⟨y, hy, hdy⟩ := at_lt (xs := ys) (k := k) (by have := hl3.out; have := hl2.out; omega)
        obtain ⟨u1, hu1, hr1⟩ := hx1 k x hx
        obtain ⟨u2, hu2, hr2⟩ := hx2 k y hy
        rw [← hdr.cell] at hu1 hu2
        have H1 := Lib.hid (show decide (xs = ys) = if x = y then eqLoopT (xs.drop (k + 1)) (ys.drop (k + 1)) else false from by rw [H.out, hdx, hdy]; rfl)
        have hi1 : (k : Int) < (n : Int) := by omega
        have Hc := Lib.hid (fun n => Reads.quiet (eqIntS_c ((hdr.read Ints.frame hr1).dn n) ((hdr.read Ints.frame hr2).dn n)))
        clear H hx hdx hy hdy hx1 hx2 hc1 hc2 H0 hr1 hr2
        by_cases hxy : x = y
        · have H2 := Lib.hid (show decide (xs = ys) = eqLoopT (xs.drop (k + 1)) (ys.drop (k + 1)) from by rw [H1.out, if_pos hxy])
          have hd : decide (x = y) = true := by simp [hxy]
          rw [hd] at Hc
          clear hxy H1 hd
          go_wp2
          go_quiet ((go_at_call 42; exact Hc.out _))
          go_wp2
          go_roundg (n - (k + 1))
          case measure => omega
          case rel => exact ⟨k + 1, by go_num, by omega, H2, hdr.drewN _⟩
        · have H2 := Lib.hid (show decide (xs = ys) = false from by rw [H1.out, if_neg hxy])
          have hd : decide (x = y) = false := by simp [hxy]
          rw [hd] at Hc
          clear hxy H1 hd
          go_wp2
          go_quiet ((go_at_call 42; exact Hc.out _))
          go_wp2
          go_ret
          exact ⟨by rw [H2.out]; rfl, hdr.drewN _⟩
      · have H1 := Lib.hid (show decide (xs = ys) = true from by rw [H.out, drop_len (by have := hl3.out; omega)]; rfl)
        clear H
        go_wp2
        go_ret
        exact ⟨by rw [H1.out]; rfl, hdr⟩
  · have H := Lib.hid (show decide (xs = ys) = false from by simp; intro h; exact hl (by rw [h]))
    have hl1 : ((xs.length : Int) != ys.length) = true := by simp; omega
    go_enter Try.func34, Try.ntmps34
    go_wp2
    go_ret
    exact ⟨by rw [H.out]; rfl, Drawn.refl _⟩

/-! ### copies -/

theorem fill_step {α : Type} (xs : List α) (d : α) (k n : Nat) (hn : n = xs.length) (hk : k < n) (x : α) (hx : xs[k]? = some x) :
    (xs.take k ++ List.replicate (n - k) d).set k x = xs.take (k + 1) ++ List.replicate (n - (k + 1)) d := by
  have hl : (xs.take k).length = k := by simp; omega
  have e : n - k = (n - (k + 1)) + 1 := by omega
  rw [List.set_append_right _ _ (by omega), hl, Nat.sub_self, e, List.replicate_succ, List.set_cons_zero, List.take_add_one, hx]
  simp

theorem fill_at {α : Type} (xs : List α) (d : α) (k n : Nat) (hn : n = xs.length) (hk : k < n) : (xs.take k ++ List.replicate (n - k) d)[k]? = some d := by
  have hl : (xs.take k).length = k := by simp; omega
  rw [List.getElem?_append_right (by omega), hl, Nat.sub_self, List.getElem?_replicate, if_pos (by omega)]

theorem fill_len {α : Type} (xs : List α) (d : α) (k n : Nat) (hn : n = xs.length) (hk : k ≤ n) : (xs.take k ++ List.replicate (n - k) d).length = n := by
  simp; omega

set_option maxHeartbeats 400000 in
theorem toIntS_c {w : World} {v : Value} {xs : List Int} (h : Ints w v xs) (hsz : xs.length ≤ 1048576) :
    Calls Try.prog 92 #[v] w (Makes (OInts 3) w xs) := by
  obtain ⟨a, c, rfl, _, _, hcell⟩ := h.shape
  clear h
  obtain ⟨n, hn⟩ : ∃ n, n = xs.length := ⟨_, rfl⟩
  rw [← hn] at hsz hcell ⊢
  have Hn := Lib.hid hn
  clear hn
  have hmk := run_make_row' (P := Try.prog) 50 3 (.int .i64 0) 8 Try.underlying50 infoI rfl .i64 .i64 n (by omega) (by omega)
  go_enter Try.func92, Try.ntmps92
  go_wp2
  go_loopg [4] n (fun g i wr => ∃ (k : Nat), i = .int .i64 k ∧ k + g = n ∧ New (OInts 3) w.heap.size wr (.slice (some ⟨w.heap.size, 0, none⟩) n n) (xs.take k ++ List.replicate (n - k) 0) ∧ Below w.heap.size w wr)
  case atStart => exact ⟨0, rfl, by omega, by simpa using New.made 3 w (.int .i64 0) 0 n (Nat.le_refl _) (by omega) OIntR.zero, (Below.refl _ _).alloc (Nat.le_refl _) _⟩
  case round =>
    obtain ⟨k, rfl, hk, hnew, hbel⟩ := hrel
    by_cases hlt : k < n
    · obtain ⟨b, o, rfl, hb, hx0⟩ := hcell (by omega)
      obtain ⟨x, hx, _⟩ := at_lt (xs := xs) (k := k) (by have := Hn.out; omega)
      obtain ⟨u, hu, rfl⟩ := hx0 k x hx
      have hu1 : wr.cell? ⟨b, o + k, none⟩ = some (.int .i64 x) := (hbel.cell (p := ⟨b, o + k, none⟩) hb).trans hu
      obtain ⟨b', c', hv, _, _, _, hcl, hfr, hst⟩ := hnew.int_at (fill_at xs 0 k n Hn.out hlt)
      obtain rfl : b' = w.heap.size := by simp at hv; exact hv.1.symm
      clear hv
      have hst1 := hst x
      rw [fill_step xs 0 k n Hn.out hlt x hx] at hst1
      have hbel1 := hbel.setCell (p := ⟨w.heap.size, k, none⟩) (Nat.le_refl _) (.int .i64 x)
      clear hst hnew hx hu hx0 hbel hcell hmk
      go_wp2
      go_roundg (n - (k + 1))
      case measure => omega
      case rel => exact ⟨k + 1, by go_num, by omega, hst1, hbel1⟩
    · have e : k = n := by omega
      subst e
      rw [Nat.sub_self, List.replicate_zero, List.append_nil, List.take_of_length_le (by have := Hn.out; omega)] at hnew
      clear hcell hmk
      go_wp2
      go_ret
      exact ⟨_, rfl, hnew, hbel⟩

set_option maxHeartbeats 400000 in
theorem toIntSS_c {w : World} {v : Value} {m : List (List Int)} (h : Tab w v m) (hsz : m.length ≤ 1048576) (hsr : ∀ r, r ∈ m → r.length ≤ 1048576) :
    Calls Try.prog 31 #[v] w (Makes (OTab 3 50) w m) := by
  have h' := h
  obtain ⟨a, c, rfl, _, _, hcell⟩ := h.shape
  clear h
  obtain ⟨n, hn⟩ : ∃ n, n = m.length := ⟨_, rfl⟩
  rw [← hn] at hsz hcell ⊢
  have Hn := Lib.hid hn
  have Hsr := Lib.hid hsr
  clear hn hsr h'
  have hmk := run_make_row' (P := Try.prog) 41 50 (.slice none 0 0) 24 Try.underlying41 infoR rfl .i64 .i64 n (by omega) (by omega)
  go_enter Try.func31, Try.ntmps31
  go_wp2
  go_loopg [4] n (fun g i wr => ∃ (k : Nat), i = .int .i64 k ∧ k + g = n ∧ New (OTab 3 50) w.heap.size wr (.slice (some ⟨w.heap.size, 0, none⟩) n n) (m.take k ++ List.replicate (n - k) []) ∧ Below w.heap.size w wr)
  case atStart => exact ⟨0, rfl, by omega, by simpa using New.made 50 w (.slice none 0 0) [] n (Nat.le_refl _) (by omega) OwnOf.nil, (Below.refl _ _).alloc (Nat.le_refl _) _⟩
  case round =>
    obtain ⟨k, rfl, hk, hnew, hbel⟩ := hrel
    by_cases hlt : k < n
    · obtain ⟨b, o, rfl, hb, hx0⟩ := hcell (by omega)
      obtain ⟨x, hx, _⟩ := at_lt (xs := m) (k := k) (by have := Hn.out; omega)
      obtain ⟨u, hu, hr⟩ := hx0 k x hx
      have hu1 : wr.cell? ⟨b, o + k, none⟩ = some u := (hbel.cell (p := ⟨b, o + k, none⟩) hb).trans hu
      have Hc := Lib.hid (toIntS_c (Ints.frame _ _ _ _ hr hbel) (Hsr.out x (List.mem_of_getElem? hx)))
      obtain ⟨b', c', u', hv, _, _, hlt', hcl, hfr, _, hst⟩ := hnew.at (OInts.kept _) (fill_at m [] k n Hn.out hlt)
      obtain rfl : b' = w.heap.size := by simp at hv; exact hv.1.symm
      clear hv
      have Hst := Lib.hid hst
      have Hx := Lib.hid hx
      clear hst hx hu hx0 hcell hmk hr
      go_wp2_with (go_at_call 92; refine Hc.out.mono ?_; rintro e w1 ⟨r, rfl, hr1, hb1⟩; obtain ⟨ra, rn, rc, rfl⟩ := hr1.slice; have hcl1 := (hb1.cell (p := ⟨w.heap.size, k, none⟩) hlt').trans hcl; have hfr1 := (hb1.frozen (p := ⟨w.heap.size, k, none⟩) hlt').trans hfr)
      go_roundg (n - (k + 1))
      case measure => omega
      case rel =>
        have hst1 := Hst.out _ _ _ hb1 hr1
        rw [fill_step m [] k n Hn.out hlt x Hx.out] at hst1
        exact ⟨k + 1, by go_num, by omega, hst1, (hbel.trans (hb1.mono hbel.size)).setCell (p := ⟨w.heap.size, k, none⟩) (Nat.le_refl _) _⟩
    · have e : k = n := by omega
      subst e
      rw [Nat.sub_self, List.replicate_zero, List.append_nil, List.take_of_length_le (by have := Hn.out; omega)] at hnew
      clear hcell hmk
      go_wp2
      go_ret
      exact ⟨_, rfl, hnew, hbel⟩

/-! ### marks -/

def markS : List Int → Int → List Int
  | [], _ => []
  | _ :: xs, k => k :: markS xs (k + 1)
def heldS : List Int → Int → Int
  | [], k => k
  | x :: xs, k => if x = k then heldS xs (k + 1) else -1
def cntSS : List (List Int) → Int
  | [] => 0
  | r :: rs => r.length + cntSS rs
def markSS : List (List Int) → Int → List (List Int)
  | [], _ => []
  | r :: rs, k => markS r k :: markSS rs (k + r.length)
def heldSS : List (List Int) → Int → Int
  | [], k => k
  | r :: rs, k => if heldS r k < 0 then -1 else heldSS rs (heldS r k)

theorem markS_len (xs : List Int) (k : Int) : (markS xs k).length = xs.length := by
  induction xs generalizing k with
  | nil => rfl
  | cons x xs ih => simp [markS, ih]
theorem markS_at (xs : List Int) (k : Int) (i : Nat) (h : i < xs.length) : (markS xs k)[i]? = some (k + i) := by
  induction xs generalizing k i with
  | nil => simp at h
  | cons x xs ih =>
    cases i with
    | zero => simp [markS]
    | succ i =>
      simp only [markS, List.getElem?_cons_succ]
      rw [ih (k + 1) i (by simpa using h)]
      congr 1; omega
theorem heldS_mark (xs : List Int) (k : Int) : heldS (markS xs k) k = k + xs.length := by
  induction xs generalizing k with
  | nil => simp [heldS, markS]
  | cons x xs ih => simp only [markS, heldS, if_true, ih, List.length_cons]; omega
theorem heldS_bd (xs : List Int) (k : Int) (h : 0 ≤ k) : -1 ≤ heldS xs k ∧ heldS xs k ≤ k + xs.length := by
  induction xs generalizing k with
  | nil => simp [heldS]; omega
  | cons x xs ih =>
    unfold heldS
    split
    · have := ih (k + 1) (by omega); simp only [List.length_cons]; omega
    · simp only [List.length_cons]; omega
theorem cntSS_nn (m : List (List Int)) : 0 ≤ cntSS m := by
  induction m with
  | nil => simp [cntSS]
  | cons r rs ih => unfold cntSS; omega
theorem markSS_len (m : List (List Int)) (k : Int) : (markSS m k).length = m.length := by
  induction m generalizing k with
  | nil => rfl
  | cons x xs ih => simp [markSS, ih]
theorem heldSS_mark (m : List (List Int)) (k : Int) (h : 0 ≤ k) : heldSS (markSS m k) k = k + cntSS m := by
  induction m generalizing k with
  | nil => simp [heldSS, markSS, cntSS]
  | cons x xs ih =>
    simp only [markSS, heldSS, heldS_mark, cntSS]
    rw [if_neg (by omega), ih _ (by omega)]
    omega

theorem mark_step {α : Type} (ms xs : List α) (k n : Nat) (hm : n = ms.length) (hn : n = xs.length) (hk : k < n) (y : α) (hy : ms[k]? = some y) :
    (ms.take k ++ xs.drop k).set k y = ms.take (k + 1) ++ xs.drop (k + 1) := by
  have hl : (ms.take k).length = k := by simp; omega
  rw [List.set_append_right _ _ (by omega), hl, Nat.sub_self, List.drop_eq_getElem_cons (by omega : k < xs.length), List.set_cons_zero, List.take_add_one, hy]
  simp

theorem mark_at {α : Type} (ms xs : List α) (k n : Nat) (hm : n = ms.length) (hn : n = xs.length) (hk : k < n) (x : α) (hx : xs[k]? = some x) : (ms.take k ++ xs.drop k)[k]? = some x := by
  have hl : (ms.take k).length = k := by simp; omega
  rw [List.getElem?_append_right (by omega), hl, Nat.sub_self, List.getElem?_drop]
  simpa using hx

theorem mark_len {α : Type} (ms xs : List α) (k n : Nat) (hm : n = ms.length) (hn : n = xs.length) : (ms.take k ++ xs.drop k).length = n := by
  simp; omega

set_option maxHeartbeats 400000 in
theorem markIntS_c {w : World} {v : Value} {xs : List Int} {F : List Nat} {k0 : Int} (h : OInts 3 w v xs F) (hF : F.Nodup) (h0 : 0 ≤ k0) (h1 : k0 + xs.length ≤ 4611686018427387904) :
    Calls Try.prog 43 #[v, .int .i64 k0] w (Marks (OInts 3) F w v (markS xs k0) (k0 + xs.length)) := by
  have hsh := h.reads.shape
  obtain ⟨a, c, hv, _, _, _⟩ := hsh
  obtain ⟨n, hn⟩ : ∃ n, n = xs.length := ⟨_, rfl⟩
  rw [← hn] at hv h1 ⊢
  have Hn := Lib.hid hn
  have Hm := Lib.hid (markS_len xs k0)
  have hn0 : n ≤ 4611686018427387904 := by omega
  clear hn
  subst hv
  go_enter Try.func43, Try.ntmps43
  go_wp2
  go_loopg [1, 5] n (fun g x i wr => ∃ (k : Nat), i = .int .i64 k ∧ x = .int .i64 (k0 + k) ∧ k + g = n ∧ OInts 3 wr (.slice a n c) ((markS xs k0).take k ++ xs.drop k) F ∧ Off F w wr)
  case atStart => exact ⟨0, rfl, by simp, by omega, by simpa using h, Off.refl _ _⟩
  case round =>
    obtain ⟨k, rfl, rfl, hk, hown, hoff⟩ := hrel
    clear h
    by_cases hlt : k < n
    · obtain ⟨x, hx, _⟩ := at_lt (xs := xs) (k := k) (by have := Hn.out; omega)
      obtain ⟨b, c', u, G, hv, _, hbF, _, hcl, hfr, ⟨rfl, rfl⟩, _, _, _, hst⟩ := hown.focus OIntR.kept hF (mark_at (markS xs k0) xs k n (by rw [Hm.out, Hn.out]) Hn.out hlt x hx)
      obtain rfl : a = some ⟨b, 0, none⟩ := by simp at hv; exact hv.1
      have hst1 : OInts 3 (wr.setCell ⟨b, k, none⟩ (.int .i64 (k0 + k))) (.slice (some ⟨b, 0, none⟩) n c) ((markS xs k0).take (k + 1) ++ xs.drop (k + 1)) F := by
        obtain ⟨F', hF', _, _, e⟩ := hst wr (.int .i64 (k0 + k)) (k0 + k) [] ⟨rfl, rfl⟩ (by simp) (fun _ _ _ => rfl)
        rw [mark_step (markS xs k0) xs k n (by rw [Hm.out, Hn.out]) Hn.out hlt _ (markS_at xs k0 k (by have := Hn.out; omega))] at hF'
        rw [e rfl] at hF'
        exact hF'
      have hoff1 := hoff.trans (Off.setCell (w := wr) (p := ⟨b, k, none⟩) hbF (.int .i64 (k0 + k)))
      clear hv hst hown hx hoff
      go_wp2
      go_roundg (n - (k + 1))
      case measure => omega
      case rel => exact ⟨k + 1, by go_num, by go_num, by omega, hst1, hoff1⟩
    · have e : k = n := by omega
      subst e
      rw [List.take_of_length_le (by rw [Hm.out, ← Hn.out]; omega), drop_len (by have := Hn.out; omega), List.append_nil] at hown
      go_wp2
      go_ret
      exact ⟨rfl, hown, hoff⟩

theorem markSS_at (m : List (List Int)) (k : Int) (i : Nat) (x : List Int) (h : m[i]? = some x) : (markSS m k)[i]? = some (markS x (k + cntSS (m.take i))) ∧ cntSS (m.take (i + 1)) = cntSS (m.take i) + x.length := by
  induction m generalizing k i with
  | nil => simp at h
  | cons r rs ih =>
    cases i with
    | zero => simp at h; subst h; simp [markSS, cntSS]
    | succ i =>
      have := ih (k + r.length) i (by simpa using h)
      simp only [markSS, List.getElem?_cons_succ, List.take_succ_cons, cntSS]
      refine ⟨?_, by rw [this.2]; omega⟩
      rw [this.1]; congr 2; omega
theorem cntSS_take (m : List (List Int)) (i : Nat) : 0 ≤ cntSS (m.take i) ∧ cntSS (m.take i) ≤ cntSS m := by
  induction m generalizing i with
  | nil => simp [cntSS]
  | cons r rs ih =>
    cases i with
    | zero => simp [cntSS]; have := cntSS_nn rs; omega
    | succ i => simp only [List.take_succ_cons, cntSS]; have := ih i; omega

set_option maxHeartbeats 400000 in
theorem markIntSS_c {w : World} {v : Value} {m : List (List Int)} {F : List Nat} {k0 : Int} (h : OTab 3 50 w v m F) (hF : F.Nodup) (h0 : 0 ≤ k0) (h1 : k0 + cntSS m ≤ 4611686018427387904) :
    Calls Try.prog 35 #[v, .int .i64 k0] w (Marks (OTab 3 50) F w v (markSS m k0) (k0 + cntSS m)) := by
  have hsh := h.reads.shape
  have hlen := h.reads.len
  obtain ⟨a, c, hv, _, _, _⟩ := hsh
  obtain ⟨n, hn⟩ : ∃ n, n = m.length := ⟨_, rfl⟩
  rw [← hn] at hv hlen
  have Hn := Lib.hid hn
  have Hm := Lib.hid (markSS_len m k0)
  have H1 := Lib.hid h1
  clear hn h1
  subst hv
  go_enter Try.func35, Try.ntmps35
  go_wp2
  go_loopg [1, 5] n (fun g x i wr => ∃ (k : Nat) (j : Int), i = .int .i64 k ∧ x = .int .i64 j ∧ Hid (j = k0 + cntSS (m.take k)) ∧ k + g = n ∧ OTab 3 50 wr (.slice a n c) ((markSS m k0).take k ++ m.drop k) F ∧ Off F w wr)
  case atStart => exact ⟨0, k0, rfl, rfl, Lib.hid (by simp [cntSS]), by omega, by simpa using h, Off.refl _ _⟩
  case round =>
    obtain ⟨k, j, rfl, rfl, Hj, hk, hown, hoff⟩ := hrel
    clear h
    by_cases hlt : k < n
    · obtain ⟨x, hx, _⟩ := at_lt (xs := m) (k := k) (by have := Hn.out; omega)
      have hat := markSS_at m k0 k x hx
      have ht := cntSS_take m k
      have ht1 := cntSS_take m (k + 1)
      obtain ⟨b, c', u, G, hv, _, hbF, _, hcl, hfr, hu, hGF, hGn, hst, _⟩ := hown.focus (OInts.kept _) hF (mark_at (markSS m k0) m k n (by rw [Hm.out, Hn.out]) Hn.out hlt x hx)
      obtain rfl : a = some ⟨b, 0, none⟩ := by simp at hv; exact hv.1
      have Hc := Lib.hid (markIntS_c (k0 := j) hu hGn (by have := Hj.out; omega) (by have := Hj.out; have := H1.out; rw [hat.2] at ht1; omega))
      have Hst := Lib.hid (show ∀ w1, OInts 3 w1 u (markS x j) G → Off G wr w1 → OTab 3 50 w1 (.slice (some ⟨b, 0, none⟩) n c) ((markSS m k0).take (k + 1) ++ m.drop (k + 1)) F by
        intro w1 h2 h3
        have := hst w1 (markS x j) h2 (fun q hq hqG => h3.block q ((OTab.kept _ _).lt _ _ _ _ hown q hq) hqG)
        rw [mark_step (markSS m k0) m k n (by rw [Hm.out, Hn.out]) Hn.out hlt _ (by rw [hat.1, ← Hj.out])] at this
        exact this)
      have HG := Lib.hid hGF
      have Hat := Lib.hid hat
      have hj : 0 ≤ j ∧ j + x.length ≤ 4611686018427387904 := by have := Hj.out; have := H1.out; rw [hat.2] at ht1; omega
      obtain ⟨hj1, hj2⟩ := hj
      clear hv hst hown hx hu hGF hGn hat ht ht1
      go_wp2_with (go_at_call 43; refine Hc.out.mono ?_; rintro e w1 ⟨rfl, hm1, hoff1⟩)
      go_roundg (n - (k + 1))
      case measure => omega
      case rel => exact ⟨k + 1, _, by go_num, rfl, Lib.hid (by rw [Hat.out.2, Hj.out]; omega), by omega, Hst.out _ hm1 hoff1, hoff.trans (hoff1.mono HG.out)⟩
    · have e : k = n := by omega
      subst e
      rw [List.take_of_length_le (by rw [Hm.out, ← Hn.out]; omega), drop_len (by have := Hn.out; omega), List.append_nil] at hown
      rw [List.take_of_length_le (by have := Hn.out; omega)] at Hj
      go_wp2
      go_ret
      exact ⟨by rw [← Hj.out]; rfl, hown, hoff⟩

/-! ### held -/

set_option maxHeartbeats 400000 in
theorem heldIntS_c {w : World} {v : Value} {xs : List Int} {k0 : Int} (h : Ints w v xs) (h0 : 0 ≤ k0) (h1 : k0 + xs.length ≤ 4611686018427387904) :
    Calls Try.prog 44 #[v, .int .i64 k0] w fun e w' => e = .returned (.int .i64 (heldS xs k0)) ∧ w = w' := by
  obtain ⟨a, c, rfl, _, _, hcell⟩ := h.shape
  clear h
  obtain ⟨n, hn⟩ : ∃ n, n = xs.length := ⟨_, rfl⟩
  rw [← hn] at h1 hcell ⊢
  have Hn := Lib.hid hn
  clear hn
  go_enter Try.func44, Try.ntmps44
  go_wp2
  go_loopg [1, 5] n (fun g x i wr => ∃ (k : Nat), i = .int .i64 k ∧ x = .int .i64 (k0 + k) ∧ k + g = n ∧ Hid (heldS xs k0 = heldS (xs.drop k) (k0 + k)) ∧ w = wr)
  case atStart => exact ⟨0, rfl, by simp, by omega, Lib.hid (by simp), rfl⟩
  case round =>
    obtain ⟨k, rfl, rfl, hk, H, rfl⟩ := hrel
    by_cases hlt : k < n
    · obtain ⟨b, o, rfl, hb, hx0⟩ := hcell (by omega)
      obtain ⟨x, hx, hd⟩ := at_lt (xs := xs) (k := k) (by have := Hn.out; omega)
      obtain ⟨u, hu, rfl⟩ := hx0 k x hx
      have H1 := Lib.hid (show heldS xs k0 = if x = k0 + k then heldS (xs.drop (k + 1)) (k0 + k + 1) else -1 from by rw [H.out, hd]; rfl)
      clear H hx hd hx0 hcell
      by_cases hxe : x = k0 + k
      · have H2 := Lib.hid (show heldS xs k0 = heldS (xs.drop (k + 1)) (k0 + k + 1) from by rw [H1.out, if_pos hxe])
        have hb1 : (x != k0 + k) = false := by simp [hxe]
        clear H1 hxe
        go_wp2
        go_roundg (n - (k + 1))
        case measure => omega
        case rel => exact ⟨k + 1, by go_num, by go_num, by omega, Lib.hid (by rw [H2.out]; congr 1; omega), rfl⟩
      · have H2 := Lib.hid (show heldS xs k0 = -1 from by rw [H1.out, if_neg hxe])
        have hb1 : (x != k0 + k) = true := by simp [hxe]
        clear H1 hxe
        go_wp2
        go_ret
        exact ⟨by rw [H2.out]; rfl, rfl⟩
    · have H1 := Lib.hid (show heldS xs k0 = k0 + k from by rw [H.out, drop_len (by have := Hn.out; omega)]; rfl)
      clear H
      go_wp2
      go_ret
      exact ⟨by rw [H1.out]; rfl, rfl⟩

theorem heldSS_bd (m : List (List Int)) (k : Int) (h : 0 ≤ k) : -1 ≤ heldSS m k ∧ heldSS m k ≤ k + cntSS m := by
  induction m generalizing k with
  | nil => simp [heldSS, cntSS]; omega
  | cons r rs ih =>
    unfold heldSS
    have hb := heldS_bd r k h
    have hn := cntSS_nn rs
    split
    · simp only [cntSS]; omega
    · have := ih (heldS r k) (by omega); simp only [cntSS]; omega

set_option maxHeartbeats 400000 in
theorem heldIntSS_c {w : World} {v : Value} {m : List (List Int)} {k0 : Int} (h : Tab w v m) (h0 : 0 ≤ k0) (h1 : k0 + cntSS m ≤ 4611686018427387904) :
    Calls Try.prog 101 #[v, .int .i64 k0] w fun e w' => e = .returned (.int .i64 (heldSS m k0)) ∧ w = w' := by
  have hlen := h.len
  obtain ⟨a, c, rfl, _, _, hcell⟩ := h.shape
  clear h
  obtain ⟨n, hn⟩ : ∃ n, n = m.length := ⟨_, rfl⟩
  rw [← hn] at hcell hlen ⊢
  have Hn := Lib.hid hn
  have H1 := Lib.hid h1
  clear hn h1
  go_enter Try.func101, Try.ntmps101
  go_wp2
  go_loopg [1, 5] n (fun g x i wr => ∃ (k : Nat) (j : Int), i = .int .i64 k ∧ x = .int .i64 j ∧ 0 ≤ j ∧ Hid (j ≤ k0 + cntSS (m.take k)) ∧ k + g = n ∧ Hid (heldSS m k0 = heldSS (m.drop k) j) ∧ w = wr)
  case atStart => exact ⟨0, k0, rfl, rfl, by omega, Lib.hid (by simp [cntSS]), by omega, Lib.hid (by simp), rfl⟩
  case round =>
    obtain ⟨k, j, rfl, rfl, hj0, Hj, hk, H, rfl⟩ := hrel
    by_cases hlt : k < n
    · obtain ⟨b, o, rfl, hb, hx0⟩ := hcell (by omega)
      obtain ⟨x, hx, hd⟩ := at_lt (xs := m) (k := k) (by have := Hn.out; omega)
      obtain ⟨u, hu, hr⟩ := hx0 k x hx
      have hat := (markSS_at m k0 k x hx).2
      have ht1 := cntSS_take m (k + 1)
      have H2 := Lib.hid (show heldSS m k0 = if heldS x j < 0 then -1 else heldSS (m.drop (k + 1)) (heldS x j) from by rw [H.out, hd]; rfl)
      have Hc := Lib.hid (heldIntS_c hr hj0 (by have := Hj.out; have := H1.out; omega))
      have hbd := heldS_bd x j hj0
      have Hb := Lib.hid (show heldS x j ≤ k0 + cntSS (m.take (k + 1)) from by have := Hj.out; omega)
      clear H hx hd hx0 hcell hr hat ht1
      generalize heldS x j = y at H2 Hc hbd Hb
      by_cases hy : y < 0
      · have H3 := Lib.hid (show heldSS m k0 = -1 from by rw [H2.out, if_pos hy])
        clear H2
        go_wp2_with (go_at_call 44; refine Hc.out.mono ?_; rintro e w' ⟨rfl, rfl⟩)
        go_ret
        exact ⟨by rw [H3.out]; rfl, rfl⟩
      · have H3 := Lib.hid (show heldSS m k0 = heldSS (m.drop (k + 1)) y from by rw [H2.out, if_neg hy])
        clear H2
        go_wp2_with (go_at_call 44; refine Hc.out.mono ?_; rintro e w' ⟨rfl, rfl⟩)
        go_roundg (n - (k + 1))
        case measure => omega
        case rel => exact ⟨k + 1, y, by go_num, rfl, by omega, Hb, by omega, H3, rfl⟩
    · have H2 := Lib.hid (show heldSS m k0 = j from by rw [H.out, drop_len (by have := Hn.out; omega)]; rfl)
      clear H
      go_wp2
      go_ret
      exact ⟨by rw [H2.out]; rfl, rfl⟩
end Go.Proofs.Ytdohepngandajaa
