/-
  The laws' helpers on lists of tables.
-/
import Derived.Test.YtjgiobapdkdhpaaRows
import Derived.Test.YtjgiobapdkdhpaaBase
import Derived.Test.YtjgiobapdkdhpaaHarn
import Derived.Test.YtjgiobapdkdhpaaLawKit
namespace Go.Proofs.Ytjgiobapdkdhpaa
open Go.RowKit Go.Deep Go.Sd

theorem infoT : (Try.prog.info? 35).map (fun i => (i.zero, i.size, i.bytes)) = some (some (.slice none 0 0), 1, 24) := by kernel_rfl
def szLoop3 : List (List (List Int)) → Int → Int
  | [], l => l
  | t :: ts, l => if szSS t l < 0 then -1 else szLoop3 ts (szSS t l)
def szSSS (m : List (List (List Int))) (l : Int) : Int := if l - m.length < 0 then -1 else szLoop3 m (l - m.length)
theorem szLoop3_bd : ∀ (m : List (List (List Int))) (l : Int), 0 ≤ l → -1 ≤ szLoop3 m l ∧ szLoop3 m l ≤ l ∧ (0 ≤ szLoop3 m l → ∀ t, t ∈ m → (t.length : Int) ≤ l ∧ ∀ r, r ∈ t → (r.length : Int) ≤ l)
  | [], l, h => ⟨by unfold szLoop3; omega, by unfold szLoop3; omega, fun _ t ht => by cases ht⟩
  | t :: ts, l, h => by
    have h1 := szSS_bd t l h
    unfold szLoop3
    by_cases hn : szSS t l < 0
    · rw [if_pos hn]; exact ⟨by omega, by omega, fun h0 => by omega⟩
    · rw [if_neg hn]
      have h2 := szLoop3_bd ts (szSS t l) (by omega)
      refine ⟨h2.1, by omega, fun h0 u hu => ?_⟩
      rcases List.mem_cons.1 hu with rfl | hu
      · have h3 := h1.2.2 (by omega)
        exact ⟨h3.1, fun r hr => h3.2 r hr⟩
      · have h3 := h2.2.2 h0 u hu
        exact ⟨by omega, fun r hr => by have := h3.2 r hr; omega⟩
theorem szSSS_bd (m : List (List (List Int))) (l : Int) (h : 0 ≤ l) : -1 ≤ szSSS m l ∧ szSSS m l ≤ l ∧ (0 ≤ szSSS m l → (m.length : Int) ≤ l ∧ ∀ t, t ∈ m → (t.length : Int) ≤ l ∧ ∀ r, r ∈ t → (r.length : Int) ≤ l) := by
  unfold szSSS
  by_cases hn : l - m.length < 0
  · rw [if_pos hn]; exact ⟨by omega, by omega, fun h0 => by omega⟩
  · rw [if_neg hn]
    have h2 := szLoop3_bd m (l - m.length) (by omega)
    refine ⟨h2.1, by omega, fun h0 => ⟨by omega, fun t ht => ?_⟩⟩
    have h3 := h2.2.2 h0 t ht
    exact ⟨by omega, fun r hr => by have := h3.2 r hr; omega⟩
set_option maxHeartbeats 400000 in
theorem szIntSSS_c {w : World} {v : Value} {m : List (List (List Int))} {l : Int} (h : Tabs w v m) (h0 : 0 ≤ l) (h1 : l ≤ 1048576) :
    Calls Try.prog 31 #[v, .int .i64 l] w fun e w' => e = .returned (.int .i64 (szSSS m l)) ∧ w = w' := by
  have hlen := h.len
  obtain ⟨a, c, rfl, hc, hc', hcell⟩ := h.shape
  clear h
  by_cases ht : l - m.length < 0
  · have H := Lib.hid (show szSSS m l = _ from by unfold szSSS; rw [if_pos ht])
    go_enter Try.func31, Try.ntmps31
    go_wp2
    go_ret
    exact ⟨by rw [H.out]; rfl, rfl⟩
  · have H0 := Lib.hid (show szSSS m l = szLoop3 (m.drop 0) (l - m.length) from by unfold szSSS; rw [if_neg ht]; rfl)
    go_enter Try.func31, Try.ntmps31
    go_wp2
    go_loopg [1, 5] (m.length) (fun g x i wr => ∃ (k : Nat) (l' : Int), i = .int .i64 k ∧ x = .int .i64 l' ∧ k + g = m.length ∧ 0 ≤ l' ∧ l' ≤ 1048576 ∧ Hid (szSSS m l = szLoop3 (m.drop k) l') ∧ w = wr)
    case atStart => exact ⟨0, _, rfl, rfl, by omega, by omega, by omega, H0, rfl⟩
    case round =>
      obtain ⟨k, l', rfl, rfl, hk, h2, h3, H, rfl⟩ := hrel
      by_cases hlt : k < m.length
      · obtain ⟨b, o, rfl, hb, hc⟩ := hcell (by omega)
        obtain ⟨r, hr, hd⟩ := at_lt hlt
        obtain ⟨u, hu, hru⟩ := hc k r hr
        have H1 := Lib.hid (show szSSS m l = if szSS r l' < 0 then -1 else szLoop3 (m.drop (k + 1)) (szSS r l') from by rw [H.out, hd]; rfl)
        have hbd := szSS_bd r l' h2
        clear H hc hd hcell hr H0
        generalize hs : szSS r l' = s at H1 hbd
        have hcon := szIntSS_c (l := l') hru h2 h3
        rw [hs] at hcon
        have Hcon := Lib.hid hcon
        clear hcon hs hru
        by_cases h4 : s < 0
        · go_wp2_with (go_at_call 22; refine Hcon.out.mono ?_; rintro e w' ⟨rfl, rfl⟩)
          go_ret
          exact ⟨by rw [H1.out, if_pos h4]; rfl, rfl⟩
        · go_wp2_with (go_at_call 22; refine Hcon.out.mono ?_; rintro e w' ⟨rfl, rfl⟩)
          go_roundg (m.length - (k + 1))
          case measure => omega
          case rel => exact ⟨k + 1, s, by go_num, rfl, by omega, by omega, by omega, Lib.hid (by rw [H1.out, if_neg (by omega)]), rfl⟩
      · have H1 := Lib.hid (show szSSS m l = l' from by rw [H.out, drop_len hlt]; rfl)
        clear H
        go_wp2
        go_ret
        exact ⟨by rw [H1.out]; rfl, rfl⟩
set_option maxHeartbeats 400000 in
theorem toIntSSS_c {w : World} {v : Value} {m : List (List (List Int))} (h : Tabs w v m) (hsz : m.length ≤ 1048576) (hsr : ∀ t, t ∈ m → t.length ≤ 1048576 ∧ ∀ r, r ∈ t → r.length ≤ 1048576) :
    Calls Try.prog 34 #[v] w (Makes (OTabs 3 78 35) w m) := by
  have h' := h
  obtain ⟨a, c, rfl, _, _, hcell⟩ := h.shape
  clear h
  obtain ⟨n, hn⟩ : ∃ n, n = m.length := ⟨_, rfl⟩
  rw [← hn] at hsz hcell ⊢
  have Hn := Lib.hid hn
  have Hsr := Lib.hid hsr
  clear hn hsr h'
  have hmk := run_make_row' (P := Try.prog) 46 35 (.slice none 0 0) 24 Try.underlying46 infoT rfl .i64 .i64 n (by omega) (by omega)
  go_enter Try.func34, Try.ntmps34
  go_wp2
  go_loopg [4] n (fun g i wr => ∃ (k : Nat), i = .int .i64 k ∧ k + g = n ∧ New (OTabs 3 78 35) w.heap.size wr (.slice (some ⟨w.heap.size, 0, none⟩) n n) (m.take k ++ List.replicate (n - k) []) ∧ Below w.heap.size w wr)
  case atStart => exact ⟨0, rfl, by omega, by simpa using New.made 35 w (.slice none 0 0) [] n (Nat.le_refl _) (by omega) OwnOf.nil, (Below.refl _ _).alloc (Nat.le_refl _) _⟩
  case round =>
    obtain ⟨k, rfl, hk, hnew, hbel⟩ := hrel
    by_cases hlt : k < n
    · obtain ⟨b, o, rfl, hb, hx0⟩ := hcell (by omega)
      obtain ⟨x, hx, _⟩ := at_lt (xs := m) (k := k) (by have := Hn.out; omega)
      obtain ⟨u, hu, hr⟩ := hx0 k x hx
      have hu1 : wr.cell? ⟨b, o + k, none⟩ = some u := (hbel.cell (p := ⟨b, o + k, none⟩) hb).trans hu
      have Hc := Lib.hid (toIntSS_c (Tab.frame _ _ _ _ hr hbel) (Hsr.out x (List.mem_of_getElem? hx)).1 (Hsr.out x (List.mem_of_getElem? hx)).2)
      obtain ⟨b', c', u', hv, _, _, hlt', hcl, hfr, _, hst⟩ := hnew.at (OTab.kept _ _) (fill_at m [] k n Hn.out hlt)
      obtain rfl : b' = w.heap.size := by simp at hv; exact hv.1.symm
      clear hv
      have Hst := Lib.hid hst
      have Hx := Lib.hid hx
      clear hst hx hu hx0 hcell hmk hr
      go_wp2_with (go_at_call 24; refine Hc.out.mono ?_; rintro e w1 ⟨r, rfl, hr1, hb1⟩; obtain ⟨ra, rn, rc, rfl⟩ := hr1.slice; have hcl1 := (hb1.cell (p := ⟨w.heap.size, k, none⟩) hlt').trans hcl; have hfr1 := (hb1.frozen (p := ⟨w.heap.size, k, none⟩) hlt').trans hfr)
      go_roundg (n - (k + 1))
      case measure => omega
      case rel =>
        have hst1 := Hst.out _ _ _ hb1 hr1
        rw [fill_step m [] k n Hn.out hlt x Hx.out] at hst1
        exact ⟨k + 1, by go_num, by omega, hst1, (hbel.trans (hb1.mono hbel.size)).setCell (p := ⟨w.heap.size, k, none⟩) (Nat.le_refl _) _⟩
    · have e : k = n := by omega
      subst e
      rw [Nat.sub_self, List.replicate_zero, List.append_nil, List.take_of_length_le (by have := Hn.out; omega)] at hnew
      clear hcell hmk
      go_wp2
      go_ret
      exact ⟨_, rfl, hnew, hbel⟩
def eqLoop3 : List (List (List Int)) → List (List (List Int)) → Bool
  | x :: xs, y :: ys => if x = y then eqLoop3 xs ys else false
  | _, _ => true

theorem eqLoop3_iff (xs ys : List (List (List Int))) (h : xs.length = ys.length) : eqLoop3 xs ys = decide (xs = ys) := by
  induction xs generalizing ys with
  | nil => cases ys <;> simp_all [eqLoop3]
  | cons a l ih =>
    cases ys with
    | nil => simp at h
    | cons b bs =>
      unfold eqLoop3
      rw [ih bs (by simpa using h)]
      by_cases e : a = b <;> simp [e]

set_option maxHeartbeats 400000 in
theorem eqIntSSS_c {w : World} {v1 v2 : Value} {xs ys : List (List (List Int))} (h1 : Tabs w v1 xs) (h2 : Tabs w v2 ys) :
    Calls Try.prog 37 #[v1, v2] w (Reads w (.bool (decide (xs = ys)))) := by
  have hlen1 := h1.len
  have hlen2 := h2.len
  obtain ⟨a1, c1, rfl, _, _, hc1⟩ := h1.shape
  obtain ⟨a2, c2, rfl, _, _, hc2⟩ := h2.shape
  clear h1 h2
  by_cases hl : xs.length = ys.length
  · have H0 := Lib.hid (show decide (xs = ys) = eqLoop3 (xs.drop 0) (ys.drop 0) from (eqLoop3_iff xs ys hl).symm)
    have hl2 := Lib.hid hl
    obtain ⟨n, hn⟩ : ∃ n, n = xs.length := ⟨_, rfl⟩
    rw [← hl, ← hn]
    have hnb : n ≤ 9223372036854775807 := by omega
    have hl3 := Lib.hid hn
    clear hl hn
    go_enter Try.func37, Try.ntmps37
    go_wp2
    go_loopg [5] n (fun g i wr => ∃ (k : Nat), i = .int .i64 k ∧ k + g = n ∧ Hid (decide (xs = ys) = eqLoop3 (xs.drop k) (ys.drop k)) ∧ Drawn w wr)
    case atStart => exact ⟨0, rfl, by omega, H0, Drawn.refl _⟩
    case round =>
      obtain ⟨k, rfl, hk, H, hdr⟩ := hrel
      by_cases hlt : k < n
      · obtain ⟨b1, o1, rfl, _, hx1⟩ := hc1 (by have := hl3.out; omega)
        obtain ⟨b2, o2, rfl, _, hx2⟩ := hc2 (by have := hl3.out; have := hl2.out; omega)
        obtain ⟨x, hx, hdx⟩ := at_lt (xs := xs) (k := k) (by have := hl3.out; omega)
        obtain ⟨y, hy, hdy⟩ := at_lt (xs := ys) (k := k) (by have := hl3.out; have := hl2.out; omega)
        obtain ⟨u1, hu1, hr1⟩ := hx1 k x hx
        obtain ⟨u2, hu2, hr2⟩ := hx2 k y hy
        rw [← hdr.cell] at hu1 hu2
        have H1 := Lib.hid (show decide (xs = ys) = if x = y then eqLoop3 (xs.drop (k + 1)) (ys.drop (k + 1)) else false from by rw [H.out, hdx, hdy]; rfl)
        have hi1 : (k : Int) < (n : Int) := by omega
        have Hc := Lib.hid (fun n => Reads.quiet (eqIntSS_c ((hdr.read Tab.frame hr1).dn n) ((hdr.read Tab.frame hr2).dn n)))
        clear H hx hdx hy hdy hx1 hx2 hc1 hc2 H0 hr1 hr2
        by_cases hxy : x = y
        · have H2 := Lib.hid (show decide (xs = ys) = eqLoop3 (xs.drop (k + 1)) (ys.drop (k + 1)) from by rw [H1.out, if_pos hxy])
          have hd : decide (x = y) = true := by simp [hxy]
          rw [hd] at Hc
          clear hxy H1 hd
          go_wp2
          go_quiet ((go_at_call 27; exact Hc.out _))
          go_wp2
          go_roundg (n - (k + 1))
          case measure => omega
          case rel => exact ⟨k + 1, by go_num, by omega, H2, hdr.drewN _⟩
        · have H2 := Lib.hid (show decide (xs = ys) = false from by rw [H1.out, if_neg hxy])
          have hd : decide (x = y) = false := by simp [hxy]
          rw [hd] at Hc
          clear hxy H1 hd
          go_wp2
          go_quiet ((go_at_call 27; exact Hc.out _))
          go_wp2
          go_ret
          exact ⟨by rw [H2.out]; rfl, hdr.drewN _⟩
      · have H1 := Lib.hid (show decide (xs = ys) = true from by rw [H.out, drop_len (by have := hl3.out; omega)]; rfl)
        clear H
        go_wp2
        go_ret
        exact ⟨by rw [H1.out]; rfl, hdr⟩
  · have H := Lib.hid (show decide (xs = ys) = false from by simp; intro h; exact hl (by rw [h]))
    have hl1 : ((xs.length : Int) != ys.length) = true := by simp; omega
    go_enter Try.func37, Try.ntmps37
    go_wp2
    go_ret
    exact ⟨by rw [H.out]; rfl, Drawn.refl _⟩
theorem eqIntSSS_same {w : World} {v1 v2 : Value} {xs : List (List (List Int))} (h1 : Tabs w v1 xs) (h2 : Tabs w v2 xs) : Calls Try.prog 37 #[v1, v2] w (Reads w (.bool true)) := by
  have := eqIntSSS_c h1 h2
  simpa using this
end Go.Proofs.Ytjgiobapdkdhpaa
