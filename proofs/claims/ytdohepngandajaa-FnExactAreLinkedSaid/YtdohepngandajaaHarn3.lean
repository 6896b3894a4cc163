/-
  The laws' helpers on lists of tables.
-/
import Derived.Test.YtdohepngandajaaRows
import Derived.Test.YtdohepngandajaaBase
import Derived.Test.YtdohepngandajaaHarn
import Derived.Test.YtdohepngandajaaLawKit
namespace Go.Proofs.Ytdohepngandajaa
open Go.RowKit Go.Deep Go.Sd

theorem infoT : (Try.prog.info? 41).map (fun i => (i.zero, i.size, i.bytes)) = some (some (.slice none 0 0), 1, 24) := by kernel_rfl
def szLoop3 : List (List (List Int)) → Int → Int
  | [], l => l
  | t :: ts, l => if szSS t l < 0 then -1 else szLoop3 ts (szSS t l)
def szSSS (m : List (List (List Int))) (l : Int) : Int := if l - m.length < 0 then -1 else szLoop3 m (l - m.length)
theorem szLoop3_bd : ∀ (m : List (List (List Int))) (l : Int), 0 ≤ l → -1 ≤ szLoop3 m l ∧ szLoop3 m l ≤ l ∧ (0 ≤ szLoop3 m l → ∀ t, t ∈ m → (t.length : Int) ≤ l ∧ ∀ r, r ∈ t → (r.length : Int) ≤ l)
  | [], l, h => ⟨by unfold szLoop3; omega, by unfold szLoop3; omega, fun _ t ht => by cases ht⟩
  | t :: ts, l, h => by
    have h1 := szSS_bd t l h
    unfold szLoop3
    by_cases hn : szSS t l < 0
    · rw [if_pos hn]; exact ⟨by omega, by omega, fun h0 => by omega⟩
    · rw [if_neg hn]
      have h2 := szLoop3_bd ts (szSS t l) (by omega)
      refine ⟨h2.1, by omega, fun h0 u hu => ?_⟩
      rcases List.mem_cons.1 hu with rfl | hu
      · have h3 := h1.2.2 (by omega)
        exact ⟨h3.1, fun r hr => h3.2 r hr⟩
      · have h3 := h2.2.2 h0 u hu
        exact ⟨by omega, fun r hr => by have := h3.2 r hr; omega⟩
theorem szSSS_bd (m : List (List (List Int))) (l : Int) (h : 0 ≤ l) : -1 ≤ szSSS m l ∧ szSSS m l ≤ l ∧ (0 ≤ szSSS m l → (m.length : Int) ≤ l ∧ ∀ t, t ∈ m → (t.length : Int) ≤ l ∧ ∀ r, r ∈ t → (r.length : Int) ≤ l) := by
  unfold szSSS
  by_cases hn : l - m.length < 0
  · rw [if_pos hn]; exact ⟨by omega, by omega, fun h0 => by omega⟩
  · rw [if_neg hn]
    have h2 := szLoop3_bd m (l - m.length) (by omega)
    refine ⟨h2.1, by omega, fun h0 => ⟨by omega, fun t ht => ?_⟩⟩
    have h3 := h2.2.2 h0 t ht
    exact ⟨by omega, fun r hr => by have := h3.2 r hr; omega⟩
def eqLoop3 : List (List (List Int)) → List (List (List Int)) → Bool
  | x :: xs, y :: ys => if x = y then eqLoop3 xs ys else false
  | _, _ => true

theorem eqLoop3_iff (xs ys : List (List (List Int))) (h : xs.length = ys.length) : eqLoop3 xs ys = decide (xs = ys) := by
  induction xs generalizing ys with
  | nil => cases ys <;> simp_all [eqLoop3]
  | cons a l ih =>
    cases ys with
    | nil => simp at h
    | cons b bs =>
      unfold eqLoop3
      rw [ih bs (by simpa using h)]
      by_cases e : a = b <;> simp [e]

set_option maxHeartbeats 400000 in
theorem eqIntSSS_c {w : World} {v1 v2 : Value} {xs ys : List (List (List Int))} (h1 : Tabs w v1 xs) (h2 : Tabs w v2 ys) :
    Calls Try.prog 33 #[v1, v2] w (Reads w (.bool (decide (xs = ys)))) := by
  have hlen1 := h1.len
  have hlen2 := h2.len
  obtain ⟨a1, c1, rfl, _, _, hc1⟩ := h1.shape
  obtain ⟨a2, c2, rfl, _, _, hc2⟩ := h2.shape
  clear h1 h2
  by_cases hl : xs.length = ys.length
  · have H0 := Lib.hid (show decide (xs = ys) = eqLoop3 (xs.drop 0) (ys.drop 0) from (eqLoop3_iff xs ys hl).symm)
    have hl2 := Lib.hid hl
    obtain ⟨n, hn⟩ : ∃ n, n = xs.length := ⟨_, rfl⟩
    rw [← hl, ← hn]
    have hnb : n ≤ 9223372036854775807 := by omega
    have hl3 := Lib.hid hn
    clear hl hn
    go_enter Try.func33, Try.ntmps33
    go_wp2
    go_loopg [5] n (fun g i wr => ∃ (k : Nat), i = .int .i64 k ∧ k + g = n ∧ Hid (decide (xs = ys) = eqLoop3 (xs.drop k) (ys.drop k)) ∧ Drawn w wr)
    case atStart => exact ⟨0, rfl, by omega, H0, Drawn.refl _⟩
    case round =>
      obtain ⟨k, rfl, hk, H, hdr⟩ := hrel
      by_cases hlt : k < n
      · obtain ⟨b1, o1, rfl, _, hx1⟩ := hc1 (by have := hl3.out; omega)
        obtain ⟨b2, o2, rfl, _, hx2⟩ := hc2 (by have := hl3.out; have := hl2.out; omega)
        obtain ⟨x, hx, hdx⟩ := at_lt (xs := xs) (k := k) (by have := hl3.out; omega)
        obtain ⟨y, hy, hdy⟩ := at_lt (xs := ys) (k := k) (by have := hl3.out; have := hl2.out; omega)
        obtain ⟨u1, hu1, hr1⟩ := hx1 k x hx
        obtain ⟨u2, hu2, hr2⟩ := hx2 k y hy
        rw [← hdr.cell] at hu1 hu2
        have H1 := Lib.hid (show decide (xs = ys) = if x = y then eqLoop3 (xs.drop (k + 1)) (ys.drop (k + 1)) else false from by rw [H.out, hdx, hdy]; rfl)
        have hi1 : (k : Int) < (n : Int) := by omega
        have Hc := Lib.hid (fun n => Reads.quiet (eqIntSS_c ((hdr.read Tab.frame hr1).dn n) ((hdr.read Tab.frame hr2).dn n)))
        clear H hx hdx hy hdy hx1 hx2 hc1 hc2 H0 hr1 hr2
        by_cases hxy : x = y
        · have H2 := Lib.hid (show decide (xs = ys) = eqLoop3 (xs.drop (k + 1)) (ys.drop (k + 1)) from by rw [H1.out, if_pos hxy])
          have hd : decide (x = y) = true := by simp [hxy]
          rw [hd] at Hc
          clear hxy H1 hd
          go_wp2
          go_quiet ((go_at_call 34; exact Hc.out _))
          go_wp2
          go_roundg (n - (k + 1))
          case measure => omega
          case rel => exact ⟨k + 1, by go_num, by omega, H2, hdr.drewN _⟩
        · have H2 := Lib.hid (show decide (xs = ys) = false from by rw [H1.out, if_neg hxy])
          have hd : decide (x = y) = false := by simp [hxy]
          rw [hd] at Hc
          clear hxy H1 hd
          go_wp2
          go_quiet ((go_at_call 34; exact Hc.out _))
          go_wp2
          go_ret
          exact ⟨by rw [H2.out]; rfl, hdr.drewN _⟩
      · have H1 := Lib.hid (show decide (xs = ys) = true from by rw [H.out, drop_len (by have := hl3.out; omega)]; rfl)
        clear H
        go_wp2
        go_ret
        exact ⟨by rw [H1.out]; rfl, hdr⟩
  · have H := Lib.hid (show decide (xs = ys) = false from by simp; intro h; exact hl (by rw [h]))
    have hl1 : ((xs.length : Int) != ys.length) = true := by simp; omega
    go_enter Try.func33, Try.ntmps33
    go_wp2
    go_ret
    exact ⟨by rw [H.out]; rfl, Drawn.refl _⟩
theorem eqIntSSS_same {w : World} {v1 v2 : Value} {xs : List (List (List Int))} (h1 : Tabs w v1 xs) (h2 : Tabs w v2 xs) : Calls Try.prog 33 #[v1, v2] w (Reads w (.bool true)) := by
  have := eqIntSSS_c h1 h2
  simpa using this
end Go.Proofs.Ytdohepngandajaa
