/-
  PartsOf, the program's: sums, the predicate, the search.
-/
import Derived.Test.YtdohepngandajaaRows
import Derived.Test.YtdohepngandajaaBase
import Derived.Test.YtdohepngandajaaPartsM
import Derived.IntWalk
namespace Go.Sd
open Go.RowKit Go.Deep
def Small (l : List Int) : Prop := l.length ≤ 4 ∧ ∀ x, x ∈ l → 0 ≤ x ∧ x ≤ 3
theorem isum_bd : ∀ {l : List Int}, (∀ x, x ∈ l → 0 ≤ x ∧ x ≤ 3) → 0 ≤ isum l ∧ isum l ≤ 3 * (l.length : Int)
  | [], _ => by simp [isum]
  | x :: r, h => by
    have h1 := h x (by simp)
    have h2 := isum_bd (l := r) fun y hy => h y (List.mem_cons_of_mem _ hy)
    simp only [isum, List.length_cons]; omega
def findL (p : List Int → Bool) : Tbl → Nat → Int
  | [], _ => -1
  | x :: xs, k => if p x = true then (k : Int) else findL p xs (k + 1)
end Go.Sd
namespace Go.Proofs.Ytdohepngandajaa
open Go.RowKit Go.Deep Go.Sd
set_option maxHeartbeats 400000 in
theorem total_c {w : World} {v : Value} {xs : List Int} (h : Ints w v xs) (hs : Small xs) :
    Calls Try.prog 158 #[v] w fun e w' => e = .returned (.int .i64 (isum xs)) ∧ w = w' := by
  obtain ⟨a, c, rfl, _, _, hcell⟩ := h.shape
  clear h
  obtain ⟨hl4, hx3⟩ := hs
  obtain ⟨n, hn⟩ : ∃ n, n = xs.length := ⟨_, rfl⟩
  have Hn := Lib.hid hn
  have H0 := Lib.hid (show isum xs = 0 + isum (xs.drop 0) from by simp)
  generalize isum xs = T at H0 ⊢
  have Hx3 := Lib.hid hx3
  rw [← hn] at hl4 hcell ⊢
  clear hn hx3
  go_enter Try.func158, Try.ntmps158
  go_wp2
  go_loopg [3, 8] n (fun g s i wr => ∃ (k : Nat) (z : Int), i = .int .i64 k ∧ s = .int .i64 z ∧ k + g = n ∧ 0 ≤ z ∧ z ≤ 3 * (k : Int) ∧ Hid (T = z + isum (xs.drop k)) ∧ w = wr)
  case atStart => exact ⟨0, 0, rfl, rfl, by omega, by omega, by omega, H0, rfl⟩
  case round =>
    obtain ⟨k, z, rfl, rfl, hk, hz0, hz1, HK, rfl⟩ := hrel
    by_cases hlt : k < n
    · obtain ⟨b, o, rfl, hb, hx0⟩ := hcell (by omega)
      obtain ⟨x, hx, hd⟩ := at_lt (xs := xs) (k := k) (by have := Hn.out; omega)
      obtain ⟨u, hu, hux⟩ := hx0 k x hx
      obtain rfl : u = .int .i64 x := hux
      obtain ⟨hx1, hx2⟩ := Hx3.out x (List.mem_of_getElem? hx)
      have HK1 := Lib.hid (show T = (z + x) + isum (xs.drop (k + 1)) from by rw [HK.out, hd, isum]; omega)
      clear hx hd hx0 hcell HK H0
      go_wp2
      go_roundg (n - (k + 1))
      case measure => omega
      case rel => exact ⟨k + 1, z + x, by go_num, rfl, by omega, by omega, by omega, HK1, rfl⟩
    · have HF := Lib.hid (show T = z from by rw [HK.out, drop_len (by have := Hn.out; omega)]; simp [isum])
      clear HK H0 hcell
      go_wp2
      go_ret
      exact ⟨by rw [HF.out]; rfl, rfl⟩
set_option maxHeartbeats 1000000 in
theorem clo_c {w0 w : World} {B : Nat} {vrow vl : Value} {row l : List Int} (hB : w0.cell? ⟨B, 0, none⟩ = some vrow) (hlt : B < w0.heap.size) (hr : Ints w0 vrow row) (hs : Small row) (hb : Below w0.heap.size w0 w) (hl : Ints w vl l) (hsl : Small l) :
    Calls Try.prog 157 #[vl, .pointer (some ⟨B, 0, none⟩)] w (Reads w (.bool (!keepI row l))) := by
  have hc := (hb.cell (p := ⟨B, 0, none⟩) hlt).trans hB
  have hr2 := Ints.frame _ _ _ _ hr hb
  have Q0 := Lib.hid (fun q => Calls.quiet_of_same ((total_c (hl.dn q) hsl).mono fun e w' h => ⟨h.1, h.2.symm⟩))
  have Q1 := Lib.hid (fun q => Calls.quiet_of_same ((total_c (hr2.dn q) hs).mono fun e w' h => ⟨h.1, h.2.symm⟩))
  have H := Lib.hid (show (!keepI row l) = (decide (isum l = 0) || decide (isum l = isum row)) from by unfold keepI; simp)
  generalize (!keepI row l) = T at H ⊢
  generalize isum l = sl at Q0 H
  generalize isum row = sr at Q1 H
  obtain ⟨ra, rc, rfl, _, _, _⟩ := hr.shape
  obtain ⟨la, lc, rfl, _, _, _⟩ := hl.shape
  generalize row.length = rn at *
  generalize l.length = ln at *
  clear hr2 hr hl hs hsl hB
  by_cases h0 : sl = 0
  · have HF := Lib.hid (show T = true from by rw [H.out]; simp [h0])
    have t0 : (sl == 0) = true := by simp [h0]
    clear H h0
    go_enter Try.func157, Try.ntmps157
    go_wp2
    refine wp_region_quiet_lit (by kernel_rfl) (by kernel_rfl) ?_
    repeat (go_big_quiet_step (fail))
    go_big_quiet_step ((with_reducible exact Q0.out _))
    repeat (go_big_quiet_step (fail))
    refine wpQuiet_nil ?_
    intro _ hw'
    obtain ⟨nq, hw''⟩ := hw'
    subst hw''
    go_wp2
    go_ret
    exact ⟨by rw [HF.out]; rfl, ⟨nq, rfl⟩⟩
  · have t0 : (sl == 0) = false := by simp [h0]
    by_cases h1 : sl = sr
    · have HF := Lib.hid (show T = true from by rw [H.out]; simp [h1])
      have t1 : (sl == sr) = true := by simp [h1]
      clear H h0 h1
      go_enter Try.func157, Try.ntmps157
      go_wp2
      refine wp_region_quiet_lit (by kernel_rfl) (by kernel_rfl) ?_
      repeat (go_big_quiet_step (fail))
      go_big_quiet_step ((with_reducible exact Q0.out _))
      repeat (go_big_quiet_step (fail))
      go_big_quiet_step ((with_reducible exact Q0.out _))
      repeat (go_big_quiet_step (fail))
      go_big_quiet_step ((with_reducible exact Q1.out _))
      repeat (go_big_quiet_step (fail))
      refine wpQuiet_nil ?_
      intro _ hw'
      obtain ⟨nq, hw''⟩ := hw'
      subst hw''
      go_wp2
      go_ret
      exact ⟨by rw [HF.out]; rfl, ⟨nq, rfl⟩⟩
    · have HF := Lib.hid (show T = false from by rw [H.out]; simp [h0, h1])
      have t1 : (sl == sr) = false := by simp [h1]
      clear H h0 h1
      go_enter Try.func157, Try.ntmps157
      go_wp2
      refine wp_region_quiet_lit (by kernel_rfl) (by kernel_rfl) ?_
      repeat (go_big_quiet_step (fail))
      go_big_quiet_step ((with_reducible exact Q0.out _))
      repeat (go_big_quiet_step (fail))
      go_big_quiet_step ((with_reducible exact Q0.out _))
      repeat (go_big_quiet_step (fail))
      go_big_quiet_step ((with_reducible exact Q1.out _))
      repeat (go_big_quiet_step (fail))
      refine wpQuiet_nil ?_
      intro _ hw'
      obtain ⟨nq, hw''⟩ := hw'
      subst hw''
      go_wp2
      go_ret
      exact ⟨by rw [HF.out]; rfl, ⟨nq, rfl⟩⟩
set_option maxHeartbeats 1000000 in
theorem IndexFunc_c {w0 w : World} {B : Nat} {vrow v : Value} {row : List Int} {xs : Tbl} (hB : w0.cell? ⟨B, 0, none⟩ = some vrow) (hlt : B < w0.heap.size) (hr : Ints w0 vrow row) (hs : Small row) (hb : Below w0.heap.size w0 w) (h : Tab w v xs) (hsx : ∀ l, l ∈ xs → Small l) :
    Calls Try.prog 199 #[v, .func (.func 157) #[] #[.pointer (some ⟨B, 0, none⟩)]] w (Reads w (.int .i64 (findL (fun l => !keepI row l) xs 0))) := by
  have hlen := h.len
  obtain ⟨a, c, rfl, _, _, hcell⟩ := h.shape
  clear h
  have H0 := Lib.hid (show findL (fun l => !keepI row l) xs 0 = findL (fun l => !keepI row l) (xs.drop 0) 0 from rfl)
  generalize findL (fun l => !keepI row l) xs 0 = T at H0 ⊢
  have Hclo := Lib.hid (fun (wr : World) (hd : Drawn w wr) vl l (hl : Ints wr vl l) (hsl : Small l) => clo_c hB hlt hr hs (hb.trans (hd.below _)) hl hsl)
  have Hsx := Lib.hid hsx
  obtain ⟨n, hn⟩ : ∃ n, n = xs.length := ⟨_, rfl⟩
  have Hn := Lib.hid hn
  rw [← hn] at hlen hcell ⊢
  clear hn hB hr hs hb hsx hlt
  go_enter Try.func199, Try.ntmps199
  go_wp2
  go_loopg [8] n (fun g i wr => ∃ (k : Nat), i = .int .i64 k ∧ k + g = n ∧ Hid (T = findL (fun l => !keepI row l) (xs.drop k) k) ∧ Drawn w wr)
  case atStart => exact ⟨0, rfl, by omega, H0, Drawn.refl _⟩
  case round =>
    obtain ⟨k, rfl, hk, HK, hdr⟩ := hrel
    by_cases hlt : k < n
    · obtain ⟨b, o, rfl, hb, hx0⟩ := hcell (by omega)
      obtain ⟨x, hx, hd⟩ := at_lt (xs := xs) (k := k) (by have := Hn.out; omega)
      obtain ⟨u, hu, hux⟩ := hx0 k x hx
      rw [← hdr.cell] at hu
      have Hc := Lib.hid (Hclo.out wr hdr u x (hdr.read Ints.frame hux) (Hsx.out x (List.mem_of_getElem? hx)))
      have HK1 := Lib.hid (show T = if (!keepI row x) = true then (k : Int) else findL (fun l => !keepI row l) (xs.drop (k + 1)) (k + 1) from by rw [HK.out, hd]; rfl)
      obtain ⟨ua, uc, rfl, _, _, _⟩ := hux.shape
      generalize x.length = xn at *
      have Hdr := Lib.hid hdr
      have hkn : (k : Int) < (n : Int) := by omega
      clear hx hd hx0 hcell HK H0 hux hdr
      generalize (!keepI row x) = d at Hc HK1
      cases d with
      | true =>
        have HF := Lib.hid (show T = (k : Int) from by rw [HK1.out, if_pos rfl])
        go_wp2_with fail
        refine Hc.out.mono ?_
        rintro e w2 ⟨rfl, hd2⟩
        have HZ := Lib.hid (Hdr.out.trans hd2)
        clear hd2 HK1
        go_wp2
        go_ret
        exact ⟨by rw [HF.out]; rfl, HZ.out⟩
      | false =>
        have HF := Lib.hid (show T = findL (fun l => !keepI row l) (xs.drop (k + 1)) (k + 1) from by rw [HK1.out, if_neg (by simp)])
        go_wp2_with fail
        refine Hc.out.mono ?_
        rintro e w2 ⟨rfl, hd2⟩
        have HZ := Hdr.out.trans hd2
        clear hd2 HK1
        go_wp2
        go_roundg (n - (k + 1))
        case measure => omega
        case rel => exact ⟨k + 1, by go_num, by omega, HF, HZ⟩
    · have HF := Lib.hid (show T = -1 from by rw [HK.out, drop_len (by have := Hn.out; omega)]; rfl)
      clear HK H0 hcell
      go_wp2
      go_ret
      exact ⟨by rw [HF.out]; rfl, hdr⟩
end Go.Proofs.Ytdohepngandajaa
