/-
  What a table is for a product; TableTimes, the program's and the reference's.
-/
import Derived.Test.YtjgiobapdkdhpaaRows
import Derived.Test.YtjgiobapdkdhpaaBase
import Derived.Test.YtjgiobapdkdhpaaMat
import Derived.Test.YtjgiobapdkdhpaaTimes
namespace Go.Proofs.Ytjgiobapdkdhpaa
open Go.RowKit Go.Deep Go.Sd

def tabEnt (x : Int) : Bool := decide (-1000 ≤ x ∧ x ≤ 1000)
def tabRow (n : Nat) (r : List Int) : Bool := decide (r.length = n) && r.all tabEnt
def isTab (l : Nat) (m : List (List Int)) : Bool := decide (1 ≤ m.length ∧ m.length ≤ 9 ∧ 1 ≤ l ∧ l ≤ 9) && m.all (tabRow l)
theorem tabRow_no {n : Nat} {r : List Int} (h : r.length ≠ n) : tabRow n r = false := by unfold tabRow; simp [h]
theorem tabRow_yes {n : Nat} {r : List Int} (h : r.length = n) : tabRow n r = r.all tabEnt := by unfold tabRow; simp [h]

set_option maxHeartbeats 400000 in
theorem isTable_c {w : World} {v : Value} {m : List (List Int)} {l : Nat} (h : Tab w v m) (hl0 : l ≤ 9223372036854775807) :
    Calls Try.prog 151 #[v, .int .i64 l] w fun e w' => e = .returned (.bool (isTab l m)) ∧ w = w' := by
  have hlen := h.len
  obtain ⟨a, c, rfl, _, _, hcell⟩ := h.shape
  clear h
  by_cases hs : 1 ≤ m.length ∧ m.length ≤ 9 ∧ 1 ≤ l ∧ l ≤ 9
  · obtain ⟨hs1, hs2, hs3, hs4⟩ := hs
    have H0 := Lib.hid (show isTab l m = (m.drop 0).all (tabRow l) from by unfold isTab; simp [hs1, hs2, hs3, hs4])
    go_enter Try.func151, Try.ntmps151
    go_wp2
    go_loopg [27] (m.length) (fun g i wr => ∃ (k : Nat), i = .int .i64 k ∧ k + g = m.length ∧ Hid (isTab l m = (m.drop k).all (tabRow l)) ∧ w = wr)
    case atStart => exact ⟨0, rfl, by omega, H0, rfl⟩
    case round =>
      obtain ⟨k, rfl, hk, H, rfl⟩ := hrel
      by_cases hlt : k < m.length
      · obtain ⟨b, o, rfl, hb, hx0⟩ := hcell (by omega)
        obtain ⟨r, hr, hd⟩ := at_lt hlt
        obtain ⟨u, hu, hru⟩ := hx0 k r hr
        have hrl := hru.len
        obtain ⟨ra, rc, rfl, _, _, hrc⟩ := hru.shape
        have H1 := Lib.hid (show isTab l m = (tabRow l r && (m.drop (k + 1)).all (tabRow l)) from by rw [H.out, hd]; rfl)
        clear H hr hd hx0 hcell hru H0
        by_cases hl : r.length = l
        · have H2 := Lib.hid (show isTab l m = ((r.drop 0).all tabEnt && (m.drop (k + 1)).all (tabRow l)) from by rw [H1.out, tabRow_yes hl]; rfl)
          have t1 : ((r.length : Int) != (l : Int)) = false := by simp [hl]
          clear H1 hl
          go_wp2
          go_loopg [37] (r.length) (fun g i wr => ∃ (j : Nat), i = .int .i64 j ∧ j + g = r.length ∧ Hid (isTab l m = ((r.drop j).all tabEnt && (m.drop (k + 1)).all (tabRow l))) ∧ w = wr)
          case atStart => exact ⟨0, rfl, by omega, H2, rfl⟩
          case round =>
            obtain ⟨j, rfl, hj, H, rfl⟩ := hrel
            clear H2
            by_cases hlt2 : j < r.length
            · obtain ⟨b2, o2, rfl, hb2, hx2⟩ := hrc (by omega)
              obtain ⟨x, hx, hdx⟩ := at_lt hlt2
              obtain ⟨u2, hu2, rfl⟩ := hx2 j x hx
              have H1 := Lib.hid (show isTab l m = (tabEnt x && (r.drop (j + 1)).all tabEnt && (m.drop (k + 1)).all (tabRow l)) from by rw [H.out, hdx]; rfl)
              clear H hx hdx hx2 hrc
              by_cases hx1 : x < -1000
              · have H3 := Lib.hid (show isTab l m = false from by rw [H1.out, show tabEnt x = false from by unfold tabEnt; simp; omega]; rfl)
                clear H1
                go_wp2
                go_ret
                exact ⟨by rw [H3.out]; rfl, rfl⟩
              by_cases hx2 : 1000 < x
              · have H3 := Lib.hid (show isTab l m = false from by rw [H1.out, show tabEnt x = false from by unfold tabEnt; simp; omega]; rfl)
                clear H1
                go_wp2
                go_ret
                exact ⟨by rw [H3.out]; rfl, rfl⟩
              have H3 := Lib.hid (show isTab l m = ((r.drop (j + 1)).all tabEnt && (m.drop (k + 1)).all (tabRow l)) from by rw [H1.out, show tabEnt x = true from by unfold tabEnt; simp; omega]; rfl)
              clear H1
              go_wp2
              go_roundg (r.length - (j + 1))
              case measure => omega
              case rel => exact ⟨j + 1, by go_num, by omega, H3, rfl⟩
            · have H1 := Lib.hid (show isTab l m = (m.drop (k + 1)).all (tabRow l) from by rw [H.out, drop_len hlt2]; rfl)
              clear H
              go_wp2
              go_roundg (m.length - (k + 1))
              case measure => omega
              case rel => exact ⟨k + 1, by go_num, by omega, H1, rfl⟩
        · have H2 := Lib.hid (show isTab l m = false from by rw [H1.out, tabRow_no hl]; rfl)
          have t1 : ((r.length : Int) != (l : Int)) = true := by simp; omega
          clear H1
          go_wp2
          go_ret
          exact ⟨by rw [H2.out]; rfl, rfl⟩
      · have H1 := Lib.hid (show isTab l m = true from by rw [H.out, drop_len hlt]; rfl)
        clear H
        go_wp2
        go_ret
        exact ⟨by rw [H1.out]; rfl, rfl⟩
  · have H := Lib.hid (show isTab l m = false from by unfold isTab; simp [hs])
    by_cases h1 : m.length < 1
    · go_enter Try.func151, Try.ntmps151
      go_wp2
      go_ret
      exact ⟨by rw [H.out]; rfl, rfl⟩
    by_cases h2 : 9 < m.length
    · go_enter Try.func151, Try.ntmps151
      go_wp2
      go_ret
      exact ⟨by rw [H.out]; rfl, rfl⟩
    by_cases h3 : l < 1
    · go_enter Try.func151, Try.ntmps151
      go_wp2
      go_ret
      exact ⟨by rw [H.out]; rfl, rfl⟩
    have h4 : 9 < l := by omega
    go_enter Try.func151, Try.ntmps151
    go_wp2
    go_ret
    exact ⟨by rw [H.out]; rfl, rfl⟩

set_option maxHeartbeats 800000 in
theorem l17Table_c {w : World} {v : Value} {m : List (List Int)} {l : Nat} (h : Tab w v m) (hl0 : l ≤ 9223372036854775807) :
    Calls Try.prog 149 #[v, .int .i64 l] w fun e w' => e = .returned (.bool (isTab l m)) ∧ w = w' := by
  have hlen := h.len
  obtain ⟨a, c, rfl, _, _, hcell⟩ := h.shape
  clear h
  have H0 := Lib.hid (show isTab l m = (decide (1 ≤ m.length ∧ m.length ≤ 9 ∧ 1 ≤ l ∧ l ≤ 9) && (m.drop 0).all (tabRow l)) from rfl)
  go_enter Try.func149, Try.ntmps149
  go_wp2
  go_loopg [5] (m.length) (fun g i wr => ∃ (k : Nat), i = .int .i64 k ∧ k + g = m.length ∧ Hid (isTab l m = (decide (1 ≤ m.length ∧ m.length ≤ 9 ∧ 1 ≤ l ∧ l ≤ 9) && (m.drop k).all (tabRow l))) ∧ w = wr)
  case atStart => exact ⟨0, rfl, by omega, H0, rfl⟩
  case round =>
    obtain ⟨k, rfl, hk, H, rfl⟩ := hrel
    by_cases hlt : k < m.length
    · obtain ⟨b, o, rfl, hb, hx0⟩ := hcell (by omega)
      obtain ⟨r, hr, hd⟩ := at_lt hlt
      obtain ⟨u, hu, hru⟩ := hx0 k r hr
      have hrl := hru.len
      obtain ⟨ra, rc, rfl, _, _, hrc⟩ := hru.shape
      have H1 := Lib.hid (show isTab l m = (decide (1 ≤ m.length ∧ m.length ≤ 9 ∧ 1 ≤ l ∧ l ≤ 9) && (tabRow l r && (m.drop (k + 1)).all (tabRow l))) from by rw [H.out, hd]; rfl)
      clear H hr hd hx0 hcell hru H0
      by_cases hl : r.length = l
      · have H2 := Lib.hid (show isTab l m = (decide (1 ≤ m.length ∧ m.length ≤ 9 ∧ 1 ≤ l ∧ l ≤ 9) && ((r.drop 0).all tabEnt && (m.drop (k + 1)).all (tabRow l))) from by rw [H1.out, tabRow_yes hl]; rfl)
        have t1 : ((r.length : Int) != (l : Int)) = false := by simp [hl]
        have Hl := Lib.hid hl
        have hle : l ≤ r.length := by omega
        clear H1 hl
        go_wp2
        go_loopg [6] l (fun g i wr => ∃ (j : Nat), i = .int .i64 j ∧ j + g = l ∧ Hid (isTab l m = (decide (1 ≤ m.length ∧ m.length ≤ 9 ∧ 1 ≤ l ∧ l ≤ 9) && ((r.drop j).all tabEnt && (m.drop (k + 1)).all (tabRow l)))) ∧ w = wr)
        case atStart => exact ⟨0, rfl, by omega, H2, rfl⟩
        case round =>
          obtain ⟨j, rfl, hj, H, rfl⟩ := hrel
          clear H2
          by_cases hlt2 : j < l
          · obtain ⟨b2, o2, rfl, hb2, hx2⟩ := hrc (by omega)
            obtain ⟨x, hx, hdx⟩ := at_lt (xs := r) (k := j) (by omega)
            obtain ⟨u2, hu2, rfl⟩ := hx2 j x hx
            have H1 := Lib.hid (show isTab l m = (decide (1 ≤ m.length ∧ m.length ≤ 9 ∧ 1 ≤ l ∧ l ≤ 9) && (tabEnt x && (r.drop (j + 1)).all tabEnt && (m.drop (k + 1)).all (tabRow l))) from by rw [H.out, hdx]; rfl)
            clear H hx hdx hx2 hrc
            by_cases hx1 : -1000 ≤ x ∧ x ≤ 1000
            · have H3 := Lib.hid (show isTab l m = (decide (1 ≤ m.length ∧ m.length ≤ 9 ∧ 1 ≤ l ∧ l ≤ 9) && ((r.drop (j + 1)).all tabEnt && (m.drop (k + 1)).all (tabRow l))) from by rw [H1.out, show tabEnt x = true from by unfold tabEnt; simp [hx1]]; rfl)
              have Hc := Lib.hid (l1In_yes w hx1.1 hx1.2)
              clear H1 hx1
              go_wp2_with (go_at_call 75; refine Hc.out.mono ?_; rintro e w' ⟨rfl, rfl⟩)
              go_roundg (l - (j + 1))
              case measure => omega
              case rel => exact ⟨j + 1, by go_num, by omega, H3, rfl⟩
            · have H3 := Lib.hid (show isTab l m = false from by rw [H1.out, show tabEnt x = false from by unfold tabEnt; simp [hx1]]; simp)
              have Hc := Lib.hid (l1In_no (a := x) (b := -1000) (c := 1000) w (by omega))
              clear H1 hx1
              go_wp2_with (go_at_call 75; refine Hc.out.mono ?_; rintro e w' ⟨rfl, rfl⟩)
              go_ret
              exact ⟨by rw [H3.out]; rfl, rfl⟩
          · have H1 := Lib.hid (show isTab l m = (decide (1 ≤ m.length ∧ m.length ≤ 9 ∧ 1 ≤ l ∧ l ≤ 9) && (m.drop (k + 1)).all (tabRow l)) from by rw [H.out, drop_len (by have := Hl.out; omega)]; rfl)
            clear H
            go_wp2
            go_roundg (m.length - (k + 1))
            case measure => omega
            case rel => exact ⟨k + 1, by go_num, by omega, H1, rfl⟩
      · have H2 := Lib.hid (show isTab l m = false from by rw [H1.out, tabRow_no hl]; simp)
        have t1 : ((r.length : Int) != (l : Int)) = true := by simp; omega
        clear H1
        go_wp2
        go_ret
        exact ⟨by rw [H2.out]; rfl, rfl⟩
    · have H1 := Lib.hid (show isTab l m = ((decide (1 ≤ (m.length : Int)) && decide ((m.length : Int) ≤ 9)) && (decide (1 ≤ (l : Int)) && decide ((l : Int) ≤ 9))) from by
        rw [H.out, drop_len hlt]
        by_cases h1 : 1 ≤ m.length <;> by_cases h2 : m.length ≤ 9 <;> by_cases h3 : 1 ≤ l <;> by_cases h4 : l ≤ 9 <;> simp [h1, h2, h3, h4] <;> omega)
      have Hc := Lib.hid (l1In_c (m.length : Int) 1 9 w)
      have Hd := Lib.hid (l1In_c (l : Int) 1 9 w)
      clear H
      generalize (decide (1 ≤ (m.length : Int)) && decide ((m.length : Int) ≤ 9)) = B1 at H1 Hc
      generalize (decide (1 ≤ (l : Int)) && decide ((l : Int) ≤ 9)) = B2 at H1 Hd
      cases B1 with
      | false =>
        go_wp2_with fail
        refine Hc.out.mono ?_
        rintro e w' ⟨rfl, rfl⟩
        go_wp2
        go_ret
        exact ⟨by rw [H1.out]; rfl, rfl⟩
      | true =>
        go_wp2_with fail
        refine Hc.out.mono ?_
        rintro e w' ⟨rfl, rfl⟩
        go_wp2_with fail
        refine Hd.out.mono ?_
        rintro e w' ⟨rfl, rfl⟩
        go_wp2
        go_ret
        exact ⟨by rw [H1.out]; rfl, rfl⟩

def ttOk (a b : List (List Int)) : Bool := decide (b.length ≠ 0) && isTab b.length a && isTab (b.headD []).length b
def ttV (a b : List (List Int)) : List (List Int) := if ttOk a b = true then prodT a b a.length b.length (b.headD []).length else []

theorem _root_.Go.Sd.Bd.mono {B B' : Int} {m : List (List Int)} (h : Bd B m) (hb : B ≤ B') : Bd B' m := fun r hr x hx => by have := h r hr x hx; omega

theorem isTab_sq {l : Nat} {m : List (List Int)} (h : isTab l m = true) : (∀ r, r ∈ m → r.length = l) ∧ Bd 1000 m ∧ 1 ≤ m.length ∧ m.length ≤ 9 ∧ 1 ≤ l ∧ l ≤ 9 := by
  unfold isTab at h
  simp only [Bool.and_eq_true, decide_eq_true_eq, List.all_eq_true] at h
  refine ⟨fun r hr => ?_, fun r hr x hx => ?_, h.1⟩
  · have := h.2 r hr
    unfold tabRow at this
    simp at this
    exact this.1
  · have := h.2 r hr
    unfold tabRow at this
    simp at this
    have := this.2 x hx
    unfold tabEnt at this
    simpa using this

set_option maxHeartbeats 1000000 in
theorem impl_TableTimes_c {w : World} {va vb : Value} {a b : List (List Int)} (h1 : Tab w va a) (h2 : Tab w vb b) :
    Calls Try.prog 94 #[va, vb] w (Makes2 (OTab 3 78) w (ttV a b) (ttOk a b)) := by
  have hlb := h2.len
  by_cases hb0 : b.length = 0
  · have HK := Lib.hid (show ttOk a b = false from by unfold ttOk; simp [hb0])
    have HV := Lib.hid (show ttV a b = [] from by unfold ttV; rw [HK.out]; rfl)
    obtain ⟨ba, bc, rfl, _, _, _⟩ := h2.shape
    rw [hb0] at *
    rw [HK.out]
    clear h1 h2
    go_enter Try.func94, Try.ntmps94
    go_wp2
    go_ret2
    exact ⟨_, rfl, by rw [HV.out]; exact New.nil _ _, Below.refl _ _⟩
  · obtain ⟨r0, hr0, hd0⟩ := at_lt (xs := b) (k := 0) (by omega)
    have hbs := h2.shape
    obtain ⟨ba, bc, rfl, _, _, hbx⟩ := hbs
    obtain ⟨b', o', rfl, hb', hx⟩ := hbx (by omega)
    obtain ⟨u, hu, hur⟩ := hx 0 r0 hr0
    have hu0 : w.cell? ⟨b', o', none⟩ = some u := hu
    have hrl := hur.len
    obtain ⟨ua, uc, rfl, _, _, _⟩ := hur.shape
    have hhd : b.headD [] = r0 := by cases b with | nil => simp at hr0 | cons x xs => simpa using hr0
    have Hc := Lib.hid (isTable_c (l := b.length) h1 hlb)
    have Hd := Lib.hid (isTable_c (l := r0.length) h2 hrl)
    have t0 : ((b.length : Int) == 0) = false := by simp; intro h; simp [h] at hb0
    have ti : (0 : Int) < (b.length : Int) := Int.natCast_pos.2 (Nat.pos_of_ne_zero hb0)
    cases ha : isTab b.length a with
    | false =>
      have HK := Lib.hid (show ttOk a b = false from by unfold ttOk; rw [ha]; simp)
      have HV := Lib.hid (show ttV a b = [] from by unfold ttV; rw [HK.out]; rfl)
      rw [ha] at Hc
      rw [HK.out]
      clear ha h1 h2 hbx hx hr0 hd0 hhd hu hur Hd hb0
      go_enter Try.func94, Try.ntmps94
      go_wp2_with fail
      refine Hc.out.mono ?_
      rintro e w' ⟨rfl, rfl⟩
      go_wp2
      go_ret2
      exact ⟨_, rfl, by rw [HV.out]; exact New.nil _ _, Below.refl _ _⟩
    | true =>
      rw [ha] at Hc
      cases hb : isTab r0.length b with
      | false =>
        have HK := Lib.hid (show ttOk a b = false from by unfold ttOk; rw [hhd, hb]; simp)
        have HV := Lib.hid (show ttV a b = [] from by unfold ttV; rw [HK.out]; rfl)
        rw [hb] at Hd
        rw [HK.out]
        clear ha hb h1 h2 hbx hx hr0 hd0 hhd hu hur hb0
        go_enter Try.func94, Try.ntmps94
        go_wp2_with fail
        refine Hc.out.mono ?_
        rintro e w' ⟨rfl, rfl⟩
        go_wp2_with fail
        refine Hd.out.mono ?_
        rintro e w' ⟨rfl, rfl⟩
        go_wp2
        go_ret2
        exact ⟨_, rfl, by rw [HV.out]; exact New.nil _ _, Below.refl _ _⟩
      | true =>
        have HK := Lib.hid (show ttOk a b = true from by unfold ttOk; rw [hhd, ha, hb]; simp [hb0])
        have HV := Lib.hid (show ttV a b = prodT a b a.length b.length r0.length from by unfold ttV; rw [HK.out, hhd]; rfl)
        have sa := isTab_sq ha
        have sb := isTab_sq hb
        have Hm := Lib.hid (times_c h1 h2 rfl sa.1 rfl sb.1 (by omega) (by omega) (by omega) (by omega) (by omega) (by omega) (sa.2.1.mono (by omega)) (sb.2.1.mono (by omega)))
        rw [hb] at Hd
        rw [HK.out]
        clear ha hb h1 h2 hbx hx hr0 hd0 hhd hu hur hb0 sa sb
        go_enter Try.func94, Try.ntmps94
        go_wp2_with fail
        refine Hc.out.mono ?_
        rintro e w' ⟨rfl, rfl⟩
        go_wp2_with fail
        refine Hd.out.mono ?_
        rintro e w' ⟨rfl, rfl⟩
        go_wp2_with fail
        refine Hm.out.mono ?_
        rintro e w1 ⟨v1, rfl, hn1, hb1⟩
        go_wp2
        go_ret2
        exact ⟨_, rfl, by rw [HV.out]; exact hn1, hb1⟩

set_option maxHeartbeats 1000000 in
theorem spec_TableTimes_c {w : World} {va vb : Value} {a b : List (List Int)} (h1 : Tab w va a) (h2 : Tab w vb b) :
    Calls Try.prog 90 #[va, vb] w (Makes2 (OTab 3 78) w (ttV a b) (ttOk a b)) := by
  have hlb := h2.len
  by_cases hb0 : b.length = 0
  · have HK := Lib.hid (show ttOk a b = false from by unfold ttOk; simp [hb0])
    have HV := Lib.hid (show ttV a b = [] from by unfold ttV; rw [HK.out]; rfl)
    obtain ⟨ba, bc, rfl, _, _, _⟩ := h2.shape
    rw [hb0] at *
    rw [HK.out]
    clear h1 h2
    go_enter Try.func90, Try.ntmps90
    go_wp2
    go_ret2
    exact ⟨_, rfl, by rw [HV.out]; exact New.empty w (Nat.le_refl _), (Below.refl _ _).alloc (Nat.le_refl _) _⟩
  · obtain ⟨r0, hr0, hd0⟩ := at_lt (xs := b) (k := 0) (by omega)
    have hbs := h2.shape
    obtain ⟨ba, bc, rfl, _, _, hbx⟩ := hbs
    obtain ⟨b', o', rfl, hb', hx⟩ := hbx (by omega)
    obtain ⟨u, hu, hur⟩ := hx 0 r0 hr0
    have hu0 : w.cell? ⟨b', o', none⟩ = some u := hu
    have hrl := hur.len
    obtain ⟨ua, uc, rfl, _, _, _⟩ := hur.shape
    have hhd : b.headD [] = r0 := by cases b with | nil => simp at hr0 | cons x xs => simpa using hr0
    have Hc := Lib.hid (l17Table_c (l := b.length) h1 hlb)
    have Hd := Lib.hid (l17Table_c (l := r0.length) h2 hrl)
    have t0 : ((b.length : Int) == 0) = false := by simp; intro h; simp [h] at hb0
    have ti : (0 : Int) < (b.length : Int) := Int.natCast_pos.2 (Nat.pos_of_ne_zero hb0)
    cases ha : isTab b.length a with
    | false =>
      have HK := Lib.hid (show ttOk a b = false from by unfold ttOk; rw [ha]; simp)
      have HV := Lib.hid (show ttV a b = [] from by unfold ttV; rw [HK.out]; rfl)
      rw [ha] at Hc
      rw [HK.out]
      clear ha h1 h2 hbx hx hr0 hd0 hhd hu hur Hd hb0
      go_enter Try.func90, Try.ntmps90
      go_wp2_with fail
      refine Hc.out.mono ?_
      rintro e w' ⟨rfl, rfl⟩
      go_wp2
      go_ret2
      exact ⟨_, rfl, by rw [HV.out]; exact New.empty w (Nat.le_refl _), (Below.refl _ _).alloc (Nat.le_refl _) _⟩
    | true =>
      rw [ha] at Hc
      cases hb : isTab r0.length b with
      | false =>
        have HK := Lib.hid (show ttOk a b = false from by unfold ttOk; rw [hhd, hb]; simp)
        have HV := Lib.hid (show ttV a b = [] from by unfold ttV; rw [HK.out]; rfl)
        rw [hb] at Hd
        rw [HK.out]
        clear ha hb h1 h2 hbx hx hr0 hd0 hhd hu hur hb0
        go_enter Try.func90, Try.ntmps90
        go_wp2_with fail
        refine Hc.out.mono ?_
        rintro e w' ⟨rfl, rfl⟩
        go_wp2_with fail
        refine Hd.out.mono ?_
        rintro e w' ⟨rfl, rfl⟩
        go_wp2
        go_ret2
        exact ⟨_, rfl, by rw [HV.out]; exact New.empty w (Nat.le_refl _), (Below.refl _ _).alloc (Nat.le_refl _) _⟩
      | true =>
        have HK := Lib.hid (show ttOk a b = true from by unfold ttOk; rw [hhd, ha, hb]; simp [hb0])
        have HV := Lib.hid (show ttV a b = prodT a b a.length b.length r0.length from by unfold ttV; rw [HK.out, hhd]; rfl)
        have sa := isTab_sq ha
        have sb := isTab_sq hb
        have Hm := Lib.hid (l4Times_c h1 h2 rfl sa.1 rfl sb.1 (by omega) (by omega) (by omega) (by omega) (by omega) (by omega) (sa.2.1.mono (by omega)) (sb.2.1.mono (by omega)))
        rw [hb] at Hd
        rw [HK.out]
        clear ha hb h1 h2 hbx hx hr0 hd0 hhd hu hur hb0 sa sb
        go_enter Try.func90, Try.ntmps90
        go_wp2_with fail
        refine Hc.out.mono ?_
        rintro e w' ⟨rfl, rfl⟩
        go_wp2_with fail
        refine Hd.out.mono ?_
        rintro e w' ⟨rfl, rfl⟩
        go_wp2_with fail
        refine Hm.out.mono ?_
        rintro e w1 ⟨v1, rfl, hn1, hb1⟩
        go_wp2
        go_ret2
        exact ⟨_, rfl, by rw [HV.out]; exact hn1, hb1⟩

theorem ttV_bd (a b : List (List Int)) : (ttV a b).length ≤ 9 ∧ ∀ x, x ∈ ttV a b → x.length ≤ 9 := by
  unfold ttV
  split
  · rename_i h
    unfold ttOk at h
    simp only [Bool.and_eq_true] at h
    have h1 := isTab_sq h.1.2
    have h2 := isTab_sq h.2
    refine ⟨by unfold prodT; rw [tabOf_len]; omega, fun x hx => by rw [mem_tabOf hx]; omega⟩
  · simp
end Go.Proofs.Ytjgiobapdkdhpaa
