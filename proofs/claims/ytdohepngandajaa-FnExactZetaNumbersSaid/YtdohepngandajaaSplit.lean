/-
  SplitOut, the program's: the arcs from a vertex divided.
-/
import Derived.Test.YtdohepngandajaaRows
import Derived.Test.YtdohepngandajaaBase
import Derived.Test.YtdohepngandajaaTabs
import Derived.Test.YtdohepngandajaaMat
import Derived.Test.YtdohepngandajaaJoin
import Derived.Test.YtdohepngandajaaStep
import Derived.Test.YtdohepngandajaaApart
import Derived.WalkSpells
namespace Go.Proofs.Ytdohepngandajaa
open Go.RowKit Go.Deep Go.Sd

theorem clone_c {w : World} {v : Value} {xs : List Int} (h : Ints w v xs) (hl : xs.length ≤ 1048576) :
    Calls Try.prog 155 #[v] w (Makes (OInts 3) w xs) := by
  have hsh := h.shape
  obtain ⟨a, c, rfl, _, _, hcell⟩ := hsh
  have q : ∀ (w : World) (a : Option Addr) (n c n' c' : Nat), (binOp .eql 50 (.slice a n c) (.slice none n' c')).run Try.prog w = .ok (.bool a.isNone) w := fun w a n c n' c' => Lib.run_eql_slice_nil w _ _ a n c n' c' Try.underlying50
  cases a with
  | none =>
    have h0 : xs.length = 0 := by
      by_cases h1 : 0 < xs.length
      · obtain ⟨b, o, h2, _⟩ := hcell h1
        cases h2
      · omega
    obtain rfl : xs = [] := List.length_eq_zero_iff.1 h0
    clear h hcell
    go_enter Try.func155, Try.ntmps155
    go_wp2
    go_ret
    exact ⟨_, rfl, New.nil _ _, Below.refl _ _⟩
  | some p =>
    have Hp := Lib.hid (Ints.frame _ _ _ _ h ((Below.refl w.heap.size w).alloc (Nat.le_refl _) (.cells #[] 3)))
    clear h hcell
    go_enter Try.func155, Try.ntmps155
    go_wp2_with (at_builtin; refine wpl_append_vals (f := Value.int .i64) (fun _ => rfl) rfl (.tmp 5) (.tmp 6) 50 rfl 3 (.int .i64 0) 8 Try.underlying50 infoI rfl (New.empty (R := OValR (Value.int .i64)) (lo := w.heap.size) w (Nat.le_refl _)) (by simp) Hp.out rfl rfl (by simp; omega) (by simp; omega) ?_; intro v1 w1 hn1 _ _ hb1; have Hn1 := Lib.hid hn1; have Hb1 := Lib.hid (((Below.refl w.heap.size w).alloc (Nat.le_refl _) _).trans hb1); clear hn1 hb1)
    go_ret
    exact ⟨_, rfl, Hn1.out, Hb1.out⟩

/-- A slice of n numbers: where they lie. -/
theorem ints_at {w : World} {v : Value} {xs : List Int} {n : Nat} (h : Ints w v xs) (hn : xs.length = n) (h0 : 0 < n) :
    ∃ b o c, v = .slice (some ⟨b, o, none⟩) n c ∧ b < w.heap.size ∧ ∀ j, j < n → w.cell? ⟨b, o + j, none⟩ = some (.int .i64 (xs.getD j 0)) := by
  subst hn
  obtain ⟨a, c, rfl, _, _, hc⟩ := h.shape
  obtain ⟨b, o, rfl, hb, hx⟩ := hc h0
  refine ⟨b, o, c, rfl, hb, fun j hj => ?_⟩
  obtain ⟨x, hxj, _⟩ := at_lt hj
  obtain ⟨u, hu, rfl⟩ := hx j x hxj
  rw [hu]
  simp [List.getD, hxj]

/-- Row k of the divided matrix, ahead of its last number. -/
def splitR (m : List (List Int)) (I : Nat) (P : List Int) (n k l : Nat) : Int := if k = n then ent m I l - P.getD l 0 else if k = I then P.getD l 0 else ent m k l
def splitT (m : List (List Int)) (I : Nat) (P : List Int) (n : Nat) : List (List Int) := (List.range (n + 1)).map fun k => rowOf' n (splitR m I P n k) ++ [splitR m I P n k I]
theorem splitT_at {m : List (List Int)} {I : Nat} {P : List Int} {n k : Nat} (hk : k < n + 1) : (splitT m I P n)[k]? = some (rowOf' n (splitR m I P n k) ++ [splitR m I P n k I]) := by simp [splitT, hk]
theorem splitT_len (m : List (List Int)) (I : Nat) (P : List Int) (n : Nat) : (splitT m I P n).length = n + 1 := by simp [splitT]
theorem splitR_last (m : List (List Int)) (I : Nat) (P : List Int) (n : Nat) : splitR m I P n n = fun l => ent m I l - P.getD l 0 := by funext l; simp [splitR]
theorem splitR_part (m : List (List Int)) {I : Nat} (P : List Int) {n : Nat} (h : I < n) : splitR m I P n I = fun l => P.getD l 0 := by funext l; unfold splitR; rw [if_neg (by omega), if_pos rfl]
theorem splitR_row (m : List (List Int)) {I : Nat} (P : List Int) {n k : Nat} (h : k < n) (hI : k ≠ I) : splitR m I P n k = fun l => ent m k l := by funext l; unfold splitR; rw [if_neg (by omega), if_neg hI]
theorem row_full {r : List Int} {n : Nat} (h : r.length = n) : r = rowOf' n (fun l => r.getD l 0) := by subst h; exact row_eq r

def partOk (m : List (List Int)) (I : Nat) (P : List Int) (n : Nat) : Prop := ∀ l, l < n → 0 ≤ P.getD l 0 ∧ P.getD l 0 ≤ ent m I l ∧ ent m I l ≤ 1000000

set_option maxHeartbeats 4000000 in
set_option maxRecDepth 100000 in
theorem split_c {w : World} {va vp : Value} {m : List (List Int)} {P : List Int} {I n : Nat} (h1 : Tab w va m) (h2 : Ints w vp P) (hm : Sq n m) (hp : P.length = n) (hI : I < n) (hn : n ≤ 8) (hok : partOk m I P n) :
    Calls Try.prog 164 #[va, .int .i64 I, vp] w (Makes (OTab 3 50) w (splitT m I P n)) := by
  have hn0 : 0 < n := by omega
  have Hms := Lib.hid (fun k (hk : k < n) (hr : (m.getD k []).length = n) => row_full hr)
  have Hlen := Lib.hid (fun k (hk : k < n) => (hm.row hk).2)
  obtain ⟨ab, ao, ac, rfl, hab, hae⟩ := h1.entAt hm.1 hm.2 hn0
  obtain ⟨pb, po, pc, rfl, hpb, hpe⟩ := ints_at h2 hp hn0
  have H2 := Lib.hid h2
  have Hp := Lib.hid hp
  have Hok := Lib.hid hok
  obtain ⟨ib, io, ic, hI1, hib, _, hI2⟩ := hae.at hI hn0
  have hIi : (I : Int) < (n : Int) := by omega
  clear h1 h2 hm hp hok
  go_enter Try.func164, Try.ntmps164
  go_wp2
  go_loopg [7, 19] n (fun g v ii wr => ∃ (k : Nat), ii = .int .i64 k ∧ k + g = n ∧ New (OInts 3) w.heap.size wr v ((rowOf' n (splitR m I P n n)).take k) ∧ Below w.heap.size w wr)
  case atStart => exact ⟨0, rfl, by omega, New.empty w (Nat.le_refl _), (Below.refl _ _).alloc (Nat.le_refl _) _⟩
  case round =>
    obtain ⟨k, rfl, hk, hnew, hbel⟩ := hrel
    obtain ⟨wo, rfl⟩ : ∃ wo : World, wo = wr := ⟨_, rfl⟩
    have hle := hbel.size
    have hrule := hbel.rule
    have Hn := Lib.hid hnew
    have Hb := Lib.hid hbel
    have Hlk := Lib.hid (show ((rowOf' n (splitR m I P n n)).take k).length ≤ n from by rw [List.length_take]; omega)
    by_cases hlt : k < n
    · have hA3 := hI2 k hlt
      have hP3 := hpe k hlt
      obtain ⟨hd1, hd2, hd3⟩ := Hok.out k hlt
      have Hs := Lib.hid (show _ = _ from take_snoc' (show (rowOf' n (splitR m I P n n))[k]? = some (ent m I k - P.getD k 0) from by rw [rowOf_at hlt, splitR_last]))
      generalize ent m I k = X at *
      generalize P.getD k 0 = Y at *
      clear hnew hbel hI2 hpe hae
      go_wp2_with (at_builtin; refine wpl_push (w0 := wo) (lo := w.heap.size) (y := X - Y) OIntR.kept rfl (.tmp 24) (.tmp 31) 50 rfl 3 (.int .i64 0) 8 Try.underlying50 infoI rfl Hn.out hle ((Below.refl _ _).alloc (Nat.le_refl _) _) ⟨[], ⟨rfl, rfl⟩, by simp [Fresh]⟩ (bb := wo.heap.size) (c := 1) (by simp) rfl rfl (by have := Hlk.out; omega) (by have := Hlk.out; omega) ?_; intro v1 w1 hn1 _ _ hb1)
      go_roundg (n - (k + 1))
      case measure => omega
      case rel => exact ⟨k + 1, by go_num, by omega, by rw [← Hs.out]; exact hn1, Hb.out.trans hb1⟩
    · have e : k = n := by omega
      subst e
      clear hk
      rw [rowOf_full] at hnew
      obtain ⟨gb, gc, hv, _, _, hgb, _, _, _⟩ := hnew.int_at (show (rowOf' k (splitR m I P k k))[I]? = some (splitR m I P k k I) from rowOf_at hI)
      rw [rowOf_len] at hv
      subst hv
      obtain ⟨wa, rfl⟩ : ∃ wa : World, wa = wo := ⟨_, rfl⟩
      obtain ⟨n, rfl⟩ : ∃ n : Nat, n = k := ⟨_, rfl⟩
      have Hrest := Lib.hid hnew
      have Hba := Lib.hid hbel
      have hae1 := hae.frame hab hbel
      have hab1 : ab < wa.heap.size := by omega
      have hpb1 : pb < wa.heap.size := by omega
      have Hp1 := Lib.hid (Ints.frame _ _ _ _ H2.out hbel)
      have hpI : wa.cell? ⟨pb, po + I, none⟩ = some (.int .i64 (P.getD I 0)) := (hbel.cell (p := ⟨pb, po + I, none⟩) hpb).trans (hpe I hI)
      have hle0 := hle
      clear hnew hbel hae hI1 hI2 hpe hrule Hn Hb Hlk hib hle
      go_wp2
      go_loopg [10, 37] n (fun g v ii wr => ∃ (k : Nat), ii = .int .i64 k ∧ k + g = n ∧ New (OTab 3 50) wa.heap.size wr v ((splitT m I P n).take k) ∧ Below wa.heap.size wa wr)
      case atStart => exact ⟨0, rfl, by omega, New.empty wa (Nat.le_refl _), (Below.refl _ _).alloc (Nat.le_refl _) _⟩
      case round =>
        obtain ⟨k, rfl, hk, hnew, hbel⟩ := hrel
        obtain ⟨wo, rfl⟩ : ∃ wo : World, wo = wr := ⟨_, rfl⟩
        have hle := hbel.size
        have hrule := hbel.rule
        have Hn := Lib.hid hnew
        have Hb := Lib.hid hbel
        have Hlk := Lib.hid (show ((splitT m I P n).take k).length ≤ n from by rw [List.length_take]; omega)
        by_cases hlt : k < n
        · obtain ⟨rb, ro, rc, hA1, hrb, hIn, hA2⟩ := hae1.at hlt hn0
          have hA3 := hA2 I hI
          have Hs0 := Lib.hid (show _ = _ from take_snoc' (splitT_at (m := m) (I := I) (P := P) (show k < n + 1 by omega)))
          have Hml := Lib.hid (Hlen.out k hlt)
          have Hmr := Lib.hid (Hms.out k hlt Hml.out)
          clear hae1 hA2
          by_cases hkI : k = I
          · subst hkI
            have t1 : ((k : Int) == (k : Int)) = true := by simp
            have Hs := Lib.hid (show (splitT m k P n).take k ++ [P ++ [P.getD k 0]] = (splitT m k P n).take (k + 1) from by rw [← Hs0.out, splitR_part m P hlt, ← row_full Hp.out])
            clear Hs0 hA3 hrb hIn Hml Hmr
            have Hin := Lib.hid (show Ints wo (.slice (some ⟨pb, po, none⟩) n pc) (P) from Ints.frame _ _ _ _ Hp1.out hbel)
            have hS0 : wo.cell? ⟨pb, po + k, none⟩ = some (.int .i64 (P.getD k 0)) := (hbel.cell (p := ⟨pb, po + k, none⟩) hpb1).trans hpI
            have hrbo : pb < wo.heap.size := by omega
            have Hxl := Lib.hid (show (P).length = n from Hp.out)
            have Hcl := Lib.hid (fun (W : World) (hW : Below wo.heap.size wo W) => clone_c (Ints.frame _ _ _ _ Hin.out hW) (by rw [Hxl.out]; omega))
            obtain ⟨xs, hxs⟩ : ∃ xs : List Int, xs = P := ⟨_, rfl⟩
            rw [← hxs] at Hin Hxl Hcl
            have Hxs := Lib.hid hxs
            clear hxs
            generalize P.getD k 0 = X at *
            clear hnew hbel
            go_wp2_with fail
            go_region_held3 (fun w' => w'.cell? ⟨pb, po + k, none⟩ = some (.int .i64 X))
              (first
                | exact hS3
                | exact hS2
                | exact hS1
                | exact hS0
                | go_keep)
              ((first
                | (refine (Hcl.out _ ((Below.refl _ _).drew)).mono ?_
                   rintro e w1 ⟨v1, rfl, hn1, hb1⟩
                   have hn1' : New (OInts 3) wo.heap.size w1 v1 xs := hn1
                   have hz1 : wo.heap.size ≤ w1.heap.size := hb1.size
                   have Hb1 := Lib.hid (show Below wo.heap.size wo w1 from ((Below.refl _ _).drew).trans hb1)
                   have Hn1 := Lib.hid hn1'
                   have hS1 : w1.cell? ⟨pb, po + k, none⟩ = some (.int .i64 X) := (Hb1.out.cell (p := ⟨pb, po + k, none⟩) hrbo).trans hS0
                   clear hn1 hb1 hn1')
                | (refine (Hcl.out _ (((Below.refl _ _).alloc (Nat.le_refl _) (.cells #[.int .i64 X] 3)).drew)).mono ?_
                   rintro e w1 ⟨v1, rfl, hn1, hb1⟩
                   have hn1' : New (OInts 3) wo.heap.size w1 v1 xs := hn1.mono (show wo.heap.size ≤ (wo.alloc (.cells #[.int .i64 X] 3)).heap.size by simp)
                   have hsz0 : (wo.alloc (.cells #[.int .i64 X] 3)).heap.size ≤ w1.heap.size := hb1.size
                   have hsz1 : (wo.alloc (.cells #[.int .i64 X] 3)).heap.size = wo.heap.size + 1 := by simp
                   have hsz : wo.heap.size + 1 ≤ w1.heap.size := by omega
                   have hz1 : wo.heap.size ≤ w1.heap.size := by omega
                   have Hb1 := Lib.hid (show Below wo.heap.size wo w1 from (((Below.refl _ _).alloc (Nat.le_refl _) (.cells #[.int .i64 X] 3)).drew).trans (hb1.mono (show wo.heap.size ≤ (wo.alloc (.cells #[.int .i64 X] 3)).heap.size by simp)))
                   have hcx : w1.cell? ⟨wo.heap.size, 0, none⟩ = some (.int .i64 X) := (hb1.cell (p := ⟨wo.heap.size, 0, none⟩) (show wo.heap.size < (wo.alloc (.cells #[.int .i64 X] 3)).heap.size by simp)).trans (show (wo.alloc (.cells #[.int .i64 X] 3)).cell? ⟨wo.heap.size, 0, none⟩ = _ by simp)
                   have Hn1 := Lib.hid hn1'
                   have hS1 : w1.cell? ⟨pb, po + k, none⟩ = some (.int .i64 X) := (Hb1.out.cell (p := ⟨pb, po + k, none⟩) hrbo).trans hS0
                   clear hn1 hb1 hn1' hsz hsz0 hsz1)
                | (refine step_push (w0 := w1) (lo := wo.heap.size) (y := X) OIntR.kept (by rfl) (.tmp 48) (.tmp 53) 50 (by rfl) 3 (.int .i64 0) 8 Try.underlying50 infoI (by rfl) Hn1.out hz1 ((Below.refl _ _).alloc (Nat.le_refl _) _) ⟨[], ⟨rfl, rfl⟩, by simp [Fresh]⟩ (bb := w1.heap.size) (c := 1) (by simp) (by rfl) (by rfl) (by rw [Hxl.out]; omega) (by rw [Hxl.out]; omega) ?_
                   intro v2 w2 hn2 _ _ hb2
                   obtain ⟨ya, yn, yc, rfl⟩ := hn2.slice
                   have Hn2 := Lib.hid hn2
                   have Hb2 := Lib.hid (Hb1.out.trans hb2)
                   have hz2 : wo.heap.size ≤ w2.heap.size := Hb2.out.size
                   have hS2 : w2.cell? ⟨pb, po + k, none⟩ = some (.int .i64 X) := (Hb2.out.cell (p := ⟨pb, po + k, none⟩) hrbo).trans hS0
                   clear hn2 hb2)
                | (refine step_push (w0 := w1) (lo := wo.heap.size) (y := X) OIntR.kept (by rfl) (.tmp 48) (.tmp 53) 50 (by rfl) 3 (.int .i64 0) 8 Try.underlying50 infoI (by rfl) Hn1.out hz1 (Below.refl _ _) ⟨[], ⟨rfl, rfl⟩, by simp [Fresh]⟩ (bb := wo.heap.size) (c := 1) hcx (by rfl) (by rfl) (by rw [Hxl.out]; omega) (by rw [Hxl.out]; omega) ?_
                   intro v2 w2 hn2 _ _ hb2
                   obtain ⟨ya, yn, yc, rfl⟩ := hn2.slice
                   have Hn2 := Lib.hid hn2
                   have Hb2 := Lib.hid (Hb1.out.trans hb2)
                   have hz2 : wo.heap.size ≤ w2.heap.size := Hb2.out.size
                   have hS2 : w2.cell? ⟨pb, po + k, none⟩ = some (.int .i64 X) := (Hb2.out.cell (p := ⟨pb, po + k, none⟩) hrbo).trans hS0
                   clear hn2 hb2)
                | (refine step_push (w0 := wo) (lo := wa.heap.size) (OInts.kept _) (by rfl) (.tmp 46) (.tmp 55) 41 (by rfl) 50 (.slice none 0 0) 24 Try.underlying41 infoR (by rfl) Hn.out hle (Hb2.out.alloc hz2 _) (New.keep (OInts.kept _) Hn2.out ((Below.refl w2.heap.size _).alloc (Nat.le_refl _) _) (Nat.le_refl _)) (bb := w2.heap.size) (c := 1) (by simp) (by rfl) (by rfl) (by have := Hlk.out; omega) (by have := Hlk.out; omega) ?_
                   intro v3 w3 hn3 _ _ hb3
                   have Hn3 := Lib.hid hn3
                   have Hb3 := Lib.hid hb3
                   have hS3 : w3.cell? ⟨pb, po + k, none⟩ = some (.int .i64 X) := (Hb3.out.cell (p := ⟨pb, po + k, none⟩) (by omega)).trans hS0
                   clear hn3 hb3)
                | fail))
            all_goals (
              go_wp2
              go_roundg (n - (k + 1))
              case measure => omega
              case rel => exact ⟨k + 1, by go_num, by omega, by have h := Hn3.out; rw [Hxs.out, Hs.out] at h; exact h, Hb.out.trans Hb3.out⟩)
          · have t1 : ((k : Int) == (I : Int)) = false := by simp; omega
            have Hs := Lib.hid (show (splitT m I P n).take k ++ [m.getD k [] ++ [ent m k I]] = (splitT m I P n).take (k + 1) from by rw [← Hs0.out, splitR_row m P hlt hkI, show rowOf' n (fun l => ent m k l) = m.getD k [] from Hmr.out.symm])
            clear Hs0 hkI
            have Hin := Lib.hid (show Ints wo (.slice (some ⟨rb, ro, none⟩) n rc) (m.getD k []) from Ints.frame _ _ _ _ hIn hbel)
            have hS0 : wo.cell? ⟨rb, ro + I, none⟩ = some (.int .i64 (ent m k I)) := (hbel.cell (p := ⟨rb, ro + I, none⟩) hrb).trans hA3
            have hrbo : rb < wo.heap.size := by omega
            have Hxl := Lib.hid (show (m.getD k []).length = n from Hml.out)
            have Hcl := Lib.hid (fun (W : World) (hW : Below wo.heap.size wo W) => clone_c (Ints.frame _ _ _ _ Hin.out hW) (by rw [Hxl.out]; omega))
            obtain ⟨xs, hxs⟩ : ∃ xs : List Int, xs = m.getD k [] := ⟨_, rfl⟩
            rw [← hxs] at Hin Hxl Hcl
            have Hxs := Lib.hid hxs
            clear hxs
            generalize ent m k I = X at *
            clear hnew hbel
            go_wp2_with fail
            go_region_held3 (fun w' => w'.cell? ⟨rb, ro + I, none⟩ = some (.int .i64 X))
              (first
                | exact hS3
                | exact hS2
                | exact hS1
                | exact hS0
                | go_keep)
              ((first
                | (refine (Hcl.out _ ((Below.refl _ _).drew)).mono ?_
                   rintro e w1 ⟨v1, rfl, hn1, hb1⟩
                   have hn1' : New (OInts 3) wo.heap.size w1 v1 xs := hn1
                   have hz1 : wo.heap.size ≤ w1.heap.size := hb1.size
                   have Hb1 := Lib.hid (show Below wo.heap.size wo w1 from ((Below.refl _ _).drew).trans hb1)
                   have Hn1 := Lib.hid hn1'
                   have hS1 : w1.cell? ⟨rb, ro + I, none⟩ = some (.int .i64 X) := (Hb1.out.cell (p := ⟨rb, ro + I, none⟩) hrbo).trans hS0
                   clear hn1 hb1 hn1')
                | (refine (Hcl.out _ (((Below.refl _ _).alloc (Nat.le_refl _) (.cells #[.int .i64 X] 3)).drew)).mono ?_
                   rintro e w1 ⟨v1, rfl, hn1, hb1⟩
                   have hn1' : New (OInts 3) wo.heap.size w1 v1 xs := hn1.mono (show wo.heap.size ≤ (wo.alloc (.cells #[.int .i64 X] 3)).heap.size by simp)
                   have hsz0 : (wo.alloc (.cells #[.int .i64 X] 3)).heap.size ≤ w1.heap.size := hb1.size
                   have hsz1 : (wo.alloc (.cells #[.int .i64 X] 3)).heap.size = wo.heap.size + 1 := by simp
                   have hsz : wo.heap.size + 1 ≤ w1.heap.size := by omega
                   have hz1 : wo.heap.size ≤ w1.heap.size := by omega
                   have Hb1 := Lib.hid (show Below wo.heap.size wo w1 from (((Below.refl _ _).alloc (Nat.le_refl _) (.cells #[.int .i64 X] 3)).drew).trans (hb1.mono (show wo.heap.size ≤ (wo.alloc (.cells #[.int .i64 X] 3)).heap.size by simp)))
                   have hcx : w1.cell? ⟨wo.heap.size, 0, none⟩ = some (.int .i64 X) := (hb1.cell (p := ⟨wo.heap.size, 0, none⟩) (show wo.heap.size < (wo.alloc (.cells #[.int .i64 X] 3)).heap.size by simp)).trans (show (wo.alloc (.cells #[.int .i64 X] 3)).cell? ⟨wo.heap.size, 0, none⟩ = _ by simp)
                   have Hn1 := Lib.hid hn1'
                   have hS1 : w1.cell? ⟨rb, ro + I, none⟩ = some (.int .i64 X) := (Hb1.out.cell (p := ⟨rb, ro + I, none⟩) hrbo).trans hS0
                   clear hn1 hb1 hn1' hsz hsz0 hsz1)
                | (refine step_push (w0 := w1) (lo := wo.heap.size) (y := X) OIntR.kept (by rfl) (.tmp 48) (.tmp 53) 50 (by rfl) 3 (.int .i64 0) 8 Try.underlying50 infoI (by rfl) Hn1.out hz1 ((Below.refl _ _).alloc (Nat.le_refl _) _) ⟨[], ⟨rfl, rfl⟩, by simp [Fresh]⟩ (bb := w1.heap.size) (c := 1) (by simp) (by rfl) (by rfl) (by rw [Hxl.out]; omega) (by rw [Hxl.out]; omega) ?_
                   intro v2 w2 hn2 _ _ hb2
                   obtain ⟨ya, yn, yc, rfl⟩ := hn2.slice
                   have Hn2 := Lib.hid hn2
                   have Hb2 := Lib.hid (Hb1.out.trans hb2)
                   have hz2 : wo.heap.size ≤ w2.heap.size := Hb2.out.size
                   have hS2 : w2.cell? ⟨rb, ro + I, none⟩ = some (.int .i64 X) := (Hb2.out.cell (p := ⟨rb, ro + I, none⟩) hrbo).trans hS0
                   clear hn2 hb2)
                | (refine step_push (w0 := w1) (lo := wo.heap.size) (y := X) OIntR.kept (by rfl) (.tmp 48) (.tmp 53) 50 (by rfl) 3 (.int .i64 0) 8 Try.underlying50 infoI (by rfl) Hn1.out hz1 (Below.refl _ _) ⟨[], ⟨rfl, rfl⟩, by simp [Fresh]⟩ (bb := wo.heap.size) (c := 1) hcx (by rfl) (by rfl) (by rw [Hxl.out]; omega) (by rw [Hxl.out]; omega) ?_
                   intro v2 w2 hn2 _ _ hb2
                   obtain ⟨ya, yn, yc, rfl⟩ := hn2.slice
                   have Hn2 := Lib.hid hn2
                   have Hb2 := Lib.hid (Hb1.out.trans hb2)
                   have hz2 : wo.heap.size ≤ w2.heap.size := Hb2.out.size
                   have hS2 : w2.cell? ⟨rb, ro + I, none⟩ = some (.int .i64 X) := (Hb2.out.cell (p := ⟨rb, ro + I, none⟩) hrbo).trans hS0
                   clear hn2 hb2)
                | (refine step_push (w0 := wo) (lo := wa.heap.size) (OInts.kept _) (by rfl) (.tmp 46) (.tmp 55) 41 (by rfl) 50 (.slice none 0 0) 24 Try.underlying41 infoR (by rfl) Hn.out hle (Hb2.out.alloc hz2 _) (New.keep (OInts.kept _) Hn2.out ((Below.refl w2.heap.size _).alloc (Nat.le_refl _) _) (Nat.le_refl _)) (bb := w2.heap.size) (c := 1) (by simp) (by rfl) (by rfl) (by have := Hlk.out; omega) (by have := Hlk.out; omega) ?_
                   intro v3 w3 hn3 _ _ hb3
                   have Hn3 := Lib.hid hn3
                   have Hb3 := Lib.hid hb3
                   have hS3 : w3.cell? ⟨rb, ro + I, none⟩ = some (.int .i64 X) := (Hb3.out.cell (p := ⟨rb, ro + I, none⟩) (by omega)).trans hS0
                   clear hn3 hb3)
                | fail))
            all_goals (
              go_wp2
              go_roundg (n - (k + 1))
              case measure => omega
              case rel => exact ⟨k + 1, by go_num, by omega, by have h := Hn3.out; rw [Hxs.out, Hs.out] at h; exact h, Hb.out.trans Hb3.out⟩)
        · have e : n = k := by omega
          subst e
          clear hk hae1 hpI
          have Hs := Lib.hid (show (splitT m I P n).take n ++ [rowOf' n (splitR m I P n n) ++ [splitR m I P n n I]] = splitT m I P n from by rw [take_snoc' (splitT_at (by omega)), List.take_of_length_le (by rw [splitT_len]; omega)])
          have Ha := Lib.hid ((Apart.of_new (OInts.kept _) Hrest.out hnew hbel hle0).symm)
          have hB : w.heap.size ≤ wo.heap.size := by omega
          obtain ⟨gb', gc', hv', _, _, hgb', hcell, _, _⟩ := Ha.out.right.int_at (show (rowOf' n (splitR m I P n n))[I]? = some (splitR m I P n n I) from rowOf_at hI)
          obtain rfl : gb' = gb := by simp at hv'; exact hv'.1.symm
          have Hal := Lib.hid (Ha.out.keep (OTab.kept _ _) (OInts.kept _) ((Below.refl wo.heap.size wo).alloc (Nat.le_refl _) (.cells #[.int .i64 (splitR m I P n n I)] 3)) (Nat.le_refl _))
          have Hlr := Lib.hid (rowOf_len n (splitR m I P n n))
          obtain ⟨xa, xn, xc, rfl⟩ := hnew.slice
          generalize rowOf' n (splitR m I P n n) = rs at *
          generalize splitR m I P n n I = X at *
          have Hbo := Lib.hid (Hba.out.trans (hbel.mono hle0))
          clear hnew hbel hrule hv' Hn Hb Hrest
          go_wp2_with (first
            | (at_builtin; obtain ⟨v1, w1, hr1, hA1, hb1⟩ := Apart.push2 (P := Try.prog) (bb := wo.heap.size) (c := 1) (q := .int .i64 X) (y := X) (OTab.kept _ _) OIntR.kept 50 50 (.int .i64 0) 8 Try.underlying50 infoI rfl Hal.out (by simp; omega) (by simp) ⟨rfl, rfl⟩ (by rw [Hlr.out]; omega) (by rw [Hlr.out]; omega); refine wpl_append_run rfl (.tmp 59) (.tmp 64) 50 rfl rfl rfl hr1 ?_; obtain ⟨ya, yn, yc, rfl⟩ := hA1.right.slice; have HA1 := Lib.hid hA1; have Hb1 := Lib.hid hb1; have hz1 := hb1.size; clear hr1 hA1 hb1)
            | (at_builtin; obtain ⟨v2, w2, hr2, hn2, hb2⟩ := Apart.push (P := Try.prog) (bb := w1.heap.size) (c := 1) (OInts.kept _) 41 41 (.slice none 0 0) 24 Try.underlying41 infoR rfl (HA1.out.keep (OTab.kept _ _) (OInts.kept _) ((Below.refl w1.heap.size w1).alloc (Nat.le_refl _) (.cells #[.slice ya yn yc] 50)) (Nat.le_refl _)) (by simp at hz1 ⊢; omega) (by simp) (by have := Hlk.out; omega) (by have := Hlk.out; omega); refine wpl_append_run rfl (.tmp 58) (.tmp 66) 41 rfl rfl rfl hr2 ?_; have Hn2 := Lib.hid hn2; have Hb2 := Lib.hid hb2; clear hr2 hn2 hb2)
            | fail)
          go_ret
          exact ⟨_, rfl, by rw [← Hs.out]; exact Hn2.out, Hbo.out.trans ((((Below.refl _ _).alloc hB _).trans Hb1.out).trans (((Below.refl _ _).alloc (by simp at hz1; omega) _).trans Hb2.out))⟩
end Go.Proofs.Ytdohepngandajaa
