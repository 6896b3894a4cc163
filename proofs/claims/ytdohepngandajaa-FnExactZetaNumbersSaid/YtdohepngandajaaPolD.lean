/-
  Some rows and columns of a table, both sides.
-/
import Derived.Test.YtdohepngandajaaPolC
namespace Go.Proofs.Ytdohepngandajaa
open Go.RowKit Go.Deep Go.Sd
set_option linter.unusedSimpArgs false
theorem nat_at {l : List Int} {n k : Nat} (hl : ∀ x, x ∈ l → 0 ≤ x ∧ x < (n : Int)) (hk : k < l.length) : ∃ p : Nat, l[k]? = some (p : Int) ∧ p < n ∧ (l.getD k 0).toNat = p := by
  have h1 : l[k]? = some l[k] := List.getElem?_eq_getElem hk
  have h2 := hl l[k] (List.getElem_mem hk)
  refine ⟨l[k].toNat, by rw [h1, Int.toNat_of_nonneg h2.1], by omega, by simp [List.getD, h1]⟩
theorem partT_len (m : List (List Int)) (l : List Int) : (partT m l).length = l.length := tabOf_len _ _ _
theorem partT_at {m : List (List Int)} {l : List Int} {k p : Nat} (hk : k < l.length) (hp : (l.getD k 0).toNat = p) : (partT m l)[k]? = some (rowOf' l.length (fun j => ent m p (l.getD j 0).toNat)) := by
  unfold partT
  rw [tabOf_at hk, hp]
theorem rowOf_next {n : Nat} {f : Nat → Int} {j : Nat} {x : Int} (hj : j < n) (hx : f j = x) : (rowOf' n f).take (j + 1) = (rowOf' n f).take j ++ [x] := by
  rw [List.take_add_one, rowOf_at hj, hx]; rfl
set_option maxHeartbeats 1000000 in
set_option maxRecDepth 100000 in
theorem picked_c {w : World} {va vl : Value} {m : List (List Int)} {l : List Int} {n : Nat} (h1 : Tab w va m) (hs : Sq n m) (hn : n ≤ 9) (h2 : Ints w vl l) (hl : ∀ x, x ∈ l → 0 ≤ x ∧ x < (n : Int)) (hln : l.length ≤ 9) :
    Calls Try.prog 205 #[va, vl] w (Makes (OTab 3 50) w (partT m l)) := by
  have Hat := Lib.hid (fun k (hk : k < l.length) => nat_at hl hk)
  have HE := Lib.hid (fun (h0 : 0 < n) => h1.entAt hs.1 hs.2 h0)
  have HL := Lib.hid (fun j x (h : l[j]? = some x) => h2.elOf h)
  have HP := Lib.hid (fun k p (hk : k < l.length) (hp : (l.getD k 0).toNat = p) => partT_at (m := m) hk hp)
  have HPl := Lib.hid (partT_len m l)
  obtain ⟨va0, vc0, rfl, -⟩ := h1.shape
  obtain ⟨la, lc, rfl, -⟩ := h2.shape
  rw [hs.1] at HE ⊢
  obtain ⟨N, hN⟩ : ∃ N, N = l.length := ⟨_, rfl⟩
  rw [← hN] at Hat HP HPl HL hln ⊢
  generalize partT m l = PT at *
  clear h1 h2 hl hN hs
  go_enter Try.func205, Try.ntmps205
  go_wp2
  go_loopg [5, 14] N (fun g v ii wr => ∃ (k : Nat), ii = .int .i64 k ∧ k + g = N ∧ Hid (New (OTab 3 50) w.heap.size wr v (PT.take k)) ∧ Hid (Below w.heap.size w wr))
  case atStart => exact ⟨0, rfl, by omega, Lib.hid (New.empty w (Nat.le_refl _)), Lib.hid ((Below.refl _ _).alloc (Nat.le_refl _) _)⟩
  case round =>
    obtain ⟨k, rfl, hk, Hn, Hb⟩ := hrel
    obtain ⟨wo, rfl⟩ : ∃ x, x = wr := ⟨_, rfl⟩
    have hle := Hb.out.size
    obtain ⟨oa, on', oc, rfl⟩ := Hn.out.slice
    by_cases hkn : k < N
    · have hki : (k : Int) < (N : Int) := by omega
      obtain ⟨g, rfl⟩ : ∃ x, gk = x + 1 := ⟨gk - 1, by omega⟩
      obtain ⟨p, hp, hpn, hpd⟩ := Hat.out k hkn
      have HPk := Lib.hid (HP.out k p hkn hpd)
      obtain ⟨lb, lo, lc2, hv, hlb, gl⟩ := HL.out k _ hp
      simp only [Value.slice.injEq] at hv
      obtain ⟨rfl, -, rfl⟩ := hv
      obtain ⟨ab, ao, ac, hv, hab, hae⟩ := HE.out (by omega)
      simp only [Value.slice.injEq] at hv
      obtain ⟨rfl, -, rfl⟩ := hv
      obtain ⟨rb, ro, rc, hA1, hrb, -, hA2⟩ := hae.at hpn (by omega)
      have Hrow := Lib.hid hA2
      clear hae hA2 hp hpd
      have g1 := (Hb.out.cell (p := ⟨lb, lo + k, none⟩) hlb).trans gl
      have HBo := Lib.hid (show Below w.heap.size w (wo.alloc (.cells #[] 3)) from Hb.out.alloc hle _)
      have Hno := Lib.hid (show New (OInts 3) wo.heap.size (wo.alloc (.cells #[] 3)) (.slice (some ⟨wo.heap.size, 0, none⟩) 0 0) ((rowOf' N (fun j => ent m p (l.getD j 0).toNat)).take 0) from New.empty wo (Nat.le_refl _))
      have HBi := Lib.hid (show Below wo.heap.size wo (wo.alloc (.cells #[] 3)) from (Below.refl _ _).alloc (Nat.le_refl _) _)
      go_wp2
      go_loopg [8, 21] N (fun g2 v jj wr2 => ∃ (j : Nat), jj = .int .i64 j ∧ j + g2 = N ∧ Hid (New (OInts 3) wo.heap.size wr2 v ((rowOf' N (fun j => ent m p (l.getD j 0).toNat)).take j)) ∧ Hid (Below wo.heap.size wo wr2))
      case atStart => exact ⟨0, rfl, by omega, Hno, HBi⟩
      case round =>
        clear Hno HBi HBo g1
        obtain ⟨j, rfl, hj, Hr, HB⟩ := hrel
        obtain ⟨wi, rfl⟩ : ∃ x, x = wr := ⟨_, rfl⟩
        have hzi := HB.out.size
        obtain ⟨ra, rn', rc', rfl⟩ := Hr.out.slice
        have HBw := Lib.hid (Hb.out.trans (HB.out.mono hle))
        by_cases hjn : j < N
        · have hji : (j : Int) < (N : Int) := by omega
          obtain ⟨g2, rfl⟩ : ∃ x, gk = x + 1 := ⟨gk - 1, by omega⟩
          obtain ⟨q, hq, hqn, hqd⟩ := Hat.out j hjn
          obtain ⟨lb2, lo2, lc3, hv, -, glj⟩ := HL.out j _ hq
          simp only [Value.slice.injEq, Option.some.injEq, Addr.mk.injEq] at hv
          obtain ⟨⟨rfl, rfl, -⟩, -, rfl⟩ := hv
          have gx := Hrow.out q hqn
          have hpi : (p : Int) < (n : Int) := by omega
          have hqi : (q : Int) < (n : Int) := by omega
          have hnx := Lib.hid (rowOf_next (n := N) (f := fun j => ent m p (l.getD j 0).toNat) (x := ent m p q) hjn (by simp only [hqd]))
          have hrl := Lib.hid (show ((rowOf' N (fun j => ent m p (l.getD j 0).toNat)).take j).length ≤ 9 from by rw [List.length_take]; omega)
          generalize ent m p q = x at gx hnx
          have hge : lb < w.heap.size ∧ ab < w.heap.size ∧ rb < w.heap.size := ⟨hlb, hab, hrb⟩
          clear hq hqd
          have gj := (HBw.out.cell (p := ⟨lb, lo + j, none⟩) hge.1).trans glj
          have gm := (HBw.out.cell (p := ⟨ab, ao + p, none⟩) hge.2.1).trans hA1
          have ge := (HBw.out.cell (p := ⟨rb, ro + q, none⟩) hge.2.2).trans gx
          have c1 : lb < wi.heap.size := by have := HBw.out.size; omega
          have c2 : ab < wi.heap.size := by have := HBw.out.size; omega
          have c3 : rb < wi.heap.size := by have := HBw.out.size; omega
          clear gx glj hA1 gl
          go_wp2_with (at_builtin; refine wpl_push (w0 := wi) (lo := wo.heap.size) (y := x) OIntR.kept rfl (.tmp 25) (.tmp 33) 50 rfl 3 (.int .i64 0) 8 Try.underlying50 infoI rfl Hr.out hzi ((Below.refl _ _).alloc (Nat.le_refl _) _) ⟨[], ⟨rfl, rfl⟩, by simp [Fresh]⟩ (bb := wi.heap.size) (c := 1) (by simp) rfl rfl (by have := hrl.out; omega) (by have := hrl.out; omega) ?_; intro v2 w2 hn2 _ _ hb2; have Hn2 := Lib.hid hn2; have HB2 := Lib.hid (HB.out.trans hb2); clear hn2 hb2)
          go_roundg g2
          case measure => omega
          case rel => exact ⟨j + 1, by go_num, by omega, Lib.hid (by rw [hnx.out]; exact Hn2.out), HB2⟩
        · have hji : ¬ ((j : Int) < (N : Int)) := by omega
          have Hr' := Lib.hid (show New (OInts 3) wo.heap.size wi (.slice ra rn' rc') (rowOf' N (fun j => ent m p (l.getD j 0).toNat)) from by have h := Hr.out; rw [show j = N from by omega, List.take_of_length_le (by rw [rowOf_len]; exact Nat.le_refl _)] at h; exact h)
          have hkl := Lib.hid (show (PT.take k).length ≤ 9 from by rw [List.length_take]; omega)
          have HK := Lib.hid (show PT.take (k + 1) = PT.take k ++ [rowOf' N (fun j => ent m p (l.getD j 0).toNat)] from by rw [List.take_add_one, HPk.out]; rfl)
          clear Hr
          go_wp2_with (at_builtin; refine wpl_push (w0 := wo) (lo := w.heap.size) (OInts.kept _) rfl (.tmp 36) (.tmp 38) 41 rfl 50 (.slice none 0 0) 24 Try.underlying41 infoR rfl Hn.out hle (HB.out.alloc HB.out.size _) (New.keep (OInts.kept _) Hr'.out ((Below.refl wi.heap.size _).alloc (Nat.le_refl _) _) (Nat.le_refl _)) (bb := wi.heap.size) (c := 1) (by simp) rfl rfl (by have := hkl.out; omega) (by have := hkl.out; omega) ?_; intro v3 w3 hn3 _ _ hb3; have Hn3 := Lib.hid hn3; have Hb3 := Lib.hid hb3; clear hn3 hb3)
          go_roundg g
          case measure => omega
          case rel => exact ⟨k + 1, by go_num, by omega, Lib.hid (by rw [HK.out]; exact Hn3.out), Lib.hid (Hb.out.trans Hb3.out)⟩
    · have hki : ¬ ((k : Int) < (N : Int)) := by omega
      have Hr := Lib.hid (show New (OTab 3 50) w.heap.size wo (.slice oa on' oc) PT from by have h := Hn.out; rw [List.take_of_length_le (by have := HPl.out; omega)] at h; exact h)
      clear Hn
      go_wp2
      go_ret
      exact ⟨_, rfl, Hr.out, Hb.out⟩
set_option maxHeartbeats 1000000 in
set_option maxRecDepth 100000 in
theorem l5Part_c {w : World} {va vl : Value} {m : List (List Int)} {l : List Int} {n : Nat} (h1 : Tab w va m) (hs : Sq n m) (hn : n ≤ 9) (h2 : Ints w vl l) (hl : ∀ x, x ∈ l → 0 ≤ x ∧ x < (n : Int)) (hln : l.length ≤ 9) :
    Calls Try.prog 202 #[va, vl] w (Makes (OTab 3 50) w (partT m l)) := by
  have Hat := Lib.hid (fun k (hk : k < l.length) => nat_at hl hk)
  have HE := Lib.hid (fun (h0 : 0 < n) => h1.entAt hs.1 hs.2 h0)
  have HL := Lib.hid (fun j x (h : l[j]? = some x) => h2.elOf h)
  have HP := Lib.hid (fun k p (hk : k < l.length) (hp : (l.getD k 0).toNat = p) => partT_at (m := m) hk hp)
  have HPl := Lib.hid (partT_len m l)
  obtain ⟨va0, vc0, rfl, -⟩ := h1.shape
  obtain ⟨la, lc, rfl, -⟩ := h2.shape
  rw [hs.1] at HE ⊢
  obtain ⟨N, hN⟩ : ∃ N, N = l.length := ⟨_, rfl⟩
  rw [← hN] at Hat HP HPl HL hln ⊢
  generalize partT m l = PT at *
  clear h1 h2 hl hN hs
  go_enter Try.func202, Try.ntmps202
  go_wp2
  go_loopg [5, 6] N (fun g v ii wr => ∃ (k : Nat), ii = .int .i64 k ∧ k + g = N ∧ Hid (New (OTab 3 50) w.heap.size wr v (PT.take k)) ∧ Hid (Below w.heap.size w wr))
  case atStart => exact ⟨0, rfl, by omega, Lib.hid (New.empty w (Nat.le_refl _)), Lib.hid ((Below.refl _ _).alloc (Nat.le_refl _) _)⟩
  case round =>
    obtain ⟨k, rfl, hk, Hn, Hb⟩ := hrel
    obtain ⟨wo, rfl⟩ : ∃ x, x = wr := ⟨_, rfl⟩
    have hle := Hb.out.size
    obtain ⟨oa, on', oc, rfl⟩ := Hn.out.slice
    by_cases hkn : k < N
    · have hki : (k : Int) < (N : Int) := by omega
      obtain ⟨g, rfl⟩ : ∃ x, gk = x + 1 := ⟨gk - 1, by omega⟩
      obtain ⟨p, hp, hpn, hpd⟩ := Hat.out k hkn
      have HPk := Lib.hid (HP.out k p hkn hpd)
      obtain ⟨lb, lo, lc2, hv, hlb, gl⟩ := HL.out k _ hp
      simp only [Value.slice.injEq] at hv
      obtain ⟨rfl, -, rfl⟩ := hv
      obtain ⟨ab, ao, ac, hv, hab, hae⟩ := HE.out (by omega)
      simp only [Value.slice.injEq] at hv
      obtain ⟨rfl, -, rfl⟩ := hv
      obtain ⟨rb, ro, rc, hA1, hrb, -, hA2⟩ := hae.at hpn (by omega)
      have Hrow := Lib.hid hA2
      clear hae hA2 hp hpd
      have g1 := (Hb.out.cell (p := ⟨lb, lo + k, none⟩) hlb).trans gl
      have HBo := Lib.hid (show Below w.heap.size w (wo.alloc (.cells #[] 3)) from Hb.out.alloc hle _)
      have Hno := Lib.hid (show New (OInts 3) wo.heap.size (wo.alloc (.cells #[] 3)) (.slice (some ⟨wo.heap.size, 0, none⟩) 0 0) ((rowOf' N (fun j => ent m p (l.getD j 0).toNat)).take 0) from New.empty wo (Nat.le_refl _))
      have HBi := Lib.hid (show Below wo.heap.size wo (wo.alloc (.cells #[] 3)) from (Below.refl _ _).alloc (Nat.le_refl _) _)
      go_wp2
      go_loopg [7, 8] N (fun g2 v jj wr2 => ∃ (j : Nat), jj = .int .i64 j ∧ j + g2 = N ∧ Hid (New (OInts 3) wo.heap.size wr2 v ((rowOf' N (fun j => ent m p (l.getD j 0).toNat)).take j)) ∧ Hid (Below wo.heap.size wo wr2))
      case atStart => exact ⟨0, rfl, by omega, Hno, HBi⟩
      case round =>
        clear Hno HBi HBo g1
        obtain ⟨j, rfl, hj, Hr, HB⟩ := hrel
        obtain ⟨wi, rfl⟩ : ∃ x, x = wr := ⟨_, rfl⟩
        have hzi := HB.out.size
        obtain ⟨ra, rn', rc', rfl⟩ := Hr.out.slice
        have HBw := Lib.hid (Hb.out.trans (HB.out.mono hle))
        by_cases hjn : j < N
        · have hji : (j : Int) < (N : Int) := by omega
          obtain ⟨g2, rfl⟩ : ∃ x, gk = x + 1 := ⟨gk - 1, by omega⟩
          obtain ⟨q, hq, hqn, hqd⟩ := Hat.out j hjn
          obtain ⟨lb2, lo2, lc3, hv, -, glj⟩ := HL.out j _ hq
          simp only [Value.slice.injEq, Option.some.injEq, Addr.mk.injEq] at hv
          obtain ⟨⟨rfl, rfl, -⟩, -, rfl⟩ := hv
          have gx := Hrow.out q hqn
          have hpi : (p : Int) < (n : Int) := by omega
          have hqi : (q : Int) < (n : Int) := by omega
          have hnx := Lib.hid (rowOf_next (n := N) (f := fun j => ent m p (l.getD j 0).toNat) (x := ent m p q) hjn (by simp only [hqd]))
          have hrl := Lib.hid (show ((rowOf' N (fun j => ent m p (l.getD j 0).toNat)).take j).length ≤ 9 from by rw [List.length_take]; omega)
          generalize ent m p q = x at gx hnx
          have hge : lb < w.heap.size ∧ ab < w.heap.size ∧ rb < w.heap.size := ⟨hlb, hab, hrb⟩
          clear hq hqd
          have HSf := Lib.hid (fun (wz : World) (hb3 : Below w.heap.size w wz) => (show wz.cell? ⟨lb, lo + k, none⟩ = some (.int .i64 p) ∧ wz.cell? ⟨ab, ao + p, none⟩ = some (.slice (some ⟨rb, ro, none⟩) n rc) ∧ wz.cell? ⟨lb, lo + j, none⟩ = some (.int .i64 q) ∧ wz.cell? ⟨rb, ro + q, none⟩ = some (.int .i64 x) from ⟨(hb3.cell (p := ⟨lb, lo + k, none⟩) hge.1).trans gl, (hb3.cell (p := ⟨ab, ao + p, none⟩) hge.2.1).trans hA1, (hb3.cell (p := ⟨lb, lo + j, none⟩) hge.1).trans glj, (hb3.cell (p := ⟨rb, ro + q, none⟩) hge.2.2).trans gx⟩))
          obtain ⟨w1, e1⟩ : ∃ x0, x0 = (wi.alloc (.cells #[.int .i64 x] 3)).drew := ⟨_, rfl⟩
          have hb1 : Below wi.heap.size wi w1 := by rw [e1]; exact ((Below.refl _ _).alloc (Nat.le_refl _) _).drew
          obtain ⟨v2, w2, hr2, hn2, -, hb2⟩ := run_push (P := Try.prog) (w := w1) OIntR.kept 50 50 3 (.int .i64 0) 8 Try.underlying50 infoI rfl Hr.out hzi hb1 (u := .int .i64 x) (y := x) ⟨[], ⟨rfl, rfl⟩, by simp [Fresh]⟩ (bb := wi.heap.size) (c := 1) (by rw [e1]; simp) (by have := hrl.out; omega) (by have := hrl.out; omega)
          have hSd : wi.drew.cell? ⟨lb, lo + k, none⟩ = some (.int .i64 p) ∧ wi.drew.cell? ⟨ab, ao + p, none⟩ = some (.slice (some ⟨rb, ro, none⟩) n rc) ∧ wi.drew.cell? ⟨lb, lo + j, none⟩ = some (.int .i64 q) ∧ wi.drew.cell? ⟨rb, ro + q, none⟩ = some (.int .i64 x) := HSf.out _ HBw.out.drew
          have hS1 : w1.cell? ⟨lb, lo + k, none⟩ = some (.int .i64 p) ∧ w1.cell? ⟨ab, ao + p, none⟩ = some (.slice (some ⟨rb, ro, none⟩) n rc) ∧ w1.cell? ⟨lb, lo + j, none⟩ = some (.int .i64 q) ∧ w1.cell? ⟨rb, ro + q, none⟩ = some (.int .i64 x) := HSf.out _ (HBw.out.trans (hb1.mono HBw.out.size))
          have Hn2 := Lib.hid hn2
          have HB2 := Lib.hid (HB.out.trans hb2)
          have hS2 : w2.cell? ⟨lb, lo + k, none⟩ = some (.int .i64 p) ∧ w2.cell? ⟨ab, ao + p, none⟩ = some (.slice (some ⟨rb, ro, none⟩) n rc) ∧ w2.cell? ⟨lb, lo + j, none⟩ = some (.int .i64 q) ∧ w2.cell? ⟨rb, ro + q, none⟩ = some (.int .i64 x) := HSf.out _ (Hb.out.trans (HB2.out.mono hle))
          have Hr2 := Lib.hid hr2
          have gk1 := (HBw.out.cell (p := ⟨lb, lo + k, none⟩) hge.1).trans gl
          clear hb1 hr2 hn2 hb2 gl hA1 glj gx
          go_wp2
          refine wp_region_L (fun w' => w'.cell? ⟨lb, lo + k, none⟩ = some (.int .i64 p) ∧ w'.cell? ⟨ab, ao + p, none⟩ = some (.slice (some ⟨rb, ro, none⟩) n rc) ∧ w'.cell? ⟨lb, lo + j, none⟩ = some (.int .i64 q) ∧ w'.cell? ⟨rb, ro + q, none⟩ = some (.int .i64 x)) (by kernel_rfl) ?_
          refine wpAnyL_take 0 (v := ?_) rfl (by kernel_rfl) (by kernel_rfl) (by kernel_rfl) (by kernel_rfl) (fun _ _ _ h => h) (Or.inl ⟨by rfl, ?_⟩) hSd ?_
          rotate_left
          · (intro w hSw; (try dsimp only at hSw); go_simp) <;> (try with_reducible rfl)
          try simp only [Act.put, List.getElem_toArray, List.getElem_cons_zero, List.getElem_cons_succ, List.setIfInBounds_toArray, List.set_cons_zero, List.set_cons_succ]
          refine wpAnyL_take 1 (v := ?_) rfl (by kernel_rfl) (by kernel_rfl) (by kernel_rfl) (by kernel_rfl) (fun _ _ _ h => h) (Or.inl ⟨by rfl, ?_⟩) hSd ?_
          rotate_left
          · (intro w hSw; (try dsimp only at hSw); go_simp) <;> (try with_reducible rfl)
          try simp only [Act.put, List.getElem_toArray, List.getElem_cons_zero, List.getElem_cons_succ, List.setIfInBounds_toArray, List.set_cons_zero, List.set_cons_succ]
          refine wpAnyL_take 2 (v := ?_) rfl (by kernel_rfl) (by kernel_rfl) (by kernel_rfl) (by kernel_rfl) (fun _ _ _ h => h) (Or.inl ⟨by rfl, ?_⟩) hSd ?_
          rotate_left
          · (intro w hSw; (try dsimp only at hSw); go_simp) <;> (try with_reducible rfl)
          try simp only [Act.put, List.getElem_toArray, List.getElem_cons_zero, List.getElem_cons_succ, List.setIfInBounds_toArray, List.set_cons_zero, List.set_cons_succ]
          refine wpAnyL_take 3 (v := ?_) rfl (by kernel_rfl) (by kernel_rfl) (by kernel_rfl) (by kernel_rfl) (fun _ _ _ h => h) (Or.inl ⟨by rfl, ?_⟩) hSd ?_
          rotate_left
          · (intro w hSw; (try dsimp only at hSw); go_simp) <;> (try with_reducible rfl)
          try simp only [Act.put, List.getElem_toArray, List.getElem_cons_zero, List.getElem_cons_succ, List.setIfInBounds_toArray, List.set_cons_zero, List.set_cons_succ]
          refine wpAnyL_take 4 (v := ?_) rfl (by kernel_rfl) (by kernel_rfl) (by kernel_rfl) (by kernel_rfl) (fun _ _ _ h => h) (Or.inl ⟨by rfl, ?_⟩) hSd ?_
          rotate_left
          · (intro w hSw; (try dsimp only at hSw); go_simp) <;> (try with_reducible rfl)
          try simp only [Act.put, List.getElem_toArray, List.getElem_cons_zero, List.getElem_cons_succ, List.setIfInBounds_toArray, List.set_cons_zero, List.set_cons_succ]
          refine wpAnyL_take 5 (v := ?_) rfl (by kernel_rfl) (by kernel_rfl) (by kernel_rfl) (by kernel_rfl) (fun _ _ _ h => h) (Or.inl ⟨by rfl, ?_⟩) hSd ?_
          rotate_left
          · (intro w hSw; (try dsimp only at hSw); go_simp) <;> (try with_reducible rfl)
          try simp only [Act.put, List.getElem_toArray, List.getElem_cons_zero, List.getElem_cons_succ, List.setIfInBounds_toArray, List.set_cons_zero, List.set_cons_succ]
          refine wpAnyL_take 6 (v := ?_) rfl (by kernel_rfl) (by kernel_rfl) (by kernel_rfl) (by kernel_rfl) (fun _ _ _ h => h) (Or.inl ⟨by rfl, ?_⟩) hSd ?_
          rotate_left
          · (intro w hSw; (try dsimp only at hSw); go_simp) <;> (try with_reducible rfl)
          try simp only [Act.put, List.getElem_toArray, List.getElem_cons_zero, List.getElem_cons_succ, List.setIfInBounds_toArray, List.set_cons_zero, List.set_cons_succ]
          refine wpAnyL_take 7 (v := ?_) rfl (by kernel_rfl) (by kernel_rfl) (by kernel_rfl) (by kernel_rfl) (fun _ _ _ h => h) (Or.inl ⟨by rfl, ?_⟩) hSd ?_
          rotate_left
          · (intro w hSw; (try dsimp only at hSw); go_simp) <;> (try with_reducible rfl)
          try simp only [Act.put, List.getElem_toArray, List.getElem_cons_zero, List.getElem_cons_succ, List.setIfInBounds_toArray, List.set_cons_zero, List.set_cons_succ]
          refine wpAnyL_take 8 (v := ?_) rfl (by kernel_rfl) (by kernel_rfl) (by kernel_rfl) (by kernel_rfl) (fun _ _ _ h => h) (Or.inl ⟨by rfl, ?_⟩) hSd ?_
          rotate_left
          · (intro w hSw; (try dsimp only at hSw); go_simp) <;> (try with_reducible rfl)
          try simp only [Act.put, List.getElem_toArray, List.getElem_cons_zero, List.getElem_cons_succ, List.setIfInBounds_toArray, List.set_cons_zero, List.set_cons_succ]
          refine wpAnyL_take 9 (v := ?_) rfl (by kernel_rfl) (by kernel_rfl) (by kernel_rfl) (by kernel_rfl) (fun _ _ _ h => h) (Or.inl ⟨by rfl, ?_⟩) hSd ?_
          rotate_left
          · (intro w hSw; (try dsimp only at hSw); go_simp) <;> (try with_reducible rfl)
          try simp only [Act.put, List.getElem_toArray, List.getElem_cons_zero, List.getElem_cons_succ, List.setIfInBounds_toArray, List.set_cons_zero, List.set_cons_succ]
          refine wpAnyL_take 10 (v := ?_) rfl (by kernel_rfl) (by kernel_rfl) (by kernel_rfl) (by kernel_rfl) (fun _ _ _ h => h) (Or.inl ⟨by rfl, ?_⟩) hSd ?_
          rotate_left
          · (intro w hSw; (try dsimp only at hSw); go_simp) <;> (try with_reducible rfl)
          try simp only [Act.put, List.getElem_toArray, List.getElem_cons_zero, List.getElem_cons_succ, List.setIfInBounds_toArray, List.set_cons_zero, List.set_cons_succ]
          refine wpAnyL_take 11 (v := ?_) rfl (by kernel_rfl) (by kernel_rfl) (by kernel_rfl) (by kernel_rfl) (fun _ _ _ h => h) (Or.inl ⟨by rfl, ?_⟩) hSd ?_
          rotate_left
          · (intro w hSw; (try dsimp only at hSw); go_simp) <;> (try with_reducible rfl)
          try simp only [Act.put, List.getElem_toArray, List.getElem_cons_zero, List.getElem_cons_succ, List.setIfInBounds_toArray, List.set_cons_zero, List.set_cons_succ]
          refine wpAnyL_take 12 (v := ?_) rfl (by kernel_rfl) (by kernel_rfl) (by kernel_rfl) (by kernel_rfl) (fun _ _ _ h => h) (Or.inl ⟨by rfl, ?_⟩) hSd ?_
          rotate_left
          · (intro w hSw; (try dsimp only at hSw); go_simp) <;> (try with_reducible rfl)
          try simp only [Act.put, List.getElem_toArray, List.getElem_cons_zero, List.getElem_cons_succ, List.setIfInBounds_toArray, List.set_cons_zero, List.set_cons_succ]
          refine wpAnyL_take 13 (v := ?_) rfl (by kernel_rfl) (by kernel_rfl) (by kernel_rfl) (by kernel_rfl) (fun _ _ _ h => h) (Or.inl ⟨by rfl, ?_⟩) hSd ?_
          rotate_left
          · (intro w hSw; (try dsimp only at hSw); go_simp) <;> (try with_reducible rfl)
          try simp only [Act.put, List.getElem_toArray, List.getElem_cons_zero, List.getElem_cons_succ, List.setIfInBounds_toArray, List.set_cons_zero, List.set_cons_succ]
          refine wpAnyL_one 14 (by kernel_rfl) rfl (fun K hK => ?_)
          go_simp
          refine hK.out _ _ (fun _ => (by rw [← e1]; exact hS1)) ?_
          clear hK K
          try simp only [Act.put, List.getElem_toArray, List.getElem_cons_zero, List.getElem_cons_succ, List.setIfInBounds_toArray, List.set_cons_zero, List.set_cons_succ]
          rw [← e1]
          refine wpAnyL_one 15 (by kernel_rfl) rfl (fun K hK => ?_)
          refine step_append_run (by rfl) (.tmp 23) (.tmp 37) 50 (by rfl) (by rfl) (by rfl) Hr2.out ?_
          refine hK.out _ _ (fun _ => hS2) ?_
          clear hK K
          try simp only [Act.put, List.getElem_toArray, List.getElem_cons_zero, List.getElem_cons_succ, List.setIfInBounds_toArray, List.set_cons_zero, List.set_cons_succ]
          refine wpAnyL_one 16 (by kernel_rfl) rfl (fun K hK => ?_)
          go_simp
          refine hK.out _ _ (fun h => absurd h (not_rem (by kernel_rfl))) ?_
          clear hK K
          try simp only [Act.put, List.getElem_toArray, List.getElem_cons_zero, List.getElem_cons_succ, List.setIfInBounds_toArray, List.set_cons_zero, List.set_cons_succ]
          refine wpAnyL_done (by kernel_rfl) ?_ _
          go_wp2
          go_roundg g2
          case measure => omega
          case rel => exact ⟨j + 1, by go_num, by omega, Lib.hid (by rw [hnx.out]; exact Hn2.out), HB2⟩
        · have hji : ¬ ((j : Int) < (N : Int)) := by omega
          have Hr' := Lib.hid (show New (OInts 3) wo.heap.size wi (.slice ra rn' rc') (rowOf' N (fun j => ent m p (l.getD j 0).toNat)) from by have h := Hr.out; rw [show j = N from by omega, List.take_of_length_le (by rw [rowOf_len]; exact Nat.le_refl _)] at h; exact h)
          have hkl := Lib.hid (show (PT.take k).length ≤ 9 from by rw [List.length_take]; omega)
          have HK := Lib.hid (show PT.take (k + 1) = PT.take k ++ [rowOf' N (fun j => ent m p (l.getD j 0).toNat)] from by rw [List.take_add_one, HPk.out]; rfl)
          clear Hr
          go_wp2_with (at_builtin; refine wpl_push (w0 := wo) (lo := w.heap.size) (OInts.kept _) rfl (.tmp 39) (.tmp 41) 41 rfl 50 (.slice none 0 0) 24 Try.underlying41 infoR rfl Hn.out hle (HB.out.alloc HB.out.size _) (New.keep (OInts.kept _) Hr'.out ((Below.refl wi.heap.size _).alloc (Nat.le_refl _) _) (Nat.le_refl _)) (bb := wi.heap.size) (c := 1) (by simp) rfl rfl (by have := hkl.out; omega) (by have := hkl.out; omega) ?_; intro v3 w3 hn3 _ _ hb3; have Hn3 := Lib.hid hn3; have Hb3 := Lib.hid hb3; clear hn3 hb3)
          go_roundg g
          case measure => omega
          case rel => exact ⟨k + 1, by go_num, by omega, Lib.hid (by rw [HK.out]; exact Hn3.out), Lib.hid (Hb.out.trans Hb3.out)⟩
    · have hki : ¬ ((k : Int) < (N : Int)) := by omega
      have Hr := Lib.hid (show New (OTab 3 50) w.heap.size wo (.slice oa on' oc) PT from by have h := Hn.out; rw [List.take_of_length_le (by have := HPl.out; omega)] at h; exact h)
      clear Hn
      go_wp2
      go_ret
      exact ⟨_, rfl, Hr.out, Hb.out⟩
end Go.Proofs.Ytdohepngandajaa
