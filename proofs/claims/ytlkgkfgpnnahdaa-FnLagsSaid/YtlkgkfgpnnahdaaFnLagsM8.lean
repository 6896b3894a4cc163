/-
  Texts of this claim joined: laws for its walks, contracts of the functions that the law reaches.
-/
import Derived.Test.YtlkgkfgpnnahdaaFnLagsM7
import Derived.Test.YtlkgkfgpnnahdaaFnLagsM3
import Derived.Test.YtlkgkfgpnnahdaaFnLagsM1
import Derived.Test.YtlkgkfgpnnahdaaFnLagsM2
import Derived.Deep.OwnRows
import Derived.OwnWalk
section
/-
  Some rows and columns of a table, both sides.
-/
namespace Go.Proofs.Ytlkgkfgpnnahdaa
open Go.RowKit Go.Deep Go.Sd
set_option linter.unusedSimpArgs false
theorem nat_at {l : List Int} {n k : Nat} (hl : ∀ x, x ∈ l → 0 ≤ x ∧ x < (n : Int)) (hk : k < l.length) : ∃ p : Nat, l[k]? = some (p : Int) ∧ p < n ∧ (l.getD k 0).toNat = p := by
  have h1 : l[k]? = some l[k] := List.getElem?_eq_getElem hk
  have h2 := hl l[k] (List.getElem_mem hk)
  refine ⟨l[k].toNat, by rw [h1, Int.toNat_of_nonneg h2.1], by omega, by simp [List.getD, h1]⟩
theorem partT_len (m : List (List Int)) (l : List Int) : (partT m l).length = l.length := tabOf_len _ _ _
theorem partT_at {m : List (List Int)} {l : List Int} {k p : Nat} (hk : k < l.length) (hp : (l.getD k 0).toNat = p) : (partT m l)[k]? = some (rowOf' l.length (fun j => ent m p (l.getD j 0).toNat)) := by
  unfold partT
  rw [tabOf_at hk, hp]
theorem rowOf_next {n : Nat} {f : Nat → Int} {j : Nat} {x : Int} (hj : j < n) (hx : f j = x) : (rowOf' n f).take (j + 1) = (rowOf' n f).take j ++ [x] := by
  rw [List.take_add_one, rowOf_at hj, hx]; rfl
set_option maxHeartbeats 1000000 in
set_option maxRecDepth 100000 in
theorem picked_c {w : World} {va vl : Value} {m : List (List Int)} {l : List Int} {n : Nat} (h1 : Tab w va m) (hs : Sq n m) (hn : n ≤ 9) (h2 : Ints w vl l) (hl : ∀ x, x ∈ l → 0 ≤ x ∧ x < (n : Int)) (hln : l.length ≤ 9) :
    Calls Try.prog 209 #[va, vl] w (Makes (OTab 3 33) w (partT m l)) := by
  have Hat := Lib.hid (fun k (hk : k < l.length) => nat_at hl hk)
  have HE := Lib.hid (fun (h0 : 0 < n) => h1.entAt hs.1 hs.2 h0)
  have HL := Lib.hid (fun j x (h : l[j]? = some x) => h2.elOf h)
  have HP := Lib.hid (fun k p (hk : k < l.length) (hp : (l.getD k 0).toNat = p) => partT_at (m := m) hk hp)
  have HPl := Lib.hid (partT_len m l)
  obtain ⟨va0, vc0, rfl, -⟩ := h1.shape
  obtain ⟨la, lc, rfl, -⟩ := h2.shape
  rw [hs.1] at HE ⊢
  obtain ⟨N, hN⟩ : ∃ N, N = l.length := ⟨_, rfl⟩
  rw [← hN] at Hat HP HPl HL hln ⊢
  generalize partT m l = PT at *
  clear h1 h2 hl hN hs
  go_enter Try.func209, Try.ntmps209
  go_wp2
  go_loopg [5, 14] N (fun g v ii wr => ∃ (k : Nat), ii = .int .i64 k ∧ k + g = N ∧ Hid (New (OTab 3 33) w.heap.size wr v (PT.take k)) ∧ Hid (Below w.heap.size w wr))
  case atStart => exact ⟨0, rfl, by omega, Lib.hid (New.empty w (Nat.le_refl _)), Lib.hid ((Below.refl _ _).alloc (Nat.le_refl _) _)⟩
  case round =>
    obtain ⟨k, rfl, hk, Hn, Hb⟩ := hrel
    obtain ⟨wo, rfl⟩ : ∃ x, x = wr := ⟨_, rfl⟩
    have hle := Hb.out.size
    obtain ⟨oa, on', oc, rfl⟩ := Hn.out.slice
    by_cases hkn : k < N
    · have hki : (k : Int) < (N : Int) := by omega
      obtain ⟨g, rfl⟩ : ∃ x, gk = x + 1 := ⟨gk - 1, by omega⟩
      obtain ⟨p, hp, hpn, hpd⟩ := Hat.out k hkn
      have HPk := Lib.hid (HP.out k p hkn hpd)
      obtain ⟨lb, lo, lc2, hv, hlb, gl⟩ := HL.out k _ hp
      simp only [Value.slice.injEq] at hv
      obtain ⟨rfl, -, rfl⟩ := hv
      obtain ⟨ab, ao, ac, hv, hab, hae⟩ := HE.out (by omega)
      simp only [Value.slice.injEq] at hv
      obtain ⟨rfl, -, rfl⟩ := hv
      obtain ⟨rb, ro, rc, hA1, hrb, -, hA2⟩ := hae.at hpn (by omega)
      have Hrow := Lib.hid hA2
      clear hae hA2 hp hpd
      have g1 := (Hb.out.cell (p := ⟨lb, lo + k, none⟩) hlb).trans gl
      have HBo := Lib.hid (show Below w.heap.size w (wo.alloc (.cells #[] 3)) from Hb.out.alloc hle _)
      have Hno := Lib.hid (show New (OInts 3) wo.heap.size (wo.alloc (.cells #[] 3)) (.slice (some ⟨wo.heap.size, 0, none⟩) 0 0) ((rowOf' N (fun j => ent m p (l.getD j 0).toNat)).take 0) from New.empty wo (Nat.le_refl _))
      have HBi := Lib.hid (show Below wo.heap.size wo (wo.alloc (.cells #[] 3)) from (Below.refl _ _).alloc (Nat.le_refl _) _)
      go_wp2
      go_loopg [8, 21] N (fun g2 v jj wr2 => ∃ (j : Nat), jj = .int .i64 j ∧ j + g2 = N ∧ Hid (New (OInts 3) wo.heap.size wr2 v ((rowOf' N (fun j => ent m p (l.getD j 0).toNat)).take j)) ∧ Hid (Below wo.heap.size wo wr2))
      case atStart => exact ⟨0, rfl, by omega, Hno, HBi⟩
      case round =>
        clear Hno HBi HBo g1
        obtain ⟨j, rfl, hj, Hr, HB⟩ := hrel
        obtain ⟨wi, rfl⟩ : ∃ x, x = wr := ⟨_, rfl⟩
        have hzi := HB.out.size
        obtain ⟨ra, rn', rc', rfl⟩ := Hr.out.slice
        have HBw := Lib.hid (Hb.out.trans (HB.out.mono hle))
        by_cases hjn : j < N
        · have hji : (j : Int) < (N : Int) := by omega
          obtain ⟨g2, rfl⟩ : ∃ x, gk = x + 1 := ⟨gk - 1, by omega⟩
          obtain ⟨q, hq, hqn, hqd⟩ := Hat.out j hjn
          obtain ⟨lb2, lo2, lc3, hv, -, glj⟩ := HL.out j _ hq
          simp only [Value.slice.injEq, Option.some.injEq, Addr.mk.injEq] at hv
          obtain ⟨⟨rfl, rfl, -⟩, -, rfl⟩ := hv
          have gx := Hrow.out q hqn
          have hpi : (p : Int) < (n : Int) := by omega
          have hqi : (q : Int) < (n : Int) := by omega
          have hnx := Lib.hid (rowOf_next (n := N) (f := fun j => ent m p (l.getD j 0).toNat) (x := ent m p q) hjn (by simp only [hqd]))
          have hrl := Lib.hid (show ((rowOf' N (fun j => ent m p (l.getD j 0).toNat)).take j).length ≤ 9 from by rw [List.length_take]; omega)
          generalize ent m p q = x at gx hnx
          have hge : lb < w.heap.size ∧ ab < w.heap.size ∧ rb < w.heap.size := ⟨hlb, hab, hrb⟩
          clear hq hqd
          have gj := (HBw.out.cell (p := ⟨lb, lo + j, none⟩) hge.1).trans glj
          have gm := (HBw.out.cell (p := ⟨ab, ao + p, none⟩) hge.2.1).trans hA1
          have ge := (HBw.out.cell (p := ⟨rb, ro + q, none⟩) hge.2.2).trans gx
          have c1 : lb < wi.heap.size := by have := HBw.out.size; omega
          have c2 : ab < wi.heap.size := by have := HBw.out.size; omega
          have c3 : rb < wi.heap.size := by have := HBw.out.size; omega
          clear gx glj hA1 gl
          go_wp2_with (at_builtin; refine wpl_push (w0 := wi) (lo := wo.heap.size) (y := x) OIntR.kept rfl (.tmp 25) (.tmp 33) 33 rfl 3 (.int .i64 0) 8 Try.underlying33 infoI rfl Hr.out hzi ((Below.refl _ _).alloc (Nat.le_refl _) _) ⟨[], ⟨rfl, rfl⟩, by simp [Fresh]⟩ (bb := wi.heap.size) (c := 1) (by simp) rfl rfl (by have := hrl.out; omega) (by have := hrl.out; omega) ?_; intro v2 w2 hn2 _ _ hb2; have Hn2 := Lib.hid hn2; have HB2 := Lib.hid (HB.out.trans hb2); clear hn2 hb2)
          go_roundg g2
          case measure => omega
          case rel => exact ⟨j + 1, by go_num, by omega, Lib.hid (by rw [hnx.out]; exact Hn2.out), HB2⟩
        · have hji : ¬ ((j : Int) < (N : Int)) := by omega
          have Hr' := Lib.hid (show New (OInts 3) wo.heap.size wi (.slice ra rn' rc') (rowOf' N (fun j => ent m p (l.getD j 0).toNat)) from by have h := Hr.out; rw [show j = N from by omega, List.take_of_length_le (by rw [rowOf_len]; exact Nat.le_refl _)] at h; exact h)
          have hkl := Lib.hid (show (PT.take k).length ≤ 9 from by rw [List.length_take]; omega)
          have HK := Lib.hid (show PT.take (k + 1) = PT.take k ++ [rowOf' N (fun j => ent m p (l.getD j 0).toNat)] from by rw [List.take_add_one, HPk.out]; rfl)
          clear Hr
          go_wp2_with (at_builtin; refine wpl_push (w0 := wo) (lo := w.heap.size) (OInts.kept _) rfl (.tmp 36) (.tmp 38) 24 rfl 33 (.slice none 0 0) 24 Try.underlying24 infoR rfl Hn.out hle (HB.out.alloc HB.out.size _) (New.keep (OInts.kept _) Hr'.out ((Below.refl wi.heap.size _).alloc (Nat.le_refl _) _) (Nat.le_refl _)) (bb := wi.heap.size) (c := 1) (by simp) rfl rfl (by have := hkl.out; omega) (by have := hkl.out; omega) ?_; intro v3 w3 hn3 _ _ hb3; have Hn3 := Lib.hid hn3; have Hb3 := Lib.hid hb3; clear hn3 hb3)
          go_roundg g
          case measure => omega
          case rel => exact ⟨k + 1, by go_num, by omega, Lib.hid (by rw [HK.out]; exact Hn3.out), Lib.hid (Hb.out.trans Hb3.out)⟩
    · have hki : ¬ ((k : Int) < (N : Int)) := by omega
      have Hr := Lib.hid (show New (OTab 3 33) w.heap.size wo (.slice oa on' oc) PT from by have h := Hn.out; rw [List.take_of_length_le (by have := HPl.out; omega)] at h; exact h)
      clear Hn
      go_wp2
      go_ret
      exact ⟨_, rfl, Hr.out, Hb.out⟩
set_option maxHeartbeats 1000000 in
set_option maxRecDepth 100000 in
theorem l5Part_c {w : World} {va vl : Value} {m : List (List Int)} {l : List Int} {n : Nat} (h1 : Tab w va m) (hs : Sq n m) (hn : n ≤ 9) (h2 : Ints w vl l) (hl : ∀ x, x ∈ l → 0 ≤ x ∧ x < (n : Int)) (hln : l.length ≤ 9) :
    Calls Try.prog 211 #[va, vl] w (Makes (OTab 3 33) w (partT m l)) := by
  have Hat := Lib.hid (fun k (hk : k < l.length) => nat_at hl hk)
  have HE := Lib.hid (fun (h0 : 0 < n) => h1.entAt hs.1 hs.2 h0)
  have HL := Lib.hid (fun j x (h : l[j]? = some x) => h2.elOf h)
  have HP := Lib.hid (fun k p (hk : k < l.length) (hp : (l.getD k 0).toNat = p) => partT_at (m := m) hk hp)
  have HPl := Lib.hid (partT_len m l)
  obtain ⟨va0, vc0, rfl, -⟩ := h1.shape
  obtain ⟨la, lc, rfl, -⟩ := h2.shape
  rw [hs.1] at HE ⊢
  obtain ⟨N, hN⟩ : ∃ N, N = l.length := ⟨_, rfl⟩
  rw [← hN] at Hat HP HPl HL hln ⊢
  generalize partT m l = PT at *
  clear h1 h2 hl hN hs
  go_enter Try.func211, Try.ntmps211
  go_wp2
  go_loopg [5, 6] N (fun g v ii wr => ∃ (k : Nat), ii = .int .i64 k ∧ k + g = N ∧ Hid (New (OTab 3 33) w.heap.size wr v (PT.take k)) ∧ Hid (Below w.heap.size w wr))
  case atStart => exact ⟨0, rfl, by omega, Lib.hid (New.empty w (Nat.le_refl _)), Lib.hid ((Below.refl _ _).alloc (Nat.le_refl _) _)⟩
  case round =>
    obtain ⟨k, rfl, hk, Hn, Hb⟩ := hrel
    obtain ⟨wo, rfl⟩ : ∃ x, x = wr := ⟨_, rfl⟩
    have hle := Hb.out.size
    obtain ⟨oa, on', oc, rfl⟩ := Hn.out.slice
    by_cases hkn : k < N
    · have hki : (k : Int) < (N : Int) := by omega
      obtain ⟨g, rfl⟩ : ∃ x, gk = x + 1 := ⟨gk - 1, by omega⟩
      obtain ⟨p, hp, hpn, hpd⟩ := Hat.out k hkn
      have HPk := Lib.hid (HP.out k p hkn hpd)
      obtain ⟨lb, lo, lc2, hv, hlb, gl⟩ := HL.out k _ hp
      simp only [Value.slice.injEq] at hv
      obtain ⟨rfl, -, rfl⟩ := hv
      obtain ⟨ab, ao, ac, hv, hab, hae⟩ := HE.out (by omega)
      simp only [Value.slice.injEq] at hv
      obtain ⟨rfl, -, rfl⟩ := hv
      obtain ⟨rb, ro, rc, hA1, hrb, -, hA2⟩ := hae.at hpn (by omega)
      have Hrow := Lib.hid hA2
      clear hae hA2 hp hpd
      have g1 := (Hb.out.cell (p := ⟨lb, lo + k, none⟩) hlb).trans gl
      have HBo := Lib.hid (show Below w.heap.size w (wo.alloc (.cells #[] 3)) from Hb.out.alloc hle _)
      have Hno := Lib.hid (show New (OInts 3) wo.heap.size (wo.alloc (.cells #[] 3)) (.slice (some ⟨wo.heap.size, 0, none⟩) 0 0) ((rowOf' N (fun j => ent m p (l.getD j 0).toNat)).take 0) from New.empty wo (Nat.le_refl _))
      have HBi := Lib.hid (show Below wo.heap.size wo (wo.alloc (.cells #[] 3)) from (Below.refl _ _).alloc (Nat.le_refl _) _)
      go_wp2
      go_loopg [7, 8] N (fun g2 v jj wr2 => ∃ (j : Nat), jj = .int .i64 j ∧ j + g2 = N ∧ Hid (New (OInts 3) wo.heap.size wr2 v ((rowOf' N (fun j => ent m p (l.getD j 0).toNat)).take j)) ∧ Hid (Below wo.heap.size wo wr2))
      case atStart => exact ⟨0, rfl, by omega, Hno, HBi⟩
      case round =>
        clear Hno HBi HBo g1
        obtain ⟨j, rfl, hj, Hr, HB⟩ := hrel
        obtain ⟨wi, rfl⟩ : ∃ x, x = wr := ⟨_, rfl⟩
        have hzi := HB.out.size
        obtain ⟨ra, rn', rc', rfl⟩ := Hr.out.slice
        have HBw := Lib.hid (Hb.out.trans (HB.out.mono hle))
        by_cases hjn : j < N
        · have hji : (j : Int) < (N : Int) := by omega
          obtain ⟨g2, rfl⟩ : ∃ x, gk = x + 1 := ⟨gk - 1, by omega⟩
          obtain ⟨q, hq, hqn, hqd⟩ := Hat.out j hjn
          obtain ⟨lb2, lo2, lc3, hv, -, glj⟩ := HL.out j _ hq
          simp only [Value.slice.injEq, Option.some.injEq, Addr.mk.injEq] at hv
          obtain ⟨⟨rfl, rfl, -⟩, -, rfl⟩ := hv
          have gx := Hrow.out q hqn
          have hpi : (p : Int) < (n : Int) := by omega
          have hqi : (q : Int) < (n : Int) := by omega
          have hnx := Lib.hid (rowOf_next (n := N) (f := fun j => ent m p (l.getD j 0).toNat) (x := ent m p q) hjn (by simp only [hqd]))
          have hrl := Lib.hid (show ((rowOf' N (fun j => ent m p (l.getD j 0).toNat)).take j).length ≤ 9 from by rw [List.length_take]; omega)
          generalize ent m p q = x at gx hnx
          have hge : lb < w.heap.size ∧ ab < w.heap.size ∧ rb < w.heap.size := ⟨hlb, hab, hrb⟩
          clear hq hqd
          have HSf := Lib.hid (fun (wz : World) (hb3 : Below w.heap.size w wz) => (show wz.cell? ⟨lb, lo + k, none⟩ = some (.int .i64 p) ∧ wz.cell? ⟨ab, ao + p, none⟩ = some (.slice (some ⟨rb, ro, none⟩) n rc) ∧ wz.cell? ⟨lb, lo + j, none⟩ = some (.int .i64 q) ∧ wz.cell? ⟨rb, ro + q, none⟩ = some (.int .i64 x) from ⟨(hb3.cell (p := ⟨lb, lo + k, none⟩) hge.1).trans gl, (hb3.cell (p := ⟨ab, ao + p, none⟩) hge.2.1).trans hA1, (hb3.cell (p := ⟨lb, lo + j, none⟩) hge.1).trans glj, (hb3.cell (p := ⟨rb, ro + q, none⟩) hge.2.2).trans gx⟩))
          obtain ⟨w1, e1⟩ : ∃ x0, x0 = (wi.alloc (.cells #[.int .i64 x] 3)).drew := ⟨_, rfl⟩
          have hb1 : Below wi.heap.size wi w1 := by rw [e1]; exact ((Below.refl _ _).alloc (Nat.le_refl _) _).drew
          obtain ⟨v2, w2, hr2, hn2, -, hb2⟩ := run_push (P := Try.prog) (w := w1) OIntR.kept 33 33 3 (.int .i64 0) 8 Try.underlying33 infoI rfl Hr.out hzi hb1 (u := .int .i64 x) (y := x) ⟨[], ⟨rfl, rfl⟩, by simp [Fresh]⟩ (bb := wi.heap.size) (c := 1) (by rw [e1]; simp) (by have := hrl.out; omega) (by have := hrl.out; omega)
          have hSd : wi.drew.cell? ⟨lb, lo + k, none⟩ = some (.int .i64 p) ∧ wi.drew.cell? ⟨ab, ao + p, none⟩ = some (.slice (some ⟨rb, ro, none⟩) n rc) ∧ wi.drew.cell? ⟨lb, lo + j, none⟩ = some (.int .i64 q) ∧ wi.drew.cell? ⟨rb, ro + q, none⟩ = some (.int .i64 x) := HSf.out _ HBw.out.drew
          have hS1 : w1.cell? ⟨lb, lo + k, none⟩ = some (.int .i64 p) ∧ w1.cell? ⟨ab, ao + p, none⟩ = some (.slice (some ⟨rb, ro, none⟩) n rc) ∧ w1.cell? ⟨lb, lo + j, none⟩ = some (.int .i64 q) ∧ w1.cell? ⟨rb, ro + q, none⟩ = some (.int .i64 x) := HSf.out _ (HBw.out.trans (hb1.mono HBw.out.size))
          have Hn2 := Lib.hid hn2
          have HB2 := Lib.hid (HB.out.trans hb2)
          have hS2 : w2.cell? ⟨lb, lo + k, none⟩ = some (.int .i64 p) ∧ w2.cell? ⟨ab, ao + p, none⟩ = some (.slice (some ⟨rb, ro, none⟩) n rc) ∧ w2.cell? ⟨lb, lo + j, none⟩ = some (.int .i64 q) ∧ w2.cell? ⟨rb, ro + q, none⟩ = some (.int .i64 x) := HSf.out _ (Hb.out.trans (HB2.out.mono hle))
          have Hr2 := Lib.hid hr2
          have gk1 := (HBw.out.cell (p := ⟨lb, lo + k, none⟩) hge.1).trans gl
          clear hb1 hr2 hn2 hb2 gl hA1 glj gx
          go_wp2
          refine wp_region_L (fun w' => w'.cell? ⟨lb, lo + k, none⟩ = some (.int .i64 p) ∧ w'.cell? ⟨ab, ao + p, none⟩ = some (.slice (some ⟨rb, ro, none⟩) n rc) ∧ w'.cell? ⟨lb, lo + j, none⟩ = some (.int .i64 q) ∧ w'.cell? ⟨rb, ro + q, none⟩ = some (.int .i64 x)) (by kernel_rfl) ?_
          refine wpAnyL_take 0 (v := ?_) rfl (by kernel_rfl) (by kernel_rfl) (by kernel_rfl) (by kernel_rfl) (fun _ _ _ h => h) (Or.inl ⟨by rfl, ?_⟩) hSd ?_
          rotate_left
          · (intro w hSw; (try dsimp only at hSw); go_simp) <;> (try with_reducible rfl)
          try simp only [Act.put, List.getElem_toArray, List.getElem_cons_zero, List.getElem_cons_succ, List.setIfInBounds_toArray, List.set_cons_zero, List.set_cons_succ]
          refine wpAnyL_take 1 (v := ?_) rfl (by kernel_rfl) (by kernel_rfl) (by kernel_rfl) (by kernel_rfl) (fun _ _ _ h => h) (Or.inl ⟨by rfl, ?_⟩) hSd ?_
          rotate_left
          · (intro w hSw; (try dsimp only at hSw); go_simp) <;> (try with_reducible rfl)
          try simp only [Act.put, List.getElem_toArray, List.getElem_cons_zero, List.getElem_cons_succ, List.setIfInBounds_toArray, List.set_cons_zero, List.set_cons_succ]
          refine wpAnyL_take 2 (v := ?_) rfl (by kernel_rfl) (by kernel_rfl) (by kernel_rfl) (by kernel_rfl) (fun _ _ _ h => h) (Or.inl ⟨by rfl, ?_⟩) hSd ?_
          rotate_left
          · (intro w hSw; (try dsimp only at hSw); go_simp) <;> (try with_reducible rfl)
          try simp only [Act.put, List.getElem_toArray, List.getElem_cons_zero, List.getElem_cons_succ, List.setIfInBounds_toArray, List.set_cons_zero, List.set_cons_succ]
          refine wpAnyL_take 3 (v := ?_) rfl (by kernel_rfl) (by kernel_rfl) (by kernel_rfl) (by kernel_rfl) (fun _ _ _ h => h) (Or.inl ⟨by rfl, ?_⟩) hSd ?_
          rotate_left
          · (intro w hSw; (try dsimp only at hSw); go_simp) <;> (try with_reducible rfl)
          try simp only [Act.put, List.getElem_toArray, List.getElem_cons_zero, List.getElem_cons_succ, List.setIfInBounds_toArray, List.set_cons_zero, List.set_cons_succ]
          refine wpAnyL_take 4 (v := ?_) rfl (by kernel_rfl) (by kernel_rfl) (by kernel_rfl) (by kernel_rfl) (fun _ _ _ h => h) (Or.inl ⟨by rfl, ?_⟩) hSd ?_
          rotate_left
          · (intro w hSw; (try dsimp only at hSw); go_simp) <;> (try with_reducible rfl)
          try simp only [Act.put, List.getElem_toArray, List.getElem_cons_zero, List.getElem_cons_succ, List.setIfInBounds_toArray, List.set_cons_zero, List.set_cons_succ]
          refine wpAnyL_take 5 (v := ?_) rfl (by kernel_rfl) (by kernel_rfl) (by kernel_rfl) (by kernel_rfl) (fun _ _ _ h => h) (Or.inl ⟨by rfl, ?_⟩) hSd ?_
          rotate_left
          · (intro w hSw; (try dsimp only at hSw); go_simp) <;> (try with_reducible rfl)
          try simp only [Act.put, List.getElem_toArray, List.getElem_cons_zero, List.getElem_cons_succ, List.setIfInBounds_toArray, List.set_cons_zero, List.set_cons_succ]
          refine wpAnyL_take 6 (v := ?_) rfl (by kernel_rfl) (by kernel_rfl) (by kernel_rfl) (by kernel_rfl) (fun _ _ _ h => h) (Or.inl ⟨by rfl, ?_⟩) hSd ?_
          rotate_left
          · (intro w hSw; (try dsimp only at hSw); go_simp) <;> (try with_reducible rfl)
          try simp only [Act.put, List.getElem_toArray, List.getElem_cons_zero, List.getElem_cons_succ, List.setIfInBounds_toArray, List.set_cons_zero, List.set_cons_succ]
          refine wpAnyL_take 7 (v := ?_) rfl (by kernel_rfl) (by kernel_rfl) (by kernel_rfl) (by kernel_rfl) (fun _ _ _ h => h) (Or.inl ⟨by rfl, ?_⟩) hSd ?_
          rotate_left
          · (intro w hSw; (try dsimp only at hSw); go_simp) <;> (try with_reducible rfl)
          try simp only [Act.put, List.getElem_toArray, List.getElem_cons_zero, List.getElem_cons_succ, List.setIfInBounds_toArray, List.set_cons_zero, List.set_cons_succ]
          refine wpAnyL_take 8 (v := ?_) rfl (by kernel_rfl) (by kernel_rfl) (by kernel_rfl) (by kernel_rfl) (fun _ _ _ h => h) (Or.inl ⟨by rfl, ?_⟩) hSd ?_
          rotate_left
          · (intro w hSw; (try dsimp only at hSw); go_simp) <;> (try with_reducible rfl)
          try simp only [Act.put, List.getElem_toArray, List.getElem_cons_zero, List.getElem_cons_succ, List.setIfInBounds_toArray, List.set_cons_zero, List.set_cons_succ]
          refine wpAnyL_take 9 (v := ?_) rfl (by kernel_rfl) (by kernel_rfl) (by kernel_rfl) (by kernel_rfl) (fun _ _ _ h => h) (Or.inl ⟨by rfl, ?_⟩) hSd ?_
          rotate_left
          · (intro w hSw; (try dsimp only at hSw); go_simp) <;> (try with_reducible rfl)
          try simp only [Act.put, List.getElem_toArray, List.getElem_cons_zero, List.getElem_cons_succ, List.setIfInBounds_toArray, List.set_cons_zero, List.set_cons_succ]
          refine wpAnyL_take 10 (v := ?_) rfl (by kernel_rfl) (by kernel_rfl) (by kernel_rfl) (by kernel_rfl) (fun _ _ _ h => h) (Or.inl ⟨by rfl, ?_⟩) hSd ?_
          rotate_left
          · (intro w hSw; (try dsimp only at hSw); go_simp) <;> (try with_reducible rfl)
          try simp only [Act.put, List.getElem_toArray, List.getElem_cons_zero, List.getElem_cons_succ, List.setIfInBounds_toArray, List.set_cons_zero, List.set_cons_succ]
          refine wpAnyL_take 11 (v := ?_) rfl (by kernel_rfl) (by kernel_rfl) (by kernel_rfl) (by kernel_rfl) (fun _ _ _ h => h) (Or.inl ⟨by rfl, ?_⟩) hSd ?_
          rotate_left
          · (intro w hSw; (try dsimp only at hSw); go_simp) <;> (try with_reducible rfl)
          try simp only [Act.put, List.getElem_toArray, List.getElem_cons_zero, List.getElem_cons_succ, List.setIfInBounds_toArray, List.set_cons_zero, List.set_cons_succ]
          refine wpAnyL_take 12 (v := ?_) rfl (by kernel_rfl) (by kernel_rfl) (by kernel_rfl) (by kernel_rfl) (fun _ _ _ h => h) (Or.inl ⟨by rfl, ?_⟩) hSd ?_
          rotate_left
          · (intro w hSw; (try dsimp only at hSw); go_simp) <;> (try with_reducible rfl)
          try simp only [Act.put, List.getElem_toArray, List.getElem_cons_zero, List.getElem_cons_succ, List.setIfInBounds_toArray, List.set_cons_zero, List.set_cons_succ]
          refine wpAnyL_take 13 (v := ?_) rfl (by kernel_rfl) (by kernel_rfl) (by kernel_rfl) (by kernel_rfl) (fun _ _ _ h => h) (Or.inl ⟨by rfl, ?_⟩) hSd ?_
          rotate_left
          · (intro w hSw; (try dsimp only at hSw); go_simp) <;> (try with_reducible rfl)
          try simp only [Act.put, List.getElem_toArray, List.getElem_cons_zero, List.getElem_cons_succ, List.setIfInBounds_toArray, List.set_cons_zero, List.set_cons_succ]
          refine wpAnyL_one 14 (by kernel_rfl) rfl (fun K hK => ?_)
          go_simp
          refine hK.out _ _ (fun _ => (by rw [← e1]; exact hS1)) ?_
          clear hK K
          try simp only [Act.put, List.getElem_toArray, List.getElem_cons_zero, List.getElem_cons_succ, List.setIfInBounds_toArray, List.set_cons_zero, List.set_cons_succ]
          rw [← e1]
          refine wpAnyL_one 15 (by kernel_rfl) rfl (fun K hK => ?_)
          refine step_append_run (by rfl) (.tmp 23) (.tmp 37) 33 (by rfl) (by rfl) (by rfl) Hr2.out ?_
          refine hK.out _ _ (fun _ => hS2) ?_
          clear hK K
          try simp only [Act.put, List.getElem_toArray, List.getElem_cons_zero, List.getElem_cons_succ, List.setIfInBounds_toArray, List.set_cons_zero, List.set_cons_succ]
          refine wpAnyL_one 16 (by kernel_rfl) rfl (fun K hK => ?_)
          go_simp
          refine hK.out _ _ (fun h => absurd h (not_rem (by kernel_rfl))) ?_
          clear hK K
          try simp only [Act.put, List.getElem_toArray, List.getElem_cons_zero, List.getElem_cons_succ, List.setIfInBounds_toArray, List.set_cons_zero, List.set_cons_succ]
          refine wpAnyL_done (by kernel_rfl) ?_ _
          go_wp2
          go_roundg g2
          case measure => omega
          case rel => exact ⟨j + 1, by go_num, by omega, Lib.hid (by rw [hnx.out]; exact Hn2.out), HB2⟩
        · have hji : ¬ ((j : Int) < (N : Int)) := by omega
          have Hr' := Lib.hid (show New (OInts 3) wo.heap.size wi (.slice ra rn' rc') (rowOf' N (fun j => ent m p (l.getD j 0).toNat)) from by have h := Hr.out; rw [show j = N from by omega, List.take_of_length_le (by rw [rowOf_len]; exact Nat.le_refl _)] at h; exact h)
          have hkl := Lib.hid (show (PT.take k).length ≤ 9 from by rw [List.length_take]; omega)
          have HK := Lib.hid (show PT.take (k + 1) = PT.take k ++ [rowOf' N (fun j => ent m p (l.getD j 0).toNat)] from by rw [List.take_add_one, HPk.out]; rfl)
          clear Hr
          go_wp2_with (at_builtin; refine wpl_push (w0 := wo) (lo := w.heap.size) (OInts.kept _) rfl (.tmp 39) (.tmp 41) 24 rfl 33 (.slice none 0 0) 24 Try.underlying24 infoR rfl Hn.out hle (HB.out.alloc HB.out.size _) (New.keep (OInts.kept _) Hr'.out ((Below.refl wi.heap.size _).alloc (Nat.le_refl _) _) (Nat.le_refl _)) (bb := wi.heap.size) (c := 1) (by simp) rfl rfl (by have := hkl.out; omega) (by have := hkl.out; omega) ?_; intro v3 w3 hn3 _ _ hb3; have Hn3 := Lib.hid hn3; have Hb3 := Lib.hid hb3; clear hn3 hb3)
          go_roundg g
          case measure => omega
          case rel => exact ⟨k + 1, by go_num, by omega, Lib.hid (by rw [HK.out]; exact Hn3.out), Lib.hid (Hb.out.trans Hb3.out)⟩
    · have hki : ¬ ((k : Int) < (N : Int)) := by omega
      have Hr := Lib.hid (show New (OTab 3 33) w.heap.size wo (.slice oa on' oc) PT from by have h := Hn.out; rw [List.take_of_length_le (by have := HPl.out; omega)] at h; exact h)
      clear Hn
      go_wp2
      go_ret
      exact ⟨_, rfl, Hr.out, Hb.out⟩
end Go.Proofs.Ytlkgkfgpnnahdaa
end

section
/-
  Subsets in the order of their masks; sums of principal minors.
-/
namespace Go.Proofs.Ytlkgkfgpnnahdaa
open Go.RowKit Go.Deep Go.Sd
set_option linter.unusedSimpArgs false
theorem bit_shr' (s p : Nat) : bits BinOp.and IntKind.i64 ((s : Int) / 2 ^ p) 1 = if s.testBit p = true then 1 else 0 := by
  rw [i64_and1, Nat.testBit_eq_decide_div_mod_eq]
  have h : ((s : Int) / 2 ^ p) = ((s / 2 ^ p : Nat) : Int) := by simp
  rw [h]
  by_cases hb : s / 2 ^ p % 2 = 1
  · simp [hb]; omega
  · simp [hb]; omega
theorem shl_two (p : Nat) (h : p ≤ 4) : ∃ P : Nat, 2 ^ p = P ∧ 1 ≤ P ∧ P ≤ 16 ∧ wrap64 ((2 : Int) ^ p) = (P : Int) := by
  have h1 : 2 ^ p ≤ 2 ^ 4 := Nat.pow_le_pow_right (by decide) h
  have h0 : 0 < 2 ^ p := Nat.pow_pos (by decide)
  refine ⟨2 ^ p, rfl, h0, h1, ?_⟩
  rw [show ((2 : Int) ^ p) = ((2 ^ p : Nat) : Int) by simp]
  generalize 2 ^ p = P at h0 h1 ⊢
  exact IntWalk.wrap64_in _ (by omega)
/-- The subsets of k numbers among the first s sets. -/
def chL (n k : Nat) : Nat → List (List Int)
  | 0 => []
  | s + 1 => if (subL s n).length = k then chL n k s ++ [subL s n] else chL n k s
theorem chL_len (n k : Nat) : ∀ s, (chL n k s).length ≤ s
  | 0 => Nat.le_refl _
  | s + 1 => by
    have := chL_len n k s
    unfold chL
    split
    · simp; omega
    · omega
theorem chL_mem (n k : Nat) : ∀ s l, l ∈ chL n k s → l.length = k ∧ ∃ t, l = subL t n
  | 0, l, h => by simp [chL] at h
  | s + 1, l, h => by
    unfold chL at h
    split at h
    · rename_i he
      rcases List.mem_append.1 h with h | h
      · exact chL_mem n k s l h
      · simp at h
        subst h
        exact ⟨he, s, rfl⟩
    · exact chL_mem n k s l h
theorem minS_yes {m : List (List Int)} {n k s : Nat} (h : (subL s n).length = k) : minS m n k (s + 1) = minS m n k s + detP m (subL s n) := by rw [minS, if_pos h]
theorem minS_no {m : List (List Int)} {n k s : Nat} (h : (subL s n).length ≠ k) : minS m n k (s + 1) = minS m n k s := by rw [minS, if_neg h]
theorem chL_yes {n k s : Nat} (h : (subL s n).length = k) : chL n k (s + 1) = chL n k s ++ [subL s n] := by rw [chL, if_pos h]
theorem chL_no {n k s : Nat} (h : (subL s n).length ≠ k) : chL n k (s + 1) = chL n k s := by rw [chL, if_neg h]
set_option maxHeartbeats 1000000 in
set_option maxRecDepth 100000 in
theorem choices_c {w : World} {n k : Nat} (hn : n ≤ 4) :
    Calls Try.prog 207 #[.int .i64 n, .int .i64 k] w (Makes (OTab 3 33) w (chL n k (2 ^ n))) := by
  obtain ⟨P, hP, hP1, hP2, hw⟩ := shl_two n hn
  rw [hP]
  clear hP
  go_enter Try.func207, Try.ntmps207
  go_wp2
  rw [hw]
  go_loopg [5, 12] P (fun g v ii wr => ∃ (s : Nat), ii = .int .i64 s ∧ s + g = P ∧ Hid (New (OTab 3 33) w.heap.size wr v (chL n k s)) ∧ Hid (Below w.heap.size w wr))
  case atStart => exact ⟨0, rfl, by omega, Lib.hid (New.empty w (Nat.le_refl _)), Lib.hid ((Below.refl _ _).alloc (Nat.le_refl _) _)⟩
  case round =>
    obtain ⟨s, rfl, hs, Hn, Hb⟩ := hrel
    obtain ⟨wo, rfl⟩ : ∃ x, x = wr := ⟨_, rfl⟩
    have hle := Hb.out.size
    obtain ⟨oa, on', oc, rfl⟩ := Hn.out.slice
    by_cases hsP : s < P
    · have hsi : (s : Int) < (P : Int) := by omega
      obtain ⟨g, rfl⟩ : ∃ x, gk = x + 1 := ⟨gk - 1, by omega⟩
      have hcl := Lib.hid (show (chL n k s).length ≤ 16 from by have := chL_len n k s; omega)
      have Hno := Lib.hid (show New (OInts 3) wo.heap.size (wo.alloc (.cells #[] 3)) (.slice (some ⟨wo.heap.size, 0, none⟩) 0 0) (subL s 0) from New.empty wo (Nat.le_refl _))
      have HBi := Lib.hid (show Below wo.heap.size wo (wo.alloc (.cells #[] 3)) from (Below.refl _ _).alloc (Nat.le_refl _) _)
      go_wp2
      try rw [hw]
      go_loopg [7, 17] n (fun g2 v jj wr2 => ∃ (j : Nat), jj = .int .i64 j ∧ j + g2 = n ∧ Hid (New (OInts 3) wo.heap.size wr2 v (subL s j)) ∧ Hid (Below wo.heap.size wo wr2))
      case atStart => exact ⟨0, rfl, by omega, Hno, HBi⟩
      case round =>
        clear Hno HBi
        obtain ⟨j, rfl, hj, Hr, HB⟩ := hrel
        obtain ⟨wi, rfl⟩ : ∃ x, x = wr := ⟨_, rfl⟩
        have hzi := HB.out.size
        obtain ⟨ra, rc', rfl, -⟩ := (New.ints Hr.out).shape
        by_cases hjn : j < n
        · have hji : (j : Int) < (n : Int) := by omega
          obtain ⟨g2, rfl⟩ : ∃ x, gk = x + 1 := ⟨gk - 1, by omega⟩
          have hrl := Lib.hid (show (subL s j).length ≤ 4 from by have := subL_len s j; omega)
          have Hbs := Lib.hid (bit_shr' s j)
          have Hy := Lib.hid (fun (h : s.testBit j = true) => subL_yes h)
          have Hno := Lib.hid (fun (h : s.testBit j = false) => subL_no h)
          obtain ⟨ln, hln⟩ : ∃ x, x = (subL s j).length := ⟨_, rfl⟩
          have Hln := Lib.hid hln
          rw [← hln] at hrl Hr ⊢
          clear hln
          generalize s.testBit j = tb at Hbs Hy Hno
          cases tb with
          | false =>
            have hbs : bits BinOp.and IntKind.i64 ((s : Int) / 2 ^ j) 1 = 0 := by rw [Hbs.out]; rfl
            clear Hbs Hy
            go_wp2
            go_roundg g2
            case measure => omega
            case rel => exact ⟨j + 1, by go_num, by omega, Lib.hid (by rw [Hno.out (by simp)]; exact Hr.out), HB⟩
          | true =>
            have hbs : bits BinOp.and IntKind.i64 ((s : Int) / 2 ^ j) 1 = 1 := by rw [Hbs.out]; rfl
            clear Hbs Hno
            go_wp2_with (at_builtin; refine wpl_push (w0 := wi) (lo := wo.heap.size) (y := (j : Int)) OIntR.kept rfl (.tmp 25) (.tmp 27) 33 rfl 3 (.int .i64 0) 8 Try.underlying33 infoI rfl Hr.out hzi ((Below.refl _ _).alloc (Nat.le_refl _) _) ⟨[], ⟨rfl, rfl⟩, by simp [Fresh]⟩ (bb := wi.heap.size) (c := 1) (by simp) rfl rfl (by have := hrl.out; have := Hln.out; omega) (by have := hrl.out; have := Hln.out; omega) ?_; intro v2 w2 hn2 _ _ hb2; have Hn2 := Lib.hid hn2; have HB2 := Lib.hid (HB.out.trans hb2); clear hn2 hb2)
            go_roundg g2
            case measure => omega
            case rel => exact ⟨j + 1, by go_num, by omega, Lib.hid (by rw [Hy.out (by simp)]; exact Hn2.out), HB2⟩
        · have hji : ¬ ((j : Int) < (n : Int)) := by omega
          have hjn' : j = n := by omega
          rw [hjn'] at Hr ⊢
          have hrl := Lib.hid (show (subL s n).length ≤ 4 from by have := subL_len s n; omega)
          clear hjn hjn' hji
          obtain ⟨ln, hln⟩ : ∃ x, x = (subL s n).length := ⟨_, rfl⟩
          have Hln := Lib.hid hln
          rw [← hln] at hrl Hr ⊢
          clear hln
          by_cases hek : ln = k
          · have Hc := Lib.hid (chL_yes (n := n) (k := k) (s := s) (by rw [← Hln.out]; exact hek))
            have t1 : ((ln : Int) == (k : Int)) = true := by simp [hek]
            clear hek
            go_wp2_with (at_builtin; refine wpl_push (w0 := wo) (lo := w.heap.size) (OInts.kept _) rfl (.tmp 34) (.tmp 36) 24 rfl 33 (.slice none 0 0) 24 Try.underlying24 infoR rfl Hn.out hle (HB.out.alloc HB.out.size _) (New.keep (OInts.kept _) Hr.out ((Below.refl wi.heap.size _).alloc (Nat.le_refl _) _) (Nat.le_refl _)) (bb := wi.heap.size) (c := 1) (by simp) rfl rfl (by have := hcl.out; omega) (by have := hcl.out; omega) ?_; intro v3 w3 hn3 _ _ hb3; have Hn3 := Lib.hid hn3; have Hb3 := Lib.hid hb3; clear hn3 hb3)
            go_roundg g
            case measure => omega
            case rel => exact ⟨s + 1, by go_num, by omega, Lib.hid (by rw [Hc.out]; exact Hn3.out), Lib.hid (Hb.out.trans Hb3.out)⟩
          · have Hc := Lib.hid (chL_no (n := n) (k := k) (s := s) (by rw [← Hln.out]; exact hek))
            have t1 : ((ln : Int) == (k : Int)) = false := by simp; omega
            have Hn3 := Lib.hid (Hn.out.keep (OTab.kept _ _) HB.out (Nat.le_refl _))
            clear hek
            go_wp2
            go_roundg g
            case measure => omega
            case rel => exact ⟨s + 1, by go_num, by omega, Lib.hid (by rw [Hc.out]; exact Hn3.out), Lib.hid (Hb.out.trans (HB.out.mono hle))⟩
    · have hsi : ¬ ((s : Int) < (P : Int)) := by omega
      have Hr := Lib.hid (show New (OTab 3 33) w.heap.size wo (.slice oa on' oc) (chL n k P) from by rw [show P = s from by omega]; exact Hn.out)
      clear Hn
      go_wp2
      go_ret
      exact ⟨_, rfl, Hr.out, Hb.out⟩
set_option maxHeartbeats 1000000 in
set_option maxRecDepth 100000 in
theorem l7Minors_c {w : World} {va : Value} {m : List (List Int)} {n k : Nat} (h : Tab w va m) (hsq : Sq n m) (hn : n ≤ 4) (hbd : Bd 9 m) :
    Calls Try.prog 182 #[va, .int .i64 k] w fun e w' => e = .returned (.int .i64 (minS m n k (2 ^ n))) ∧ Below w.heap.size w w' := by
  obtain ⟨P, hP, hP1, hP2, hw⟩ := shl_two n hn
  have Hlim := Lib.hid (fun (s : Nat) (hs : s ≤ P) => minS_bd16 (k := k) (s := s) hsq hn hbd (by omega))
  have HDb := Lib.hid (fun (s : Nat) => detP_bd (l := subL s n) hsq hn hbd (fun x hx => subL_mem hx) (subL_len s n))
  have HC := Lib.hid (fun (w1 : World) (vl : Value) (s : Nat) (hb : Below w.heap.size w w1) (hl : Ints w1 vl (subL s n)) => l5Part_c (Tab.frame _ _ _ _ h hb) hsq (by omega) hl (fun x hx => subL_mem hx) (by have := subL_len s n; omega))
  have HD := Lib.hid (fun (w1 : World) (v : Value) (s : Nat) (h1 : Tab w1 v (partT m (subL s n))) => (show Calls Try.prog 210 #[v] w1 (fun e w' => e = .returned (.int .i64 (detP m (subL s n))) ∧ Below w1.heap.size w1 w') from spec_det_c _ (by have := subL_len s n; omega) h1 (partT_sq m _) (partT_bd hsq hbd fun x hx => subL_mem hx)))
  obtain ⟨va0, vc0, rfl, -⟩ := h.shape
  rw [hsq.1] at HC ⊢
  rw [hP]
  clear h hsq hP hbd
  have hk16 := (detB_mono k)
  go_enter Try.func182, Try.ntmps182
  go_wp2
  go_loopg [5, 6] P (fun g v ii wr => ∃ (s : Nat) (S : Int), v = .int .i64 S ∧ ii = .int .i64 s ∧ s + g = P ∧ Hid (S = minS m n k s) ∧ Hid (Below w.heap.size w wr))
  case atStart => exact ⟨0, 0, rfl, rfl, by omega, Lib.hid rfl, Lib.hid (Below.refl _ _)⟩
  case round =>
    obtain ⟨s, S, rfl, rfl, hs, HS, Hb⟩ := hrel
    obtain ⟨wo, rfl⟩ : ∃ x, x = wr := ⟨_, rfl⟩
    have hle := Hb.out.size
    by_cases hsP : s < P
    · have hsi : (s : Int) < (P : Int) := by omega
      obtain ⟨g, rfl⟩ : ∃ x, gk = x + 1 := ⟨gk - 1, by omega⟩
      have hSb := Hlim.out s (by omega)
      rw [← HS.out] at hSb
      have Hno := Lib.hid (show New (OInts 3) wo.heap.size (wo.alloc (.cells #[] 3)) (.slice (some ⟨wo.heap.size, 0, none⟩) 0 0) (subL s 0) from New.empty wo (Nat.le_refl _))
      have HBi := Lib.hid (show Below wo.heap.size wo (wo.alloc (.cells #[] 3)) from (Below.refl _ _).alloc (Nat.le_refl _) _)
      go_wp2
      try rw [hw]
      go_loopg [7, 8] n (fun g2 v jj wr2 => ∃ (j : Nat), jj = .int .i64 j ∧ j + g2 = n ∧ Hid (New (OInts 3) wo.heap.size wr2 v (subL s j)) ∧ Hid (Below wo.heap.size wo wr2))
      case atStart => exact ⟨0, rfl, by omega, Hno, HBi⟩
      case round =>
        clear Hno HBi
        obtain ⟨j, rfl, hj, Hr, HB⟩ := hrel
        obtain ⟨wi, rfl⟩ : ∃ x, x = wr := ⟨_, rfl⟩
        have hzi := HB.out.size
        obtain ⟨ra, rc', rfl, -⟩ := (New.ints Hr.out).shape
        by_cases hjn : j < n
        · have hji : (j : Int) < (n : Int) := by omega
          obtain ⟨g2, rfl⟩ : ∃ x, gk = x + 1 := ⟨gk - 1, by omega⟩
          have hrl := Lib.hid (show (subL s j).length ≤ 4 from by have := subL_len s j; omega)
          have Hbs := Lib.hid (bit_shr' s j)
          have Hy := Lib.hid (fun (h : s.testBit j = true) => subL_yes h)
          have Hno := Lib.hid (fun (h : s.testBit j = false) => subL_no h)
          obtain ⟨ln, hln⟩ : ∃ x, x = (subL s j).length := ⟨_, rfl⟩
          have Hln := Lib.hid hln
          rw [← hln] at hrl Hr ⊢
          clear hln
          generalize s.testBit j = tb at Hbs Hy Hno
          cases tb with
          | false =>
            have hbs : bits BinOp.and IntKind.i64 ((s : Int) / 2 ^ j) 1 = 0 := by rw [Hbs.out]; rfl
            clear Hbs Hy
            go_wp2
            go_roundg g2
            case measure => omega
            case rel => exact ⟨j + 1, by go_num, by omega, Lib.hid (by rw [Hno.out (by simp)]; exact Hr.out), HB⟩
          | true =>
            have hbs : bits BinOp.and IntKind.i64 ((s : Int) / 2 ^ j) 1 = 1 := by rw [Hbs.out]; rfl
            clear Hbs Hno
            go_wp2_with (at_builtin; refine wpl_push (w0 := wi) (lo := wo.heap.size) (y := (j : Int)) OIntR.kept rfl (.tmp 30) (.tmp 32) 33 rfl 3 (.int .i64 0) 8 Try.underlying33 infoI rfl Hr.out hzi ((Below.refl _ _).alloc (Nat.le_refl _) _) ⟨[], ⟨rfl, rfl⟩, by simp [Fresh]⟩ (bb := wi.heap.size) (c := 1) (by simp) rfl rfl (by have := hrl.out; have := Hln.out; omega) (by have := hrl.out; have := Hln.out; omega) ?_; intro v2 w2 hn2 _ _ hb2; have Hn2 := Lib.hid hn2; have HB2 := Lib.hid (HB.out.trans hb2); clear hn2 hb2)
            go_roundg g2
            case measure => omega
            case rel => exact ⟨j + 1, by go_num, by omega, Lib.hid (by rw [Hy.out (by simp)]; exact Hn2.out), HB2⟩
        · have hji : ¬ ((j : Int) < (n : Int)) := by omega
          have hjn' : j = n := by omega
          rw [hjn'] at Hr ⊢
          have hrl := Lib.hid (show (subL s n).length ≤ 4 from by have := subL_len s n; omega)
          clear hjn hjn' hji
          obtain ⟨ln, hln⟩ : ∃ x, x = (subL s n).length := ⟨_, rfl⟩
          have Hln := Lib.hid hln
          rw [← hln] at hrl Hr ⊢
          clear hln
          by_cases hek : ln = k
          · have Hc := Lib.hid (minS_yes (m := m) (n := n) (k := k) (s := s) (by rw [← Hln.out]; exact hek))
            have t1 : ((ln : Int) == (k : Int)) = true := by simp [hek]
            have HCl := Lib.hid (HC.out wi _ s (Hb.out.trans (HB.out.mono hle)) (New.ints Hr.out))
            have HDl := Lib.hid (fun w1 v h => HD.out w1 v s h)
            have hdb := HDb.out s
            have hd2 := detB_mono (subL s n).length
            generalize detP m (subL s n) = D at Hc HDl hdb
            have hdb2 : -157464 ≤ D ∧ D ≤ 157464 := by omega
            have hSb2 : -2519424 ≤ S ∧ S ≤ 2519424 := by omega
            have hw1 : IntKind.i64.wrap (S + D) = S + D := IntWalk.i64_in _ (by omega)
            clear hek hdb hd2 hSb HC HD
            go_wp2_with fail
            (with_reducible refine HCl.out.mono ?_)
            rintro e w3 ⟨v3, rfl, hn3, hb3⟩
            have HB3 := Lib.hid ((Hb.out.trans (HB.out.mono hle)).trans (hb3.mono (by omega)))
            have HDm := Lib.hid (HDl.out w3 v3 hn3.tab)
            clear hn3 hb3 HCl HDl
            go_wp2_with fail
            (with_reducible refine HDm.out.mono ?_)
            rintro e w4 ⟨rfl, hb4⟩
            have HB4 := Lib.hid (HB3.out.trans (hb4.mono HB3.out.size))
            clear hb4 HB3 HDm
            go_wp2
            go_roundg g
            case measure => omega
            case rel => exact ⟨s + 1, S + D, rfl, by go_num, by omega, Lib.hid (by rw [Hc.out, HS.out]), HB4⟩
          · have Hc := Lib.hid (minS_no (m := m) (n := n) (k := k) (s := s) (by rw [← Hln.out]; exact hek))
            have t1 : ((ln : Int) == (k : Int)) = false := by simp; omega
            clear hek hSb HC HD
            go_wp2
            go_roundg g
            case measure => omega
            case rel => exact ⟨s + 1, S, rfl, by go_num, by omega, Lib.hid (by rw [Hc.out, HS.out]), Lib.hid (Hb.out.trans (HB.out.mono hle))⟩
    · have hsi : ¬ ((s : Int) < (P : Int)) := by omega
      have HF := Lib.hid (show S = minS m n k P from by rw [show P = s from by omega]; exact HS.out)
      clear HS
      go_wp2
      go_ret
      exact ⟨by rw [← HF.out]; rfl, Hb.out⟩
end Go.Proofs.Ytlkgkfgpnnahdaa
end

section
/-
  Two own things that grow side by side; make as a law that hides the world; three results.
-/
namespace Go.Sd
open Go.RowKit Go.Deep

section
variable {P : Program} {α β : Type} {R : OwnRel α} {S : OwnRel β} {lo : Nat} {w : World} {v u : Value} {e : TypeId}
theorem Apart.mono {R : OwnRel α} {x : α} {y : β} {lo' : Nat} (h : Apart R S lo w v x u y) (hl : lo' ≤ lo) : Apart R S lo' w v x u y := by
  obtain ⟨F, G, h1, h2, h3, h4, h5⟩ := h
  exact ⟨F, G, h1, h2, ⟨h3.1, fun b hb => Nat.le_trans hl (h3.2 b hb)⟩, ⟨h4.1, fun b hb => Nat.le_trans hl (h4.2 b hb)⟩, h5⟩
/-- An element made since is put behind the first; the second stays as it is. -/
theorem Apart.grow (hR : Kept R) (hS : Kept S) (t ty : TypeId) (z : Value) (bytes : Nat) (ht : P.underlying t = some (.slice e)) (hinfo : (P.info? e).map (fun i => (i.zero, i.size, i.bytes)) = some (some z, 1, bytes)) (hz1 : z.cells = #[z])
    {xs : List α} {y : β} (h : Apart (OwnOf e R) S lo w v xs u y) (hlo : lo ≤ w.heap.size) {w1 : World} (hb : Below w.heap.size w w1) {q : Value} {x : α} (hq : New R w.heap.size w1 q x) {bb c : Nat} (hcell : w1.cell? ⟨bb, 0, none⟩ = some q) (hbytes : (xs.length + 1) * bytes ≤ 140737488355328) (h63 : xs.length + 1 ≤ 9223372036854775807) :
    ∃ v' w', (Builtin.append_ #[t, t] ty #[v, .slice (some ⟨bb, 0, none⟩) 1 c]).run P w1 = .ok v' w' ∧ Apart (OwnOf e R) S lo w' v' (xs ++ [x]) u y ∧ Below lo w w' := by
  obtain ⟨F, G, hF, hG, hn, hm, hd⟩ := h
  obtain ⟨H, hH, hHn, hHg⟩ := hq
  have hltF := (OwnOf.kept (e := e) hR).lt _ _ _ _ hF
  have hltG := hS.lt _ _ _ _ hG
  have hz := hb.size
  obtain ⟨v', w', F', hr, hF', hn', hs, hg, hv⟩ := push_run hR t ty e z bytes ht hinfo hz1 ((OwnOf.kept (e := e) hR).keep _ w1 _ _ _ hF fun b hm => hb.block b (hltF b hm)) hn.1 hH hHn (fun b hm hm2 => by have := hltF b hm; have := hHg b hm2; omega) (c := c) hcell hbytes h63
  refine ⟨v', w', hr, ⟨F', G, hF', hS.keep _ _ _ _ _ hG fun b hm2 => (hg.block b (by have := hltG b hm2; omega) fun e => hd b (hv b e.symm) hm2).trans (hb.block b (hltG b hm2)), ⟨hn', fun b hm2 => ?_⟩, hm, fun b hm2 hm3 => ?_⟩, (hb.mono hlo).grown hg (by omega) fun k hk => hn.2 k (hv k hk)⟩
  · rcases hs b hm2 with h1 | h1 | h1
    · exact hn.2 b h1
    · have := hHg b h1; omega
    · omega
  · rcases hs b hm2 with h1 | h1 | h1
    · exact hd b h1 hm3
    · have := hHg b h1; have := hltG b hm3; omega
    · have := hltG b hm3; omega
end

/-- An entry of the first, a table, is stored anew. -/
theorem Apart.tab_store {β : Type} {S : OwnRel β} {eI eR : TypeId} {lo : Nat} {w : World} {v u : Value} {m : List (List Int)} {y : β} (hS : Kept S) (h : Apart (OTab eI eR) S lo w v m u y) {i j : Nat} {r : List Int} {x : Int} (hr : m[i]? = some r) (hx : r[j]? = some x) :
    ∃ b c rb rc, v = .slice (some ⟨b, 0, none⟩) m.length c ∧ m.length ≤ c ∧ lo ≤ b ∧ b < w.heap.size ∧ w.cell? ⟨b, i, none⟩ = some (.slice (some ⟨rb, 0, none⟩) r.length rc) ∧ r.length ≤ rc ∧ lo ≤ rb ∧ rb < w.heap.size ∧
      w.cell? ⟨rb, j, none⟩ = some (.int .i64 x) ∧ w.frozen? ⟨rb, j, none⟩ = false ∧ ∀ z, Apart (OTab eI eR) S lo (w.setCell ⟨rb, j, none⟩ (.int .i64 z)) v (m.set i (r.set j z)) u y := by
  obtain ⟨F, G, hF, hG, hn, hm, hd⟩ := h
  have hlt := (OTab.kept eI eR).lt _ _ _ _ hF
  obtain ⟨b, c, q, Q, hv, hc, hbF, hbQ, hcell, _, hq, hQF, hQn, hst, _⟩ := hF.focus (OInts.kept eI) hn.1 hr
  obtain ⟨rb, rc, u2, G2, rfl, hrc, hrb, _, hcell2, hfr2, ⟨rfl, rfl⟩, _, _, _, hst2⟩ := hq.focus OIntR.kept hQn hx
  refine ⟨b, c, rb, rc, hv, hc, hn.2 b hbF, hlt b hbF, hcell, hrc, hn.2 rb (hQF rb hrb), hlt rb (hQF rb hrb), hcell2, hfr2, fun z => ?_⟩
  obtain ⟨F', hF', _, _, e⟩ := hst2 w (.int .i64 z) z [] ⟨rfl, rfl⟩ (by simp) (fun _ _ _ => rfl)
  rw [e rfl] at hF'
  exact ⟨F, G, hst _ _ hF' (fun q hq hqG => Below.heap_setCell _ _ _ _ (fun e => hqG (by have e2 : q = rb := e; exact e2 ▸ hrb))), hS.keep _ _ _ _ _ hG fun q hq => Below.heap_setCell _ _ _ _ (fun e => hd rb (hQF rb hrb) (by have e2 : q = rb := e; exact e2 ▸ hq)), hn, hm, hd⟩

/-- 'make([]T, n)' whose world is hidden. -/
theorem wpl_make {P : Program} {α : Type} {R : OwnRel α} {w : World} {ops : Array Oper} {rest : List Oper} {o : Oper} {a : Act} {Q : Exit → Act → World → Prop}
    (hg : o.guard = none) (l c : Operand) (t : TypeId) (hop : o.op = Op.makeSlice t l c)
    (e : TypeId) (z : Value) (bytes : Nat) (ht : P.underlying t = some (.slice e)) (hinfo : (P.info? e).map (fun i => (i.zero, i.size, i.bytes)) = some (some z, 1, bytes)) (hz1 : z.cells = #[z])
    (n : Nat) (hl : a.eval l = .int .i64 (n : Int)) (hc : a.eval c = .int .i64 (n : Int)) (hbytes : bytes * n ≤ 281474976710656) (h63 : n ≤ 9223372036854775807) {d : α} (hd : ∀ w, R w z d [])
    (hK : ∀ w', w'.heap.size = w.heap.size + 1 → New (OwnOf e R) w.heap.size w' (.slice (some ⟨w.heap.size, 0, none⟩) n n) (List.replicate n d) → Below w.heap.size w w' → wpList P ops Q rest (a.put o.dst (.slice (some ⟨w.heap.size, 0, none⟩) n n)) w') :
    wpList P ops Q (o :: rest) a w := by
  obtain ⟨i, hi, hzz⟩ := Option.map_eq_some_iff.1 hinfo
  simp only [Prod.mk.injEq] at hzz
  obtain ⟨hz, hs, hb⟩ := hzz
  refine wpList_make_row w hg l c t hop e i z ht hi hz hs hz1 .i64 .i64 n hl hc (by rw [hb]; exact hbytes) h63 ?_
  exact hK _ (by simp) (New.made e w z d n (Nat.le_refl _) h63 hd) ((Below.refl _ _).alloc (Nat.le_refl _) _)

/-- A call that makes two things that share no block, and answers a bool besides. -/
def Makes3 {α β : Type} (R : OwnRel α) (S : OwnRel β) (w : World) (x : α) (y : β) (ok : Bool) (e : Ending) (w' : World) : Prop :=
  ∃ r s, e = .returned (.tuple #[r, s, .bool ok]) ∧ Apart R S w.heap.size w' r x s y ∧ Below w.heap.size w w'
theorem Apart.nils {α β : Type} {R : OwnRel α} {S : OwnRel β} {e f : TypeId} (lo : Nat) (w : World) : Apart (OwnOf e R) (OwnOf f S) lo w (.slice none 0 0) [] (.slice none 0 0) [] :=
  ⟨[], [], OwnOf.nil w, OwnOf.nil w, by simp [Fresh], by simp [Fresh], by simp⟩
theorem Apart.empties {α β : Type} {R : OwnRel α} {S : OwnRel β} (hR : Kept R) {e f : TypeId} (w : World) {lo : Nat} (h : lo ≤ w.heap.size) :
    Apart (OwnOf e R) (OwnOf f S) lo ((w.alloc (.cells #[] e)).alloc (.cells #[] f)) (.slice (some ⟨w.heap.size, 0, none⟩) 0 0) [] (.slice (some ⟨w.heap.size + 1, 0, none⟩) 0 0) [] := by
  have h2 := New.empty (R := S) (e := f) (lo := (w.alloc (.cells #[] e)).heap.size) (w.alloc (.cells #[] e)) (Nat.le_refl _)
  have e2 : (w.alloc (.cells #[] e)).heap.size = w.heap.size + 1 := by simp
  have h3 := Apart.of_new (OwnOf.kept (e := e) hR) (New.empty w h) h2 ((Below.refl _ _).alloc (Nat.le_refl _) _) (by rw [e2]; omega)
  rw [e2] at h3
  exact h3
end Go.Sd
end
