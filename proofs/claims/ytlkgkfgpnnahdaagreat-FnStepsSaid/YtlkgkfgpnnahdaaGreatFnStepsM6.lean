/-
  Texts of this claim joined: laws for its walks, contracts of the functions that the law reaches.
-/
import Derived.Test.YtlkgkfgpnnahdaaGreatFnStepsM5
import Derived.Test.YtlkgkfgpnnahdaaGreatFnStepsM3
import Derived.Test.YtlkgkfgpnnahdaaGreatFnStepsM1
import Derived.Test.YtlkgkfgpnnahdaaGreatFnStepsM2
import Derived.Deep.OwnRows
import Derived.OwnWalk
section
/-
  Some rows and columns of a table, both sides.
-/
namespace Go.Proofs.YtlkgkfgpnnahdaaGreat
open Go.RowKit Go.Deep Go.Sd
set_option linter.unusedSimpArgs false
theorem nat_at {l : List Int} {n k : Nat} (hl : ∀ x, x ∈ l → 0 ≤ x ∧ x < (n : Int)) (hk : k < l.length) : ∃ p : Nat, l[k]? = some (p : Int) ∧ p < n ∧ (l.getD k 0).toNat = p := by
  have h1 : l[k]? = some l[k] := List.getElem?_eq_getElem hk
  have h2 := hl l[k] (List.getElem_mem hk)
  refine ⟨l[k].toNat, by rw [h1, Int.toNat_of_nonneg h2.1], by omega, by simp [List.getD, h1]⟩
theorem partT_len (m : List (List Int)) (l : List Int) : (partT m l).length = l.length := tabOf_len _ _ _
theorem partT_at {m : List (List Int)} {l : List Int} {k p : Nat} (hk : k < l.length) (hp : (l.getD k 0).toNat = p) : (partT m l)[k]? = some (rowOf' l.length (fun j => ent m p (l.getD j 0).toNat)) := by
  unfold partT
  rw [tabOf_at hk, hp]
theorem rowOf_next {n : Nat} {f : Nat → Int} {j : Nat} {x : Int} (hj : j < n) (hx : f j = x) : (rowOf' n f).take (j + 1) = (rowOf' n f).take j ++ [x] := by
  rw [List.take_add_one, rowOf_at hj, hx]; rfl
set_option maxHeartbeats 1000000 in
set_option maxRecDepth 100000 in
theorem l5Part_c {w : World} {va vl : Value} {m : List (List Int)} {l : List Int} {n : Nat} (h1 : Tab w va m) (hs : Sq n m) (hn : n ≤ 9) (h2 : Ints w vl l) (hl : ∀ x, x ∈ l → 0 ≤ x ∧ x < (n : Int)) (hln : l.length ≤ 9) :
    Calls Tryz.prog 114 #[va, vl] w (Makes (OTab 3 46) w (partT m l)) := by
  have Hat := Lib.hid (fun k (hk : k < l.length) => nat_at hl hk)
  have HE := Lib.hid (fun (h0 : 0 < n) => h1.entAt hs.1 hs.2 h0)
  have HL := Lib.hid (fun j x (h : l[j]? = some x) => h2.elOf h)
  have HP := Lib.hid (fun k p (hk : k < l.length) (hp : (l.getD k 0).toNat = p) => partT_at (m := m) hk hp)
  have HPl := Lib.hid (partT_len m l)
  obtain ⟨va0, vc0, rfl, -⟩ := h1.shape
  obtain ⟨la, lc, rfl, -⟩ := h2.shape
  rw [hs.1] at HE ⊢
  obtain ⟨N, hN⟩ : ∃ N, N = l.length := ⟨_, rfl⟩
  rw [← hN] at Hat HP HPl HL hln ⊢
  generalize partT m l = PT at *
  clear h1 h2 hl hN hs
  go_enter Tryz.func114, Tryz.ntmps114
  go_wp2
  go_loopg [5, 6] N (fun g v ii wr => ∃ (k : Nat), ii = .int .i64 k ∧ k + g = N ∧ Hid (New (OTab 3 46) w.heap.size wr v (PT.take k)) ∧ Hid (Below w.heap.size w wr))
  case atStart => exact ⟨0, rfl, by omega, Lib.hid (New.empty w (Nat.le_refl _)), Lib.hid ((Below.refl _ _).alloc (Nat.le_refl _) _)⟩
  case round =>
    obtain ⟨k, rfl, hk, Hn, Hb⟩ := hrel
    obtain ⟨wo, rfl⟩ : ∃ x, x = wr := ⟨_, rfl⟩
    have hle := Hb.out.size
    obtain ⟨oa, on', oc, rfl⟩ := Hn.out.slice
    by_cases hkn : k < N
    · have hki : (k : Int) < (N : Int) := by omega
      obtain ⟨g, rfl⟩ : ∃ x, gk = x + 1 := ⟨gk - 1, by omega⟩
      obtain ⟨p, hp, hpn, hpd⟩ := Hat.out k hkn
      have HPk := Lib.hid (HP.out k p hkn hpd)
      obtain ⟨lb, lo, lc2, hv, hlb, gl⟩ := HL.out k _ hp
      simp only [Value.slice.injEq] at hv
      obtain ⟨rfl, -, rfl⟩ := hv
      obtain ⟨ab, ao, ac, hv, hab, hae⟩ := HE.out (by omega)
      simp only [Value.slice.injEq] at hv
      obtain ⟨rfl, -, rfl⟩ := hv
      obtain ⟨rb, ro, rc, hA1, hrb, -, hA2⟩ := hae.at hpn (by omega)
      have Hrow := Lib.hid hA2
      clear hae hA2 hp hpd
      have g1 := (Hb.out.cell (p := ⟨lb, lo + k, none⟩) hlb).trans gl
      have HBo := Lib.hid (show Below w.heap.size w (wo.alloc (.cells #[] 3)) from Hb.out.alloc hle _)
      have Hno := Lib.hid (show New (OInts 3) wo.heap.size (wo.alloc (.cells #[] 3)) (.slice (some ⟨wo.heap.size, 0, none⟩) 0 0) ((rowOf' N (fun j => ent m p (l.getD j 0).toNat)).take 0) from New.empty wo (Nat.le_refl _))
      have HBi := Lib.hid (show Below wo.heap.size wo (wo.alloc (.cells #[] 3)) from (Below.refl _ _).alloc (Nat.le_refl _) _)
      go_wp2
      go_loopg [7, 8] N (fun g2 v jj wr2 => ∃ (j : Nat), jj = .int .i64 j ∧ j + g2 = N ∧ Hid (New (OInts 3) wo.heap.size wr2 v ((rowOf' N (fun j => ent m p (l.getD j 0).toNat)).take j)) ∧ Hid (Below wo.heap.size wo wr2))
      case atStart => exact ⟨0, rfl, by omega, Hno, HBi⟩
      case round =>
        clear Hno HBi HBo g1
        obtain ⟨j, rfl, hj, Hr, HB⟩ := hrel
        obtain ⟨wi, rfl⟩ : ∃ x, x = wr := ⟨_, rfl⟩
        have hzi := HB.out.size
        obtain ⟨ra, rn', rc', rfl⟩ := Hr.out.slice
        have HBw := Lib.hid (Hb.out.trans (HB.out.mono hle))
        by_cases hjn : j < N
        · have hji : (j : Int) < (N : Int) := by omega
          obtain ⟨g2, rfl⟩ : ∃ x, gk = x + 1 := ⟨gk - 1, by omega⟩
          obtain ⟨q, hq, hqn, hqd⟩ := Hat.out j hjn
          obtain ⟨lb2, lo2, lc3, hv, -, glj⟩ := HL.out j _ hq
          simp only [Value.slice.injEq, Option.some.injEq, Addr.mk.injEq] at hv
          obtain ⟨⟨rfl, rfl, -⟩, -, rfl⟩ := hv
          have gx := Hrow.out q hqn
          have hpi : (p : Int) < (n : Int) := by omega
          have hqi : (q : Int) < (n : Int) := by omega
          have hnx := Lib.hid (rowOf_next (n := N) (f := fun j => ent m p (l.getD j 0).toNat) (x := ent m p q) hjn (by simp only [hqd]))
          have hrl := Lib.hid (show ((rowOf' N (fun j => ent m p (l.getD j 0).toNat)).take j).length ≤ 9 from by rw [List.length_take]; omega)
          generalize ent m p q = x at gx hnx
          have hge : lb < w.heap.size ∧ ab < w.heap.size ∧ rb < w.heap.size := ⟨hlb, hab, hrb⟩
          clear hq hqd
          have HSf := Lib.hid (fun (wz : World) (hb3 : Below w.heap.size w wz) => (show wz.cell? ⟨lb, lo + k, none⟩ = some (.int .i64 p) ∧ wz.cell? ⟨ab, ao + p, none⟩ = some (.slice (some ⟨rb, ro, none⟩) n rc) ∧ wz.cell? ⟨lb, lo + j, none⟩ = some (.int .i64 q) ∧ wz.cell? ⟨rb, ro + q, none⟩ = some (.int .i64 x) from ⟨(hb3.cell (p := ⟨lb, lo + k, none⟩) hge.1).trans gl, (hb3.cell (p := ⟨ab, ao + p, none⟩) hge.2.1).trans hA1, (hb3.cell (p := ⟨lb, lo + j, none⟩) hge.1).trans glj, (hb3.cell (p := ⟨rb, ro + q, none⟩) hge.2.2).trans gx⟩))
          obtain ⟨w1, e1⟩ : ∃ x0, x0 = (wi.alloc (.cells #[.int .i64 x] 3)).drew := ⟨_, rfl⟩
          have hb1 : Below wi.heap.size wi w1 := by rw [e1]; exact ((Below.refl _ _).alloc (Nat.le_refl _) _).drew
          obtain ⟨v2, w2, hr2, hn2, -, hb2⟩ := run_push (P := Tryz.prog) (w := w1) OIntR.kept 46 46 3 (.int .i64 0) 8 Tryz.underlying46 infoI rfl Hr.out hzi hb1 (u := .int .i64 x) (y := x) ⟨[], ⟨rfl, rfl⟩, by simp [Fresh]⟩ (bb := wi.heap.size) (c := 1) (by rw [e1]; simp) (by have := hrl.out; omega) (by have := hrl.out; omega)
          have hSd : wi.drew.cell? ⟨lb, lo + k, none⟩ = some (.int .i64 p) ∧ wi.drew.cell? ⟨ab, ao + p, none⟩ = some (.slice (some ⟨rb, ro, none⟩) n rc) ∧ wi.drew.cell? ⟨lb, lo + j, none⟩ = some (.int .i64 q) ∧ wi.drew.cell? ⟨rb, ro + q, none⟩ = some (.int .i64 x) := HSf.out _ HBw.out.drew
          have hS1 : w1.cell? ⟨lb, lo + k, none⟩ = some (.int .i64 p) ∧ w1.cell? ⟨ab, ao + p, none⟩ = some (.slice (some ⟨rb, ro, none⟩) n rc) ∧ w1.cell? ⟨lb, lo + j, none⟩ = some (.int .i64 q) ∧ w1.cell? ⟨rb, ro + q, none⟩ = some (.int .i64 x) := HSf.out _ (HBw.out.trans (hb1.mono HBw.out.size))
          have Hn2 := Lib.hid hn2
          have HB2 := Lib.hid (HB.out.trans hb2)
          have hS2 : w2.cell? ⟨lb, lo + k, none⟩ = some (.int .i64 p) ∧ w2.cell? ⟨ab, ao + p, none⟩ = some (.slice (some ⟨rb, ro, none⟩) n rc) ∧ w2.cell? ⟨lb, lo + j, none⟩ = some (.int .i64 q) ∧ w2.cell? ⟨rb, ro + q, none⟩ = some (.int .i64 x) := HSf.out _ (Hb.out.trans (HB2.out.mono hle))
          have Hr2 := Lib.hid hr2
          have gk1 := (HBw.out.cell (p := ⟨lb, lo + k, none⟩) hge.1).trans gl
          clear hb1 hr2 hn2 hb2 gl hA1 glj gx
          go_wp2
          refine wp_region_L (fun w' => w'.cell? ⟨lb, lo + k, none⟩ = some (.int .i64 p) ∧ w'.cell? ⟨ab, ao + p, none⟩ = some (.slice (some ⟨rb, ro, none⟩) n rc) ∧ w'.cell? ⟨lb, lo + j, none⟩ = some (.int .i64 q) ∧ w'.cell? ⟨rb, ro + q, none⟩ = some (.int .i64 x)) (by kernel_rfl) ?_
          refine wpAnyL_take 0 (v := ?_) rfl (by kernel_rfl) (by kernel_rfl) (by kernel_rfl) (by kernel_rfl) (fun _ _ _ h => h) (Or.inl ⟨by rfl, ?_⟩) hSd ?_
          rotate_left
          · (intro w hSw; (try dsimp only at hSw); go_simp) <;> (try with_reducible rfl)
          try simp only [Act.put, List.getElem_toArray, List.getElem_cons_zero, List.getElem_cons_succ, List.setIfInBounds_toArray, List.set_cons_zero, List.set_cons_succ]
          refine wpAnyL_take 1 (v := ?_) rfl (by kernel_rfl) (by kernel_rfl) (by kernel_rfl) (by kernel_rfl) (fun _ _ _ h => h) (Or.inl ⟨by rfl, ?_⟩) hSd ?_
          rotate_left
          · (intro w hSw; (try dsimp only at hSw); go_simp) <;> (try with_reducible rfl)
          try simp only [Act.put, List.getElem_toArray, List.getElem_cons_zero, List.getElem_cons_succ, List.setIfInBounds_toArray, List.set_cons_zero, List.set_cons_succ]
          refine wpAnyL_take 2 (v := ?_) rfl (by kernel_rfl) (by kernel_rfl) (by kernel_rfl) (by kernel_rfl) (fun _ _ _ h => h) (Or.inl ⟨by rfl, ?_⟩) hSd ?_
          rotate_left
          · (intro w hSw; (try dsimp only at hSw); go_simp) <;> (try with_reducible rfl)
          try simp only [Act.put, List.getElem_toArray, List.getElem_cons_zero, List.getElem_cons_succ, List.setIfInBounds_toArray, List.set_cons_zero, List.set_cons_succ]
          refine wpAnyL_take 3 (v := ?_) rfl (by kernel_rfl) (by kernel_rfl) (by kernel_rfl) (by kernel_rfl) (fun _ _ _ h => h) (Or.inl ⟨by rfl, ?_⟩) hSd ?_
          rotate_left
          · (intro w hSw; (try dsimp only at hSw); go_simp) <;> (try with_reducible rfl)
          try simp only [Act.put, List.getElem_toArray, List.getElem_cons_zero, List.getElem_cons_succ, List.setIfInBounds_toArray, List.set_cons_zero, List.set_cons_succ]
          refine wpAnyL_take 4 (v := ?_) rfl (by kernel_rfl) (by kernel_rfl) (by kernel_rfl) (by kernel_rfl) (fun _ _ _ h => h) (Or.inl ⟨by rfl, ?_⟩) hSd ?_
          rotate_left
          · (intro w hSw; (try dsimp only at hSw); go_simp) <;> (try with_reducible rfl)
          try simp only [Act.put, List.getElem_toArray, List.getElem_cons_zero, List.getElem_cons_succ, List.setIfInBounds_toArray, List.set_cons_zero, List.set_cons_succ]
          refine wpAnyL_take 5 (v := ?_) rfl (by kernel_rfl) (by kernel_rfl) (by kernel_rfl) (by kernel_rfl) (fun _ _ _ h => h) (Or.inl ⟨by rfl, ?_⟩) hSd ?_
          rotate_left
          · (intro w hSw; (try dsimp only at hSw); go_simp) <;> (try with_reducible rfl)
          try simp only [Act.put, List.getElem_toArray, List.getElem_cons_zero, List.getElem_cons_succ, List.setIfInBounds_toArray, List.set_cons_zero, List.set_cons_succ]
          refine wpAnyL_take 6 (v := ?_) rfl (by kernel_rfl) (by kernel_rfl) (by kernel_rfl) (by kernel_rfl) (fun _ _ _ h => h) (Or.inl ⟨by rfl, ?_⟩) hSd ?_
          rotate_left
          · (intro w hSw; (try dsimp only at hSw); go_simp) <;> (try with_reducible rfl)
          try simp only [Act.put, List.getElem_toArray, List.getElem_cons_zero, List.getElem_cons_succ, List.setIfInBounds_toArray, List.set_cons_zero, List.set_cons_succ]
          refine wpAnyL_take 7 (v := ?_) rfl (by kernel_rfl) (by kernel_rfl) (by kernel_rfl) (by kernel_rfl) (fun _ _ _ h => h) (Or.inl ⟨by rfl, ?_⟩) hSd ?_
          rotate_left
          · (intro w hSw; (try dsimp only at hSw); go_simp) <;> (try with_reducible rfl)
          try simp only [Act.put, List.getElem_toArray, List.getElem_cons_zero, List.getElem_cons_succ, List.setIfInBounds_toArray, List.set_cons_zero, List.set_cons_succ]
          refine wpAnyL_take 8 (v := ?_) rfl (by kernel_rfl) (by kernel_rfl) (by kernel_rfl) (by kernel_rfl) (fun _ _ _ h => h) (Or.inl ⟨by rfl, ?_⟩) hSd ?_
          rotate_left
          · (intro w hSw; (try dsimp only at hSw); go_simp) <;> (try with_reducible rfl)
          try simp only [Act.put, List.getElem_toArray, List.getElem_cons_zero, List.getElem_cons_succ, List.setIfInBounds_toArray, List.set_cons_zero, List.set_cons_succ]
          refine wpAnyL_take 9 (v := ?_) rfl (by kernel_rfl) (by kernel_rfl) (by kernel_rfl) (by kernel_rfl) (fun _ _ _ h => h) (Or.inl ⟨by rfl, ?_⟩) hSd ?_
          rotate_left
          · (intro w hSw; (try dsimp only at hSw); go_simp) <;> (try with_reducible rfl)
          try simp only [Act.put, List.getElem_toArray, List.getElem_cons_zero, List.getElem_cons_succ, List.setIfInBounds_toArray, List.set_cons_zero, List.set_cons_succ]
          refine wpAnyL_take 10 (v := ?_) rfl (by kernel_rfl) (by kernel_rfl) (by kernel_rfl) (by kernel_rfl) (fun _ _ _ h => h) (Or.inl ⟨by rfl, ?_⟩) hSd ?_
          rotate_left
          · (intro w hSw; (try dsimp only at hSw); go_simp) <;> (try with_reducible rfl)
          try simp only [Act.put, List.getElem_toArray, List.getElem_cons_zero, List.getElem_cons_succ, List.setIfInBounds_toArray, List.set_cons_zero, List.set_cons_succ]
          refine wpAnyL_take 11 (v := ?_) rfl (by kernel_rfl) (by kernel_rfl) (by kernel_rfl) (by kernel_rfl) (fun _ _ _ h => h) (Or.inl ⟨by rfl, ?_⟩) hSd ?_
          rotate_left
          · (intro w hSw; (try dsimp only at hSw); go_simp) <;> (try with_reducible rfl)
          try simp only [Act.put, List.getElem_toArray, List.getElem_cons_zero, List.getElem_cons_succ, List.setIfInBounds_toArray, List.set_cons_zero, List.set_cons_succ]
          refine wpAnyL_take 12 (v := ?_) rfl (by kernel_rfl) (by kernel_rfl) (by kernel_rfl) (by kernel_rfl) (fun _ _ _ h => h) (Or.inl ⟨by rfl, ?_⟩) hSd ?_
          rotate_left
          · (intro w hSw; (try dsimp only at hSw); go_simp) <;> (try with_reducible rfl)
          try simp only [Act.put, List.getElem_toArray, List.getElem_cons_zero, List.getElem_cons_succ, List.setIfInBounds_toArray, List.set_cons_zero, List.set_cons_succ]
          refine wpAnyL_take 13 (v := ?_) rfl (by kernel_rfl) (by kernel_rfl) (by kernel_rfl) (by kernel_rfl) (fun _ _ _ h => h) (Or.inl ⟨by rfl, ?_⟩) hSd ?_
          rotate_left
          · (intro w hSw; (try dsimp only at hSw); go_simp) <;> (try with_reducible rfl)
          try simp only [Act.put, List.getElem_toArray, List.getElem_cons_zero, List.getElem_cons_succ, List.setIfInBounds_toArray, List.set_cons_zero, List.set_cons_succ]
          refine wpAnyL_one 14 (by kernel_rfl) rfl (fun K hK => ?_)
          go_simp
          refine hK.out _ _ (fun _ => (by rw [← e1]; exact hS1)) ?_
          clear hK K
          try simp only [Act.put, List.getElem_toArray, List.getElem_cons_zero, List.getElem_cons_succ, List.setIfInBounds_toArray, List.set_cons_zero, List.set_cons_succ]
          rw [← e1]
          refine wpAnyL_one 15 (by kernel_rfl) rfl (fun K hK => ?_)
          refine step_append_run (by rfl) (.tmp 23) (.tmp 37) 46 (by rfl) (by rfl) (by rfl) Hr2.out ?_
          refine hK.out _ _ (fun _ => hS2) ?_
          clear hK K
          try simp only [Act.put, List.getElem_toArray, List.getElem_cons_zero, List.getElem_cons_succ, List.setIfInBounds_toArray, List.set_cons_zero, List.set_cons_succ]
          refine wpAnyL_one 16 (by kernel_rfl) rfl (fun K hK => ?_)
          go_simp
          refine hK.out _ _ (fun h => absurd h (not_rem (by kernel_rfl))) ?_
          clear hK K
          try simp only [Act.put, List.getElem_toArray, List.getElem_cons_zero, List.getElem_cons_succ, List.setIfInBounds_toArray, List.set_cons_zero, List.set_cons_succ]
          refine wpAnyL_done (by kernel_rfl) ?_ _
          go_wp2
          go_roundg g2
          case measure => omega
          case rel => exact ⟨j + 1, by go_num, by omega, Lib.hid (by rw [hnx.out]; exact Hn2.out), HB2⟩
        · have hji : ¬ ((j : Int) < (N : Int)) := by omega
          have Hr' := Lib.hid (show New (OInts 3) wo.heap.size wi (.slice ra rn' rc') (rowOf' N (fun j => ent m p (l.getD j 0).toNat)) from by have h := Hr.out; rw [show j = N from by omega, List.take_of_length_le (by rw [rowOf_len]; exact Nat.le_refl _)] at h; exact h)
          have hkl := Lib.hid (show (PT.take k).length ≤ 9 from by rw [List.length_take]; omega)
          have HK := Lib.hid (show PT.take (k + 1) = PT.take k ++ [rowOf' N (fun j => ent m p (l.getD j 0).toNat)] from by rw [List.take_add_one, HPk.out]; rfl)
          clear Hr
          go_wp2_with (at_builtin; refine wpl_push (w0 := wo) (lo := w.heap.size) (OInts.kept _) rfl (.tmp 39) (.tmp 41) 24 rfl 46 (.slice none 0 0) 24 Tryz.underlying24 infoR rfl Hn.out hle (HB.out.alloc HB.out.size _) (New.keep (OInts.kept _) Hr'.out ((Below.refl wi.heap.size _).alloc (Nat.le_refl _) _) (Nat.le_refl _)) (bb := wi.heap.size) (c := 1) (by simp) rfl rfl (by have := hkl.out; omega) (by have := hkl.out; omega) ?_; intro v3 w3 hn3 _ _ hb3; have Hn3 := Lib.hid hn3; have Hb3 := Lib.hid hb3; clear hn3 hb3)
          go_roundg g
          case measure => omega
          case rel => exact ⟨k + 1, by go_num, by omega, Lib.hid (by rw [HK.out]; exact Hn3.out), Lib.hid (Hb.out.trans Hb3.out)⟩
    · have hki : ¬ ((k : Int) < (N : Int)) := by omega
      have Hr := Lib.hid (show New (OTab 3 46) w.heap.size wo (.slice oa on' oc) PT from by have h := Hn.out; rw [List.take_of_length_le (by have := HPl.out; omega)] at h; exact h)
      clear Hn
      go_wp2
      go_ret
      exact ⟨_, rfl, Hr.out, Hb.out⟩
end Go.Proofs.YtlkgkfgpnnahdaaGreat
end

section
/-
  Subsets in the order of their masks; sums of principal minors.
-/
namespace Go.Proofs.YtlkgkfgpnnahdaaGreat
open Go.RowKit Go.Deep Go.Sd
set_option linter.unusedSimpArgs false
theorem bit_shr' (s p : Nat) : bits BinOp.and IntKind.i64 ((s : Int) / 2 ^ p) 1 = if s.testBit p = true then 1 else 0 := by
  rw [i64_and1, Nat.testBit_eq_decide_div_mod_eq]
  have h : ((s : Int) / 2 ^ p) = ((s / 2 ^ p : Nat) : Int) := by simp
  rw [h]
  by_cases hb : s / 2 ^ p % 2 = 1
  · simp [hb]; omega
  · simp [hb]; omega
theorem shl_two (p : Nat) (h : p ≤ 4) : ∃ P : Nat, 2 ^ p = P ∧ 1 ≤ P ∧ P ≤ 16 ∧ wrap64 ((2 : Int) ^ p) = (P : Int) := by
  have h1 : 2 ^ p ≤ 2 ^ 4 := Nat.pow_le_pow_right (by decide) h
  have h0 : 0 < 2 ^ p := Nat.pow_pos (by decide)
  refine ⟨2 ^ p, rfl, h0, h1, ?_⟩
  rw [show ((2 : Int) ^ p) = ((2 ^ p : Nat) : Int) by simp]
  generalize 2 ^ p = P at h0 h1 ⊢
  exact IntWalk.wrap64_in _ (by omega)
/-- The subsets of k numbers among the first s sets. -/
def chL (n k : Nat) : Nat → List (List Int)
  | 0 => []
  | s + 1 => if (subL s n).length = k then chL n k s ++ [subL s n] else chL n k s
theorem chL_len (n k : Nat) : ∀ s, (chL n k s).length ≤ s
  | 0 => Nat.le_refl _
  | s + 1 => by
    have := chL_len n k s
    unfold chL
    split
    · simp; omega
    · omega
theorem chL_mem (n k : Nat) : ∀ s l, l ∈ chL n k s → l.length = k ∧ ∃ t, l = subL t n
  | 0, l, h => by simp [chL] at h
  | s + 1, l, h => by
    unfold chL at h
    split at h
    · rename_i he
      rcases List.mem_append.1 h with h | h
      · exact chL_mem n k s l h
      · simp at h
        subst h
        exact ⟨he, s, rfl⟩
    · exact chL_mem n k s l h
theorem minS_yes {m : List (List Int)} {n k s : Nat} (h : (subL s n).length = k) : minS m n k (s + 1) = minS m n k s + detP m (subL s n) := by rw [minS, if_pos h]
theorem minS_no {m : List (List Int)} {n k s : Nat} (h : (subL s n).length ≠ k) : minS m n k (s + 1) = minS m n k s := by rw [minS, if_neg h]
theorem chL_yes {n k s : Nat} (h : (subL s n).length = k) : chL n k (s + 1) = chL n k s ++ [subL s n] := by rw [chL, if_pos h]
theorem chL_no {n k s : Nat} (h : (subL s n).length ≠ k) : chL n k (s + 1) = chL n k s := by rw [chL, if_neg h]
set_option maxHeartbeats 1000000 in
set_option maxRecDepth 100000 in
theorem l7Minors_c {w : World} {va : Value} {m : List (List Int)} {n k : Nat} (h : Tab w va m) (hsq : Sq n m) (hn : n ≤ 4) (hbd : Bd 9 m) :
    Calls Tryz.prog 98 #[va, .int .i64 k] w fun e w' => e = .returned (.int .i64 (minS m n k (2 ^ n))) ∧ Below w.heap.size w w' := by
  obtain ⟨P, hP, hP1, hP2, hw⟩ := shl_two n hn
  have Hlim := Lib.hid (fun (s : Nat) (hs : s ≤ P) => minS_bd16 (k := k) (s := s) hsq hn hbd (by omega))
  have HDb := Lib.hid (fun (s : Nat) => detP_bd (l := subL s n) hsq hn hbd (fun x hx => subL_mem hx) (subL_len s n))
  have HC := Lib.hid (fun (w1 : World) (vl : Value) (s : Nat) (hb : Below w.heap.size w w1) (hl : Ints w1 vl (subL s n)) => l5Part_c (Tab.frame _ _ _ _ h hb) hsq (by omega) hl (fun x hx => subL_mem hx) (by have := subL_len s n; omega))
  have HD := Lib.hid (fun (w1 : World) (v : Value) (s : Nat) (h1 : Tab w1 v (partT m (subL s n))) => (show Calls Tryz.prog 113 #[v] w1 (fun e w' => e = .returned (.int .i64 (detP m (subL s n))) ∧ Below w1.heap.size w1 w') from spec_det_c _ (by have := subL_len s n; omega) h1 (partT_sq m _) (partT_bd hsq hbd fun x hx => subL_mem hx)))
  obtain ⟨va0, vc0, rfl, -⟩ := h.shape
  rw [hsq.1] at HC ⊢
  rw [hP]
  clear h hsq hP hbd
  have hk16 := (detB_mono k)
  go_enter Tryz.func98, Tryz.ntmps98
  go_wp2
  go_loopg [5, 6] P (fun g v ii wr => ∃ (s : Nat) (S : Int), v = .int .i64 S ∧ ii = .int .i64 s ∧ s + g = P ∧ Hid (S = minS m n k s) ∧ Hid (Below w.heap.size w wr))
  case atStart => exact ⟨0, 0, rfl, rfl, by omega, Lib.hid rfl, Lib.hid (Below.refl _ _)⟩
  case round =>
    obtain ⟨s, S, rfl, rfl, hs, HS, Hb⟩ := hrel
    obtain ⟨wo, rfl⟩ : ∃ x, x = wr := ⟨_, rfl⟩
    have hle := Hb.out.size
    by_cases hsP : s < P
    · have hsi : (s : Int) < (P : Int) := by omega
      obtain ⟨g, rfl⟩ : ∃ x, gk = x + 1 := ⟨gk - 1, by omega⟩
      have hSb := Hlim.out s (by omega)
      rw [← HS.out] at hSb
      have Hno := Lib.hid (show New (OInts 3) wo.heap.size (wo.alloc (.cells #[] 3)) (.slice (some ⟨wo.heap.size, 0, none⟩) 0 0) (subL s 0) from New.empty wo (Nat.le_refl _))
      have HBi := Lib.hid (show Below wo.heap.size wo (wo.alloc (.cells #[] 3)) from (Below.refl _ _).alloc (Nat.le_refl _) _)
      go_wp2
      try rw [hw]
      go_loopg [7, 8] n (fun g2 v jj wr2 => ∃ (j : Nat), jj = .int .i64 j ∧ j + g2 = n ∧ Hid (New (OInts 3) wo.heap.size wr2 v (subL s j)) ∧ Hid (Below wo.heap.size wo wr2))
      case atStart => exact ⟨0, rfl, by omega, Hno, HBi⟩
      case round =>
        clear Hno HBi
        obtain ⟨j, rfl, hj, Hr, HB⟩ := hrel
        obtain ⟨wi, rfl⟩ : ∃ x, x = wr := ⟨_, rfl⟩
        have hzi := HB.out.size
        obtain ⟨ra, rc', rfl, -⟩ := (New.ints Hr.out).shape
        by_cases hjn : j < n
        · have hji : (j : Int) < (n : Int) := by omega
          obtain ⟨g2, rfl⟩ : ∃ x, gk = x + 1 := ⟨gk - 1, by omega⟩
          have hrl := Lib.hid (show (subL s j).length ≤ 4 from by have := subL_len s j; omega)
          have Hbs := Lib.hid (bit_shr' s j)
          have Hy := Lib.hid (fun (h : s.testBit j = true) => subL_yes h)
          have Hno := Lib.hid (fun (h : s.testBit j = false) => subL_no h)
          obtain ⟨ln, hln⟩ : ∃ x, x = (subL s j).length := ⟨_, rfl⟩
          have Hln := Lib.hid hln
          rw [← hln] at hrl Hr ⊢
          clear hln
          generalize s.testBit j = tb at Hbs Hy Hno
          cases tb with
          | false =>
            have hbs : bits BinOp.and IntKind.i64 ((s : Int) / 2 ^ j) 1 = 0 := by rw [Hbs.out]; rfl
            clear Hbs Hy
            go_wp2
            go_roundg g2
            case measure => omega
            case rel => exact ⟨j + 1, by go_num, by omega, Lib.hid (by rw [Hno.out (by simp)]; exact Hr.out), HB⟩
          | true =>
            have hbs : bits BinOp.and IntKind.i64 ((s : Int) / 2 ^ j) 1 = 1 := by rw [Hbs.out]; rfl
            clear Hbs Hno
            go_wp2_with (at_builtin; refine wpl_push (w0 := wi) (lo := wo.heap.size) (y := (j : Int)) OIntR.kept rfl (.tmp 30) (.tmp 32) 46 rfl 3 (.int .i64 0) 8 Tryz.underlying46 infoI rfl Hr.out hzi ((Below.refl _ _).alloc (Nat.le_refl _) _) ⟨[], ⟨rfl, rfl⟩, by simp [Fresh]⟩ (bb := wi.heap.size) (c := 1) (by simp) rfl rfl (by have := hrl.out; have := Hln.out; omega) (by have := hrl.out; have := Hln.out; omega) ?_; intro v2 w2 hn2 _ _ hb2; have Hn2 := Lib.hid hn2; have HB2 := Lib.hid (HB.out.trans hb2); clear hn2 hb2)
            go_roundg g2
            case measure => omega
            case rel => exact ⟨j + 1, by go_num, by omega, Lib.hid (by rw [Hy.out (by simp)]; exact Hn2.out), HB2⟩
        · have hji : ¬ ((j : Int) < (n : Int)) := by omega
          have hjn' : j = n := by omega
          rw [hjn'] at Hr ⊢
          have hrl := Lib.hid (show (subL s n).length ≤ 4 from by have := subL_len s n; omega)
          clear hjn hjn' hji
          obtain ⟨ln, hln⟩ : ∃ x, x = (subL s n).length := ⟨_, rfl⟩
          have Hln := Lib.hid hln
          rw [← hln] at hrl Hr ⊢
          clear hln
          by_cases hek : ln = k
          · have Hc := Lib.hid (minS_yes (m := m) (n := n) (k := k) (s := s) (by rw [← Hln.out]; exact hek))
            have t1 : ((ln : Int) == (k : Int)) = true := by simp [hek]
            have HCl := Lib.hid (HC.out wi _ s (Hb.out.trans (HB.out.mono hle)) (New.ints Hr.out))
            have HDl := Lib.hid (fun w1 v h => HD.out w1 v s h)
            have hdb := HDb.out s
            have hd2 := detB_mono (subL s n).length
            generalize detP m (subL s n) = D at Hc HDl hdb
            have hdb2 : -157464 ≤ D ∧ D ≤ 157464 := by omega
            have hSb2 : -2519424 ≤ S ∧ S ≤ 2519424 := by omega
            have hw1 : IntKind.i64.wrap (S + D) = S + D := IntWalk.i64_in _ (by omega)
            clear hek hdb hd2 hSb HC HD
            go_wp2_with fail
            (with_reducible refine HCl.out.mono ?_)
            rintro e w3 ⟨v3, rfl, hn3, hb3⟩
            have HB3 := Lib.hid ((Hb.out.trans (HB.out.mono hle)).trans (hb3.mono (by omega)))
            have HDm := Lib.hid (HDl.out w3 v3 hn3.tab)
            clear hn3 hb3 HCl HDl
            go_wp2_with fail
            (with_reducible refine HDm.out.mono ?_)
            rintro e w4 ⟨rfl, hb4⟩
            have HB4 := Lib.hid (HB3.out.trans (hb4.mono HB3.out.size))
            clear hb4 HB3 HDm
            go_wp2
            go_roundg g
            case measure => omega
            case rel => exact ⟨s + 1, S + D, rfl, by go_num, by omega, Lib.hid (by rw [Hc.out, HS.out]), HB4⟩
          · have Hc := Lib.hid (minS_no (m := m) (n := n) (k := k) (s := s) (by rw [← Hln.out]; exact hek))
            have t1 : ((ln : Int) == (k : Int)) = false := by simp; omega
            clear hek hSb HC HD
            go_wp2
            go_roundg g
            case measure => omega
            case rel => exact ⟨s + 1, S, rfl, by go_num, by omega, Lib.hid (by rw [Hc.out, HS.out]), Lib.hid (Hb.out.trans (HB.out.mono hle))⟩
    · have hsi : ¬ ((s : Int) < (P : Int)) := by omega
      have HF := Lib.hid (show S = minS m n k P from by rw [show P = s from by omega]; exact HS.out)
      clear HS
      go_wp2
      go_ret
      exact ⟨by rw [← HF.out]; rfl, Hb.out⟩
end Go.Proofs.YtlkgkfgpnnahdaaGreat
end

section
/-
  Two own things that grow side by side; make as a law that hides the world; three results.
-/
namespace Go.Sd
open Go.RowKit Go.Deep

section
variable {P : Program} {α β : Type} {R : OwnRel α} {S : OwnRel β} {lo : Nat} {w : World} {v u : Value} {e : TypeId}
theorem Apart.mono {R : OwnRel α} {x : α} {y : β} {lo' : Nat} (h : Apart R S lo w v x u y) (hl : lo' ≤ lo) : Apart R S lo' w v x u y := by
  obtain ⟨F, G, h1, h2, h3, h4, h5⟩ := h
  exact ⟨F, G, h1, h2, ⟨h3.1, fun b hb => Nat.le_trans hl (h3.2 b hb)⟩, ⟨h4.1, fun b hb => Nat.le_trans hl (h4.2 b hb)⟩, h5⟩
/-- An element made since is put behind the first; the second stays as it is. -/
theorem Apart.grow (hR : Kept R) (hS : Kept S) (t ty : TypeId) (z : Value) (bytes : Nat) (ht : P.underlying t = some (.slice e)) (hinfo : (P.info? e).map (fun i => (i.zero, i.size, i.bytes)) = some (some z, 1, bytes)) (hz1 : z.cells = #[z])
    {xs : List α} {y : β} (h : Apart (OwnOf e R) S lo w v xs u y) (hlo : lo ≤ w.heap.size) {w1 : World} (hb : Below w.heap.size w w1) {q : Value} {x : α} (hq : New R w.heap.size w1 q x) {bb c : Nat} (hcell : w1.cell? ⟨bb, 0, none⟩ = some q) (hbytes : (xs.length + 1) * bytes ≤ 140737488355328) (h63 : xs.length + 1 ≤ 9223372036854775807) :
    ∃ v' w', (Builtin.append_ #[t, t] ty #[v, .slice (some ⟨bb, 0, none⟩) 1 c]).run P w1 = .ok v' w' ∧ Apart (OwnOf e R) S lo w' v' (xs ++ [x]) u y ∧ Below lo w w' := by
  obtain ⟨F, G, hF, hG, hn, hm, hd⟩ := h
  obtain ⟨H, hH, hHn, hHg⟩ := hq
  have hltF := (OwnOf.kept (e := e) hR).lt _ _ _ _ hF
  have hltG := hS.lt _ _ _ _ hG
  have hz := hb.size
  obtain ⟨v', w', F', hr, hF', hn', hs, hg, hv⟩ := push_run hR t ty e z bytes ht hinfo hz1 ((OwnOf.kept (e := e) hR).keep _ w1 _ _ _ hF fun b hm => hb.block b (hltF b hm)) hn.1 hH hHn (fun b hm hm2 => by have := hltF b hm; have := hHg b hm2; omega) (c := c) hcell hbytes h63
  refine ⟨v', w', hr, ⟨F', G, hF', hS.keep _ _ _ _ _ hG fun b hm2 => (hg.block b (by have := hltG b hm2; omega) fun e => hd b (hv b e.symm) hm2).trans (hb.block b (hltG b hm2)), ⟨hn', fun b hm2 => ?_⟩, hm, fun b hm2 hm3 => ?_⟩, (hb.mono hlo).grown hg (by omega) fun k hk => hn.2 k (hv k hk)⟩
  · rcases hs b hm2 with h1 | h1 | h1
    · exact hn.2 b h1
    · have := hHg b h1; omega
    · omega
  · rcases hs b hm2 with h1 | h1 | h1
    · exact hd b h1 hm3
    · have := hHg b h1; have := hltG b hm3; omega
    · have := hltG b hm3; omega
end

/-- An entry of the first, a table, is stored anew. -/
theorem Apart.tab_store {β : Type} {S : OwnRel β} {eI eR : TypeId} {lo : Nat} {w : World} {v u : Value} {m : List (List Int)} {y : β} (hS : Kept S) (h : Apart (OTab eI eR) S lo w v m u y) {i j : Nat} {r : List Int} {x : Int} (hr : m[i]? = some r) (hx : r[j]? = some x) :
    ∃ b c rb rc, v = .slice (some ⟨b, 0, none⟩) m.length c ∧ m.length ≤ c ∧ lo ≤ b ∧ b < w.heap.size ∧ w.cell? ⟨b, i, none⟩ = some (.slice (some ⟨rb, 0, none⟩) r.length rc) ∧ r.length ≤ rc ∧ lo ≤ rb ∧ rb < w.heap.size ∧
      w.cell? ⟨rb, j, none⟩ = some (.int .i64 x) ∧ w.frozen? ⟨rb, j, none⟩ = false ∧ ∀ z, Apart (OTab eI eR) S lo (w.setCell ⟨rb, j, none⟩ (.int .i64 z)) v (m.set i (r.set j z)) u y := by
  obtain ⟨F, G, hF, hG, hn, hm, hd⟩ := h
  have hlt := (OTab.kept eI eR).lt _ _ _ _ hF
  obtain ⟨b, c, q, Q, hv, hc, hbF, hbQ, hcell, _, hq, hQF, hQn, hst, _⟩ := hF.focus (OInts.kept eI) hn.1 hr
  obtain ⟨rb, rc, u2, G2, rfl, hrc, hrb, _, hcell2, hfr2, ⟨rfl, rfl⟩, _, _, _, hst2⟩ := hq.focus OIntR.kept hQn hx
  refine ⟨b, c, rb, rc, hv, hc, hn.2 b hbF, hlt b hbF, hcell, hrc, hn.2 rb (hQF rb hrb), hlt rb (hQF rb hrb), hcell2, hfr2, fun z => ?_⟩
  obtain ⟨F', hF', _, _, e⟩ := hst2 w (.int .i64 z) z [] ⟨rfl, rfl⟩ (by simp) (fun _ _ _ => rfl)
  rw [e rfl] at hF'
  exact ⟨F, G, hst _ _ hF' (fun q hq hqG => Below.heap_setCell _ _ _ _ (fun e => hqG (by have e2 : q = rb := e; exact e2 ▸ hrb))), hS.keep _ _ _ _ _ hG fun q hq => Below.heap_setCell _ _ _ _ (fun e => hd rb (hQF rb hrb) (by have e2 : q = rb := e; exact e2 ▸ hq)), hn, hm, hd⟩

/-- 'make([]T, n)' whose world is hidden. -/
theorem wpl_make {P : Program} {α : Type} {R : OwnRel α} {w : World} {ops : Array Oper} {rest : List Oper} {o : Oper} {a : Act} {Q : Exit → Act → World → Prop}
    (hg : o.guard = none) (l c : Operand) (t : TypeId) (hop : o.op = Op.makeSlice t l c)
    (e : TypeId) (z : Value) (bytes : Nat) (ht : P.underlying t = some (.slice e)) (hinfo : (P.info? e).map (fun i => (i.zero, i.size, i.bytes)) = some (some z, 1, bytes)) (hz1 : z.cells = #[z])
    (n : Nat) (hl : a.eval l = .int .i64 (n : Int)) (hc : a.eval c = .int .i64 (n : Int)) (hbytes : bytes * n ≤ 281474976710656) (h63 : n ≤ 9223372036854775807) {d : α} (hd : ∀ w, R w z d [])
    (hK : ∀ w', w'.heap.size = w.heap.size + 1 → New (OwnOf e R) w.heap.size w' (.slice (some ⟨w.heap.size, 0, none⟩) n n) (List.replicate n d) → Below w.heap.size w w' → wpList P ops Q rest (a.put o.dst (.slice (some ⟨w.heap.size, 0, none⟩) n n)) w') :
    wpList P ops Q (o :: rest) a w := by
  obtain ⟨i, hi, hzz⟩ := Option.map_eq_some_iff.1 hinfo
  simp only [Prod.mk.injEq] at hzz
  obtain ⟨hz, hs, hb⟩ := hzz
  refine wpList_make_row w hg l c t hop e i z ht hi hz hs hz1 .i64 .i64 n hl hc (by rw [hb]; exact hbytes) h63 ?_
  exact hK _ (by simp) (New.made e w z d n (Nat.le_refl _) h63 hd) ((Below.refl _ _).alloc (Nat.le_refl _) _)

/-- A call that makes two things that share no block, and answers a bool besides. -/
def Makes3 {α β : Type} (R : OwnRel α) (S : OwnRel β) (w : World) (x : α) (y : β) (ok : Bool) (e : Ending) (w' : World) : Prop :=
  ∃ r s, e = .returned (.tuple #[r, s, .bool ok]) ∧ Apart R S w.heap.size w' r x s y ∧ Below w.heap.size w w'
theorem Apart.nils {α β : Type} {R : OwnRel α} {S : OwnRel β} {e f : TypeId} (lo : Nat) (w : World) : Apart (OwnOf e R) (OwnOf f S) lo w (.slice none 0 0) [] (.slice none 0 0) [] :=
  ⟨[], [], OwnOf.nil w, OwnOf.nil w, by simp [Fresh], by simp [Fresh], by simp⟩
theorem Apart.empties {α β : Type} {R : OwnRel α} {S : OwnRel β} (hR : Kept R) {e f : TypeId} (w : World) {lo : Nat} (h : lo ≤ w.heap.size) :
    Apart (OwnOf e R) (OwnOf f S) lo ((w.alloc (.cells #[] e)).alloc (.cells #[] f)) (.slice (some ⟨w.heap.size, 0, none⟩) 0 0) [] (.slice (some ⟨w.heap.size + 1, 0, none⟩) 0 0) [] := by
  have h2 := New.empty (R := S) (e := f) (lo := (w.alloc (.cells #[] e)).heap.size) (w.alloc (.cells #[] e)) (Nat.le_refl _)
  have e2 : (w.alloc (.cells #[] e)).heap.size = w.heap.size + 1 := by simp
  have h3 := Apart.of_new (OwnOf.kept (e := e) hR) (New.empty w h) h2 ((Below.refl _ _).alloc (Nat.le_refl _) _) (by rw [e2]; omega)
  rw [e2] at h3
  exact h3
end Go.Sd
end

section
/-
  The characteristic polynomial, the program's; a polynomial without zeros at its end, both sides.
-/
namespace Go.Sd
open Go.RowKit Go.Deep
/-- A number of the first of some own things: its cell, and what a store leaves. -/
theorem Sep.intSet {e : TypeId} {lo : Nat} {w : World} {v : Value} {xs : List Int} {rs : List Res} (h : Sep lo w (Res.of (OInts e) (OInts.kept e).held v xs :: rs)) {i : Nat} {x : Int} (hx : xs[i]? = some x) :
    ∃ b c, v = .slice (some ⟨b, 0, none⟩) xs.length c ∧ lo ≤ b ∧ b < w.heap.size ∧ w.cell? ⟨b, i, none⟩ = some (.int .i64 x) ∧ w.frozen? ⟨b, i, none⟩ = false ∧
      ∀ y, Sep lo (w.setCell ⟨b, i, none⟩ (.int .i64 y)) (Res.of (OInts e) (OInts.kept e).held v (xs.set i y) :: rs) := by
  obtain ⟨F, ⟨G, H, rfl, h1, h2⟩, hn, hge⟩ := h
  have hnd := List.nodup_append.1 hn
  obtain ⟨b, c, u, G1, hv, hc, hbF, hbG, hcell, hfr, ⟨rfl, rfl⟩, _, _, _, hst⟩ := OwnOf.focus OIntR.kept h1 hnd.1 hx
  refine ⟨b, c, hv, hge b (List.mem_append_left _ hbF), (OInts.kept e).lt _ _ _ _ h1 b hbF, hcell, hfr, fun y => ?_⟩
  obtain ⟨F', hF', hsub, hn', -⟩ := hst w (.int .i64 y) y [] ⟨rfl, rfl⟩ (by simp) (fun _ _ _ => rfl)
  have hsub' : ∀ q, q ∈ F' → q ∈ G := fun q hq => (hsub q hq).elim id (by simp)
  refine ⟨F' ++ H, ⟨F', H, rfl, hF', h2.keep fun q hq => Below.heap_setCell _ _ _ _ fun e => ?_⟩, List.nodup_append.2 ⟨hn' (by simp) (by simp), hnd.2.1, fun p hp q hq => hnd.2.2 p (hsub' p hp) q hq⟩, fun q hq => ?_⟩
  · have e2 : q = b := e
    subst e2
    exact hnd.2.2 q hbF q hq rfl
  · rcases List.mem_append.1 hq with hq | hq
    · exact hge q (List.mem_append_left _ (hsub' q hq))
    · exact hge q (List.mem_append_right _ hq)
/-- The beginning of an own slice. -/
theorem New.pre {e : TypeId} {lo : Nat} {w : World} {b n c : Nat} {xs : List Int} (h : New (OInts e) lo w (.slice (some ⟨b, 0, none⟩) n c) xs) {k : Nat} (hk : k ≤ xs.length) : New (OInts e) lo w (.slice (some ⟨b, 0, none⟩) k c) (xs.take k) := by
  obtain ⟨F, ⟨us, Fs, ⟨hul, hor⟩, hFl, hr, rfl⟩, hnd, hge⟩ := h
  rcases hor with ⟨h0, _⟩ | ⟨g, cap, cur, hv, hg, hh, hnc, hcm, hcs, htake⟩
  · cases h0
  simp only [Value.slice.injEq, Option.some.injEq, Addr.mk.injEq] at hv
  obtain ⟨⟨rfl, -, -⟩, rfl, rfl⟩ := hv
  have hFs : ∀ G, G ∈ Fs → G = [] := fun G hG => by
    obtain ⟨j, hj⟩ := List.getElem?_of_mem hG
    have hj1 : j < Fs.length := (List.getElem?_eq_some_iff.1 hj).1
    exact (hr j us[j] xs[j] G (List.getElem?_eq_getElem (by omega)) (List.getElem?_eq_getElem (by omega)) hj).2
  have hfl : Fs.flatten = [] := List.flatten_eq_nil_iff.2 hFs
  have hfl2 : (Fs.take k).flatten = [] := List.flatten_eq_nil_iff.2 fun G hG => hFs G (List.mem_of_mem_take hG)
  refine ⟨_, ⟨us.take k, Fs.take k, ⟨by simp; omega, .inr ⟨b, c, cur, by simp; omega, hg, hh, by simp; omega, hcm, hcs, ?_⟩⟩, by simp; omega, ?_, rfl⟩, ?_, ?_⟩
  · rw [← htake, List.take_take, List.length_take]
    congr 1
    omega
  · intro i u x G hu hx hG
    rw [List.getElem?_take] at hu hx hG
    split at hu
    · rename_i hi
      rw [if_pos hi] at hx hG
      exact hr i u x G hu hx hG
    · cases hu
  · rw [hfl2]; simp [Value.ownBlock]
  · intro q hq
    rw [hfl2] at hq
    have e : q = b := by simpa [Value.ownBlock] using hq
    rw [e]
    exact hge b (List.mem_append_left _ (by simp [Value.ownBlock]))
end Go.Sd
namespace Go.Proofs.YtlkgkfgpnnahdaaGreat
open Go.RowKit Go.Deep Go.Sd
set_option linter.unusedSimpArgs false
theorem cutN_succ (p : List Int) (n : Nat) : cutN p (n + 1) = if p.getD n 0 = 0 then cutN p n else n + 1 := rfl
def csum (m : List (List Int)) (k : Nat) (ls : List (List Int)) : Nat → Int
  | 0 => 0
  | j + 1 => csum m k ls j + sgn k * detP m (ls.getD j [])
theorem csum_pre (m : List (List Int)) (k : Nat) (ls rs : List (List Int)) : ∀ j, j ≤ ls.length → csum m k (ls ++ rs) j = csum m k ls j
  | 0, _ => rfl
  | j + 1, h => by
    have e : (ls ++ rs).getD j [] = ls.getD j [] := by simp [List.getD, List.getElem?_append_left (show j < ls.length by omega)]
    rw [csum, csum, csum_pre m k ls rs j (by omega), e]
theorem csum_full (m : List (List Int)) (n k : Nat) : ∀ s, csum m k (chL n k s) (chL n k s).length = sgn k * minS m n k s
  | 0 => by simp [chL, csum, minS]
  | s + 1 => by
    have ih := csum_full m n k s
    by_cases h : (subL s n).length = k
    · rw [chL_yes h, minS_yes h, List.length_append, List.length_singleton, csum, csum_pre m k _ _ _ (Nat.le_refl _), ih]
      have e : (chL n k s ++ [subL s n]).getD (chL n k s).length [] = subL s n := by simp [List.getD]
      rw [e, Int.mul_add]
    · rw [chL_no h, minS_no h, ih]
theorem csum_bd {m : List (List Int)} {n k : Nat} {ls : List (List Int)} (hs : Sq n m) (hn : n ≤ 4) (h : Bd 9 m) (hl : ∀ l, l ∈ ls → l.length ≤ n ∧ ∀ x, x ∈ l → 0 ≤ x ∧ x < (n : Int)) : ∀ j, j ≤ ls.length → -((j : Int) * 157464) ≤ csum m k ls j ∧ csum m k ls j ≤ (j : Int) * 157464
  | 0, _ => by simp [csum]
  | j + 1, hj => by
    have h1 := csum_bd (k := k) hs hn h hl j (by omega)
    have e : ls.getD j [] = ls[j] := by simp [List.getD, show j < ls.length by omega]
    have hm := hl ls[j] (List.getElem_mem _)
    have h2 := detP_bd hs hn h hm.2 hm.1
    have h3 := detB_mono ls[j].length
    have h4 := sgn_mul_bd k (B := 157464) (x := detP m ls[j]) (by omega)
    rw [csum, e]
    omega
/-- The numbers of the polynomial while the k-th one is summed up. -/
def stR (m : List (List Int)) (n k : Nat) (q : Int) : List Int := rowOf' (n + 1) (fun i => if n < k + i then coef m n (n - i) else if i + k = n then q else 0)
def charL (m : List (List Int)) (n : Nat) : List Int := rowOf' (n + 1) (fun i => coef m n (n - i))
theorem stR_len (m : List (List Int)) (n k : Nat) (q : Int) : (stR m n k q).length = n + 1 := rowOf_len _ _
theorem stR_start (m : List (List Int)) (n : Nat) : stR m n 0 0 = List.replicate (n + 1) 0 := by
  unfold stR
  apply List.ext_getElem?
  intro i
  by_cases h : i < n + 1
  · rw [rowOf_at h, List.getElem?_replicate, if_pos h, if_neg (by omega)]
    split <;> rfl
  · rw [List.getElem?_eq_none (by rw [rowOf_len]; omega), List.getElem?_eq_none (by simp; omega)]
theorem stR_at (m : List (List Int)) {n k r : Nat} (q : Int) (h : r + k = n) : (stR m n k q)[r]? = some q := by
  unfold stR
  rw [rowOf_at (by omega), if_neg (by omega), if_pos h]
theorem stR_set (m : List (List Int)) {n k r : Nat} (q y : Int) (h : r + k = n) : (stR m n k q).set r y = stR m n k y := by
  unfold stR
  apply List.ext_getElem?
  intro i
  by_cases hi : i < n + 1
  · rw [rowOf_at hi]
    by_cases e : i = r
    · subst e
      rw [List.getElem?_set_self (by rw [rowOf_len]; exact hi), if_neg (by omega), if_pos h]
    · rw [List.getElem?_set_ne (Ne.symm e), rowOf_at hi]
      split
      · rfl
      · rw [if_neg (by omega), if_neg (by omega)]
  · rw [List.getElem?_eq_none (by rw [List.length_set, rowOf_len]; omega), List.getElem?_eq_none (by rw [rowOf_len]; omega)]
theorem stR_next (m : List (List Int)) {n k : Nat} (hk : k ≤ n) : stR m n k (coef m n k) = stR m n (k + 1) 0 := by
  unfold stR
  refine rowOf_congr fun i hi => ?_
  by_cases h : n < k + i
  · rw [if_pos h, if_pos (by omega)]
  · rw [if_neg h]
    by_cases e : i + k = n
    · rw [if_pos e, if_pos (show n < k + 1 + i by omega), show n - i = k by omega]
    · rw [if_neg e, if_neg (show ¬ n < k + 1 + i by omega)]
      split <;> rfl
theorem stR_end (m : List (List Int)) (n : Nat) : stR m n (n + 1) 0 = charL m n := by
  unfold stR charL
  exact rowOf_congr fun i _ => by rw [if_pos (by omega)]
theorem OIntR.zero3 : ∀ w : World, OIntR w (.int .i64 0) 0 [] := fun _ => ⟨rfl, rfl⟩
abbrev ResI (v : Value) (xs : List Int) : Res := Res.of (OInts 3) (OInts.kept _).held v xs
abbrev ResT (v : Value) (M : List (List Int)) : Res := Res.of (OTab 3 46) (OTab.kept _ _).held v M
set_option maxHeartbeats 1000000 in
set_option maxRecDepth 100000 in
theorem l7Cut_c {w : World} {a : Option Addr} {n c : Nat} {p : List Int} (h : Ints w (.slice a n c) p) (hl : p.length ≤ 9) (h0 : 0 < p.length) :
    Calls Tryz.prog 99 #[.slice a n c] w (Makes (OInts 3) w (cutL p)) := by
  obtain ⟨a', c', hv, hc1, hc2, hx⟩ := h.shape
  simp only [Value.slice.injEq] at hv
  obtain ⟨rfl, rfl, rfl⟩ := hv
  obtain ⟨b, o, rfl, hb, hcell⟩ := hx h0
  have HC := Lib.hid (fun i x (hx : p[i]? = some x) => (show w.cell? ⟨b, o + i, none⟩ = some (.int .i64 x) from by obtain ⟨u, hu, hux⟩ := hcell i x hx; rw [hu, show u = .int .i64 x from hux]))
  have HP := Lib.hid (fun k (hk : k ≤ p.length) => (show Ints w (.slice (some ⟨b, o, none⟩) k c) (p.take k) from by
    have h1 := Ints.part (w := w) (b := b) (o := o) (l := p.length) (g := fun i => p.getD i 0) (fun j hj => HC.out j _ (by simp [List.getD, hj])) hb (s := 0) (len := k) (c := c) (by omega) (by omega) hc2
    have e : rowOf' k (fun t => p.getD (0 + t) 0) = p.take k := by
      apply List.ext_getElem?
      intro i
      by_cases hi : i < k
      · rw [rowOf_at hi, List.getElem?_take, if_pos hi, Nat.zero_add]
        simp [List.getD, show i < p.length by omega]
      · rw [List.getElem?_eq_none (by rw [rowOf_len]; omega), List.getElem?_eq_none (by simp; omega)]
    rw [e] at h1
    exact h1))
  have HR := Lib.hid (show cutL p = p.take (cutN p p.length) from rfl)
  generalize cutL p = R at HR ⊢
  obtain ⟨n, hn⟩ : ∃ n, n = p.length := ⟨_, rfl⟩
  have Hn := Lib.hid hn
  rw [← hn] at HP HR hc1 hl ⊢
  clear h hn hcell hx h0
  have hnc : (n : Int) ≤ (c : Int) := by omega
  go_enter Tryz.func99, Tryz.ntmps99
  go_wp2
  go_loopg [3] n (fun g i wr => i = .int .i64 g ∧ g ≤ n ∧ Hid (R = p.take (cutN p g)) ∧ wr = w)
  case atStart => exact ⟨rfl, Nat.le_refl _, HR, rfl⟩
  case round =>
    clear HR
    obtain ⟨rfl, hg, HR, rfl⟩ := hrel
    by_cases h0 : 0 < gk
    · have h0i : (0 : Int) < (gk : Int) := by omega
      obtain ⟨g, hgk⟩ : ∃ g, gk = g + 1 := ⟨gk - 1, by omega⟩
      subst hgk
      obtain ⟨x, hx, -⟩ := at_lt (xs := p) (k := g) (by have := Hn.out; omega)
      have gc := HC.out g x hx
      have hw1 : IntKind.i64.wrap ((g : Int) + 1 - 1) = (g : Int) := by rw [IntWalk.i64_in _ (by omega)]; omega
      have hw2 : wrap64 ((g : Int) + 1 - 1) = (g : Int) := by rw [IntWalk.wrap64_in _ (by omega)]; omega
      have hgi : (g : Int) < (n : Int) := by omega
      have HR1 := Lib.hid (show R = p.take (if x = 0 then cutN p g else g + 1) from by rw [HR.out, cutN_succ, show p.getD g 0 = x from by simp [List.getD, hx]])
      clear hx HR
      by_cases hx0 : x = 0
      · have t1 : (x == 0) = true := by simp [hx0]
        have HR2 := Lib.hid (show R = p.take (cutN p g) from by rw [HR1.out, if_pos hx0])
        clear hx0 HR1
        go_wp2
        go_roundg g
        case measure => omega
        case rel => exact ⟨by go_num, by omega, HR2, rfl⟩
      · have t1 : (x == 0) = false := by simp [hx0]
        have HR2 := Lib.hid (show R = p.take (g + 1) from by rw [HR1.out, if_neg hx0])
        have hgc : (g : Int) + 1 ≤ (c : Int) := by omega
        have hgc2 : g + 1 ≤ c := by omega
        have hg0 : (0 : Int) ≤ (g : Int) + 1 := by omega
        have hgt : ((g : Int) + 1).toNat = g + 1 := by omega
        have Hq := Lib.hid (HP.out (g + 1) (by have := Hn.out; omega))
        have Hql := Lib.hid (show (p.take (g + 1)).length ≤ 9 from by rw [List.length_take]; omega)
        clear hx0 HR1 HP HC
        go_wp2_with (at_builtin; refine wpl_append_vals (f := Value.int .i64) (fun _ => rfl) rfl (.tmp 18) (.tmp 21) 46 rfl 3 (.int .i64 0) 8 Tryz.underlying46 infoI rfl (New.empty (R := OValR (Value.int .i64)) (lo := wr.heap.size) wr (Nat.le_refl _)) (by simp) (Ints.frame _ _ _ _ Hq.out ((Below.refl _ _).alloc (Nat.le_refl _) _)) rfl rfl (by have := Hql.out; simp only [List.length_nil]; omega) (by have := Hql.out; simp only [List.length_nil]; omega) ?_; intro v1 w1 hn1 _ _ hb1; have Hn1 := Lib.hid hn1; have Hb1 := Lib.hid (((Below.refl wr.heap.size wr).alloc (Nat.le_refl _) _).trans hb1); clear hn1 hb1)
        go_ret
        exact ⟨_, rfl, by rw [HR2.out]; exact Hn1.out, Hb1.out⟩
    · obtain rfl : gk = 0 := by omega
      have HR2 := Lib.hid (show R = p.take 0 from HR.out)
      have Hq := Lib.hid (HP.out 0 (Nat.zero_le _))
      clear HR HP HC
      go_wp2_with (at_builtin; refine wpl_append_vals (f := Value.int .i64) (fun _ => rfl) rfl (.tmp 18) (.tmp 21) 46 rfl 3 (.int .i64 0) 8 Tryz.underlying46 infoI rfl (New.empty (R := OValR (Value.int .i64)) (lo := wr.heap.size) wr (Nat.le_refl _)) (by simp) (Ints.frame _ _ _ _ Hq.out ((Below.refl _ _).alloc (Nat.le_refl _) _)) rfl rfl (by simp) (by simp) ?_; intro v1 w1 hn1 _ _ hb1; have Hn1 := Lib.hid hn1; have Hb1 := Lib.hid (((Below.refl wr.heap.size wr).alloc (Nat.le_refl _) _).trans hb1); clear hn1 hb1)
      go_ret
      exact ⟨_, rfl, by rw [HR2.out]; exact Hn1.out, Hb1.out⟩
end Go.Proofs.YtlkgkfgpnnahdaaGreat
end

section
/-
  append of one element, by footprints.
-/
namespace Go.Sd
open Go.RowKit Go.Deep
section
variable {P : Program} {w : World} {ops : Array Oper} {rest : List Oper} {o : Oper} {a : Act} {Q : Exit → Act → World → Prop}
theorem wpl_pushF {α : Type} {R : OwnRel α} (hR : Kept R) (hgd : Region.wanted o (yielded ops a.tmps) = true) (s x : Operand) (t : TypeId)
    (ho : o.op = .call { callee := .builtin .append, args := #[s, x], argTypes := #[t, t] })
    (e : TypeId) (z : Value) (bytes : Nat) (ht : P.underlying t = some (.slice e)) (hinfo : (P.info? e).map (fun i => (i.zero, i.size, i.bytes)) = some (some z, 1, bytes)) (hz1 : z.cells = #[z])
    {F : List Nat} {v : Value} {xs : List α} (h0 : OwnOf e R w v xs F) (hnd : F.Nodup)
    {G : List Nat} {u : Value} {y : α} (hG : R w u y G) (hGn : G.Nodup) (hd : ∀ b, b ∈ G → b ∉ F) {bb : Nat} {c : Nat} (hcell : w.cell? ⟨bb, 0, none⟩ = some u)
    (hs : a.eval s = v) (hx : a.eval x = .slice (some ⟨bb, 0, none⟩) 1 c)
    (hbytes : (xs.length + 1) * bytes ≤ 140737488355328) (h63 : xs.length + 1 ≤ 9223372036854775807)
    (h : ∀ v' w' F', OwnOf e R w' v' (xs ++ [y]) F' → F'.Nodup → (∀ b, b ∈ F' → b ∈ F ∨ b ∈ G ∨ w.heap.size ≤ b) → Off F w w' → wpList P ops Q rest (a.put o.dst v') w') :
    wpList P ops Q (o :: rest) a w := by
  obtain ⟨i, hi, hzz⟩ := Option.map_eq_some_iff.1 hinfo
  simp only [Prod.mk.injEq] at hzz
  obtain ⟨hz, hsz, hby⟩ := hzz
  obtain ⟨us, Fs, how, hl, hr, rfl⟩ := h0
  have hul : us.length = xs.length := by simpa using how.1
  obtain ⟨v', w', hrun, how', hg, _, hat⟩ := run_append_own_at (P := P) w 0 t o.type e i z 1 bytes ht hi hz hsz hby (by rw [hz1]; rfl) (by decide) v xs.length us how ⟨bb, 0, none⟩ 1 c [u] (by simp)
    (by
      intro j u' hj
      match j, hj with
      | 0, hj =>
        simp at hj
        subst hj
        simpa [Addr.add] using hcell)
    (by
      intro u' hu'
      simp at hu'
      subst hu'
      exact hR.one _ _ _ _ hG) h63 hbytes (Nat.zero_le _)
  refine wpl_append_run hgd s x t ho hs hx hrun ?_
  have hlt0 : ∀ b, b ∈ Fs.flatten → b < w.heap.size := fun b hb' => by
    obtain ⟨H, hH, hb2⟩ := List.mem_flatten.1 hb'
    obtain ⟨j, hj⟩ := List.getElem?_of_mem hH
    have hj1 : j < Fs.length := (List.getElem?_eq_some_iff.1 hj).1
    exact hR.lt _ _ _ _ (hr j us[j] xs[j] H (List.getElem?_eq_getElem (by omega)) (List.getElem?_eq_getElem (by omega)) hj) b hb2
  have hvlt : ∀ k, v.ownBlock = some k → k < w.heap.size := fun k hk => (how.lt k hk).2
  have hGlt : ∀ b, b ∈ G → b < w.heap.size := hR.lt _ _ _ _ hG
  have hnd' := List.nodup_append.1 hnd
  have hnv : ∀ k, v.ownBlock = some k → k ∉ Fs.flatten := fun k hk hm => hnd'.2.2 k (by simp [hk]) k hm rfl
  have hGv : ∀ k, v.ownBlock = some k → k ∉ G := fun k hk hm => hd k hm (by simp [hk])
  have hGF : ∀ b, b ∈ G → b ∉ Fs.flatten := fun b hb hm => hd b hb (List.mem_append_right _ hm)
  refine h v' w' (v'.ownBlock.toList ++ (Fs ++ [G]).flatten) ⟨us ++ [u], Fs ++ [G], by simpa using how', by simp [hl], ?_, rfl⟩ ?_ ?_ ?_
  · intro j u' x' G' hu' hx' hG'
    by_cases hj : j < xs.length
    · rw [List.getElem?_append_left (by omega)] at hu' hx' hG'
      refine hR.keep _ _ _ _ _ (hr j u' x' G' hu' hx' hG') fun b hb' => ?_
      have hm : b ∈ Fs.flatten := List.mem_flatten_of_mem (List.mem_of_getElem? hG') hb'
      exact hg.block b (hlt0 b hm) (fun e => hnv b e.symm hm)
    · have hj2 : j = xs.length := by
        have := (List.getElem?_eq_some_iff.1 hx').1
        simp at this; omega
      subst hj2
      rw [List.getElem?_append_right (by omega)] at hu' hx' hG'
      simp [hul, hl] at hu' hx' hG'
      subst hu' hx' hG'
      exact hR.keep _ _ _ _ _ hG fun b hb' => hg.block b (hGlt b hb') fun e => hGv b e.symm hb'
  · simp only [List.flatten_append, List.flatten_cons, List.flatten_nil, List.append_nil]
    refine List.nodup_append.2 ⟨by cases v'.ownBlock <;> simp, List.nodup_append.2 ⟨hnd'.2.1, hGn, ?_⟩, ?_⟩
    · intro p hp q hq e
      subst e
      exact hGF p hq hp
    · intro p hp q hq e
      subst e
      simp at hp
      rcases hat with hat | hat
      · rw [hat] at hp
        rcases List.mem_append.1 hq with hq | hq
        · exact hnv p hp hq
        · exact hGv p hp hq
      · rw [hat] at hp
        simp at hp
        rcases List.mem_append.1 hq with hq | hq
        · have := hlt0 p hq; omega
        · have := hGlt p hq; omega
  · intro b hb'
    simp only [List.flatten_append, List.flatten_cons, List.flatten_nil, List.append_nil] at hb'
    rcases List.mem_append.1 hb' with hb' | hb'
    · simp at hb'
      rcases hat with hat | hat
      · rw [hat] at hb'
        exact Or.inl (List.mem_append_left _ (by simp [hb']))
      · rw [hat] at hb'
        simp at hb'
        exact Or.inr (Or.inr (by omega))
    · rcases List.mem_append.1 hb' with hb' | hb'
      · exact Or.inl (List.mem_append_right _ hb')
      · exact Or.inr (Or.inl hb')
  · exact ⟨hg.os, hg.tape, hg.output, hg.size, fun b hb hf => hg.block b hb fun e => hf (List.mem_append_left _ (by simp [← e]))⟩
end
/-- What has grown out of F. -/
def Out (F : List Nat) (w : World) (F' : List Nat) : Prop := ∀ b, b ∈ F' → b ∈ F ∨ w.heap.size ≤ b
theorem Off.step {F F' : List Nat} {w w1 w2 : World} (h : Off F w w1) (hF : Out F w F') (k : Off F' w1 w2) : Off F w w2 :=
  ⟨k.os.trans h.os, k.tape.trans h.tape, k.output.trans h.output, Nat.le_trans h.size k.size, fun b hb hf => (k.block b (Nat.lt_of_lt_of_le hb h.size) fun hm => by rcases hF b hm with h1 | h1; exact hf h1; omega).trans (h.block b hb hf)⟩
theorem Off.of_below {F : List Nat} {w w1 : World} (h : Below w.heap.size w w1) : Off F w w1 := ⟨h.os, h.tape, h.output, h.size, fun b hb _ => h.block b hb⟩
end Go.Sd
end

section
/-
  The cursor of the drawn inputs: what its calls answer lies within bounds, and its own block alone changes.
-/
namespace Go.Sd
open Go.RowKit Go.Deep
/-- A slice of bytes. -/
abbrev BytR : World → Value → List Int → Prop := SlOf (ValR (Value.int .u8))
theorem BytR.frame : Framed BytR := SlOf.frame fun _ _ _ _ h _ => h
theorem BytR.cellsB {w : World} {v : Value} {xs : List Int} (h : BytR w v xs) : ∃ a c, v = .slice a xs.length c ∧ (0 < xs.length → ∃ b o, a = some ⟨b, o, none⟩ ∧ b < w.heap.size ∧ ∀ i, i < xs.length → w.cell? ⟨b, o + i, none⟩ = some (.int .u8 (xs.getD i 0))) := by
  obtain ⟨a, c, rfl, -, -, hx⟩ := h.shape
  refine ⟨a, c, rfl, fun h0 => ?_⟩
  obtain ⟨b, o, rfl, hb, hc⟩ := hx h0
  refine ⟨b, o, rfl, hb, fun i hi => ?_⟩
  obtain ⟨u, hu, hux⟩ := hc i _ (List.getElem?_eq_getElem hi)
  rw [hu, show u = .int .u8 xs[i] from hux]
  simp [List.getD, hi]
end Go.Sd
namespace Go.Proofs.YtlkgkfgpnnahdaaGreat
open Go.RowKit Go.Deep Go.Sd
set_option linter.unusedSimpArgs false
theorem i64_and255 (n : Int) : bits .and .i64 n 255 = n % 256 := by
  have h1 : (BitVec.ofInt 64 255).toNat = 2 ^ 8 - 1 := by decide
  have key : (BitVec.ofInt 64 n &&& BitVec.ofInt 64 255).toNat = (n % ((2 ^ 64 : Nat) : Int)).toNat % 2 ^ 8 := by
    rw [BitVec.toNat_and, BitVec.toNat_ofInt, h1, Nat.and_two_pow_sub_one_eq_mod]
  show IntKind.i64.wrap ((BitVec.ofInt 64 n &&& BitVec.ofInt 64 255).toNat : Nat) = n % 256
  rw [key, IntKind.wrap_i64]
  omega
set_option maxHeartbeats 1000000 in
set_option maxRecDepth 100000 in
theorem l1New_c {w : World} {vc : Value} {xs : List Int} (h : BytR w vc xs) :
    Calls Tryz.prog 30 #[vc] w fun e w' => e = .returned (.pointer (some ⟨w.heap.size, 0, none⟩)) ∧ (∃ hh : Int, Sep w.heap.size w' [Res.box w.heap.size [vc, .int .i64 0, .int .i64 hh]]) ∧ Below w.heap.size w w' := by
  have hlen := h.len
  obtain ⟨a, c, rfl, hcell⟩ := h.cellsB
  obtain ⟨n, hn⟩ : ∃ n, n = xs.length := ⟨_, rfl⟩
  rw [← hn] at hcell hlen ⊢
  clear h hn
  obtain ⟨M, hM⟩ : ∃ M, M = min n 4000 := ⟨_, rfl⟩
  have hM1 : M ≤ n := by omega
  have hM2 : M ≤ 4000 := by omega
  have hM3 : M = n ∨ M = 4000 := by omega
  clear hM
  go_enter Tryz.func30, Tryz.ntmps30
  go_wp2
  go_loopg [3, 4] M (fun g v i wr => ∃ (k : Nat) (H : Int), v = .int .i64 H ∧ i = .int .i64 k ∧ k + g = M ∧ wr = w)
  case atStart => exact ⟨0, _, rfl, rfl, by omega, rfl⟩
  case round =>
    obtain ⟨k, H, rfl, rfl, hk, rfl⟩ := hrel
    by_cases hkM : k < M
    · obtain ⟨g, rfl⟩ : ∃ x, gk = x + 1 := ⟨gk - 1, by omega⟩
      have h1 : (k : Int) < (n : Int) := by omega
      have h2 : (k : Int) < 4000 := by omega
      obtain ⟨b, o, rfl, hb, hc⟩ := hcell (by omega)
      have gx := hc k (by omega)
      clear hc hcell
      go_wp2
      go_roundg g
      case measure => omega
      case rel => exact ⟨k + 1, _, rfl, by go_num, by omega, rfl⟩
    · have hend : ¬ ((k : Int) < (n : Int)) ∨ ((k : Int) < (n : Int) ∧ ¬ ((k : Int) < 4000)) := by omega
      have hs := Lib.hid ((Sep.nil wr.heap.size wr).boxNew (Nat.le_refl _) [.slice a n c, .int .i64 0, .int .i64 H] 82)
      have hb := Lib.hid ((Below.refl wr.heap.size wr).alloc (Nat.le_refl _) (.cells #[.slice a n c, .int .i64 0, .int .i64 H] 82))
      clear hcell
      rcases hend with h1 | ⟨h1, h2⟩
      · go_wp2
        go_ret
        exact ⟨rfl, ⟨H, hs.out⟩, hb.out⟩
      · go_wp2
        go_ret
        exact ⟨rfl, ⟨H, hs.out⟩, hb.out⟩
/-- The cursor: its block apart from other own things. -/
def Cur (lo : Nat) (w : World) (cb : Nat) (K : Value) (n : Nat) (rs : List Res) : Prop := ∃ (i : Nat) (h : Int), i ≤ n ∧ Sep lo w (Res.box cb [K, .int .i64 i, .int .i64 h] :: rs)
/-- A call that draws a number. -/
def DrawsN (lo : Nat) (w : World) (cb : Nat) (K : Value) (n : Nat) (rs : List Res) (B : Nat) (e : Ending) (w' : World) : Prop := ∃ x : Nat, e = .returned (.int .i64 x) ∧ x < B ∧ Cur lo w' cb K n rs ∧ Below lo w w' ∧ Off [cb] w w'
set_option maxHeartbeats 1000000 in
set_option maxRecDepth 100000 in
theorem l1Byte_c {lo : Nat} {w : World} {cb : Nat} {K : Value} {xs : List Int} {rs : List Res} (hK : ∀ w', Below lo w w' → BytR w' K xs) (hc : Cur lo w cb K xs.length rs) (hlo : lo ≤ w.heap.size) :
    Calls Tryz.prog 74 #[.pointer (some ⟨cb, 0, none⟩)] w (DrawsN lo w cb K xs.length rs 256) := by
  obtain ⟨i, h, hi, hs⟩ := hc
  have hlen := (hK w (Below.refl _ _)).len
  obtain ⟨hlb, mb, hcb⟩ := hs.headBox
  have c0 := (hcb 0 _ rfl).1
  have c1 := (hcb 1 _ rfl).1
  have c2 := (hcb 2 _ rfl).1
  have f2 := (hcb 2 _ rfl).2
  obtain ⟨a, c, rfl, -⟩ := (hK w (Below.refl _ _)).cellsB
  have HS := Lib.hid hs
  have HK := Lib.hid hK
  clear hs hcb hK
  go_enter Tryz.func74, Tryz.ntmps74
  go_wp2
  obtain ⟨H, hH⟩ : ∃ H : Int, H = wrap64 (wrap64 (h * 6364136223846793005) + 1442695040888963407) := ⟨_, rfl⟩
  rw [← hH]
  clear hH
  have hs1 := HS.out.boxStore hlo (j := 2) rfl (.int .i64 H)
  have hb1 := Lib.hid ((Below.refl lo w).setCell (p := ⟨cb, 2, none⟩) hlb (.int .i64 H))
  have ho1 := Lib.hid (Off.setCell (F := [cb]) (w := w) (p := ⟨cb, 2, none⟩) (by simp) (.int .i64 H))
  obtain ⟨w1, e1⟩ : ∃ x, x = w.setCell ⟨cb, 2, none⟩ (.int .i64 H) := ⟨_, rfl⟩
  rw [← e1] at hs1 hb1 ho1 ⊢
  obtain ⟨-, mb1, hcb⟩ := hs1.headBox
  have g0 : w1.cell? ⟨cb, 0, none⟩ = some (.slice a xs.length c) := (hcb 0 _ rfl).1
  have g1 : w1.cell? ⟨cb, 1, none⟩ = some (.int .i64 i) := (hcb 1 _ rfl).1
  have g2 : w1.cell? ⟨cb, 2, none⟩ = some (.int .i64 H) := (hcb 2 _ rfl).1
  have k1 : w1.frozen? ⟨cb, 1, none⟩ = false := (hcb 1 _ rfl).2
  have HS1 := Lib.hid (show Sep lo w1 (Res.box cb [.slice a xs.length c, .int .i64 i, .int .i64 H] :: rs) from hs1)
  have hlo1 : lo ≤ w1.heap.size := Nat.le_trans hlo hb1.out.size
  have HK1 := Lib.hid (HK.out w1 hb1.out)
  clear hs1 hcb c0 c1 c2 f2 e1 HS mb
  go_quiet (fail)
  go_wp2
  rw [i64_and255]
  generalize bits BinOp.xor IntKind.i64 (H / 8589934592) (H / 35184372088832) = X
  obtain ⟨Y, hY, hY2⟩ : ∃ Y : Nat, X % 256 = (Y : Int) ∧ Y < 256 := ⟨(X % 256).toNat, by omega, by omega⟩
  rw [hY]
  clear hY
  have hlo2 := hlo1
  by_cases hin : i < xs.length
  · have h1 : (i : Int) < (xs.length : Int) := by omega
    obtain ⟨a', c', hv, hcell⟩ := HK1.out.cellsB
    simp only [Value.slice.injEq] at hv
    obtain ⟨rfl, -, rfl⟩ := hv
    obtain ⟨b, o, rfl, hb, hcx⟩ := hcell (by omega)
    have gx := hcx i hin
    generalize xs.getD i 0 = x at gx
    clear hcx hcell
    go_quiet (fail)
    go_wp2
    go_quiet (fail)
    go_wp2
    rw [i64_and255]
    generalize wrap64 ((Y : Int) + wrap64 x) = Z0
    obtain ⟨Z, hZ, hZ2⟩ : ∃ Z : Nat, Z0 % 256 = (Z : Int) ∧ Z < 256 := ⟨(Z0 % 256).toNat, by omega, by omega⟩
    rw [hZ]
    have hd := fun N => below_drewN (Below.refl lo w1) N
    have hst := fun N => (HS1.out.below (below_drewN (Below.refl w1.heap.size w1) N) (Nat.le_refl _)).boxStore (by simpa using hlo1) (j := 1) rfl (.int .i64 ((i : Int) + 1))
    go_ret
    exact ⟨Z, rfl, hZ2, ⟨i + 1, H, by omega, hst _⟩, (hb1.out.trans (hd _)).setCell (p := ⟨cb, 1, none⟩) hlb _, (ho1.out.trans (Off.of_below (below_drewN (Below.refl w1.heap.size w1) _))).trans (Off.setCell (p := ⟨cb, 1, none⟩) (by simp) _)⟩
  · have h1 : ¬ ((i : Int) < (xs.length : Int)) := by omega
    go_quiet (fail)
    go_wp2
    go_ret
    exact ⟨Y, rfl, hY2, ⟨i, H, hi, HS1.out.below (below_drewN (Below.refl w1.heap.size w1) _) (Nat.le_refl _)⟩, hb1.out.trans (below_drewN (Below.refl lo w1) _), ho1.out.trans (Off.of_below (below_drewN (Below.refl w1.heap.size w1) _))⟩
set_option maxHeartbeats 1000000 in
set_option maxRecDepth 100000 in
theorem l1Below_c {lo : Nat} {w : World} {cb : Nat} {K : Value} {xs : List Int} {rs : List Res} {N : Nat} (hK : ∀ w', Below lo w w' → BytR w' K xs) (hc : Cur lo w cb K xs.length rs) (hlo : lo ≤ w.heap.size) (hN : 1 ≤ N) (hN2 : N ≤ 256) :
    Calls Tryz.prog 42 #[.pointer (some ⟨cb, 0, none⟩), .int .i64 N] w (DrawsN lo w cb K xs.length rs N) := by
  have HB := Lib.hid (l1Byte_c hK hc hlo)
  have h0 : ¬ ((N : Int) ≤ 0) := by omega
  have h1 : (N : Int) ≤ 256 := by omega
  have h2 : (0 : Int) < (N : Int) := by omega
  have h3 : ¬ ((N : Int) = 0) := by omega
  clear hK hc
  go_enter Tryz.func42, Tryz.ntmps42
  go_wp2_with fail
  (with_reducible refine HB.out.mono ?_)
  rintro e w1 ⟨x, rfl, hx, hc, hb, ho⟩
  have HO := Lib.hid ho
  clear ho
  have HC := Lib.hid hc
  have HBl := Lib.hid hb
  have hmod : (x : Int) % (N : Int) = ((x % N : Nat) : Int) := by omega
  have hlt : x % N < N := Nat.mod_lt _ (by omega)
  clear hc hb HB
  go_wp2
  go_ret
  exact ⟨x % N, by rw [show ((x % N : Nat) : Int) = (x : Int) % (N : Int) from hmod.symm]; rfl, hlt, HC.out, HBl.out, HO.out⟩
set_option maxHeartbeats 1000000 in
theorem l1Below_zero {w : World} {cb : Nat} {N : Int} (h : N ≤ 0) :
    Calls Tryz.prog 42 #[.pointer (some ⟨cb, 0, none⟩), .int .i64 N] w fun e w' => e = .returned (.int .i64 0) ∧ w' = w := by
  go_enter Tryz.func42, Tryz.ntmps42
  go_wp2
  go_ret
  exact ⟨rfl, rfl⟩
set_option maxHeartbeats 1000000 in
set_option maxRecDepth 100000 in
theorem l1Once_c {lo : Nat} {w : World} {cb : Nat} {K : Value} {xs : List Int} {rs : List Res} {N : Nat} (hK : ∀ w', Below lo w w' → BytR w' K xs) (hc : Cur lo w cb K xs.length rs) (hlo : lo ≤ w.heap.size) (hN : 1 ≤ N) (hN2 : N ≤ 256) :
    Calls Tryz.prog 31 #[.pointer (some ⟨cb, 0, none⟩), .int .i64 N] w fun e w' => ∃ b : Bool, e = .returned (.bool b) ∧ Cur lo w' cb K xs.length rs ∧ Below lo w w' ∧ Off [cb] w w' := by
  have HB := Lib.hid (l1Below_c hK hc hlo hN hN2)
  clear hK hc
  go_enter Tryz.func31, Tryz.ntmps31
  go_wp2_with fail
  (with_reducible refine HB.out.mono ?_)
  rintro e w1 ⟨x, rfl, hx, hc, hb, ho⟩
  have HO := Lib.hid ho
  clear ho
  have HC := Lib.hid hc
  have HBl := Lib.hid hb
  clear hc hb HB
  go_wp2
  go_ret
  exact ⟨_, rfl, HC.out, HBl.out, HO.out⟩
theorem Cur.perm {lo : Nat} {w : World} {cb : Nat} {K : Value} {n : Nat} {rs ss : List Res} (h : Cur lo w cb K n rs) (hp : rs.Perm ss) : Cur lo w cb K n ss := by
  obtain ⟨i, x, hi, hs⟩ := h
  exact ⟨i, x, hi, hs.perm (hp.cons _)⟩
theorem Cur.rest {lo : Nat} {w : World} {cb : Nat} {K : Value} {n : Nat} {r : Res} {rs : List Res} (h : Cur lo w cb K n (r :: rs)) : Cur lo w cb K n rs := by
  obtain ⟨i, x, hi, hs⟩ := h
  exact ⟨i, x, hi, hs.swap.tail⟩
theorem Cur.out {lo : Nat} {w : World} {cb : Nat} {K : Value} {n : Nat} {rs : List Res} (h : Cur lo w cb K n rs) : Sep lo w rs := by
  obtain ⟨i, x, hi, hs⟩ := h
  exact hs.tail
/-- What is made besides. -/
theorem Cur.new {α : Type} {R : OwnRel α} (hR : Held R) {lo : Nat} {w w' : World} {cb : Nat} {K : Value} {n : Nat} {rs : List Res} (h : Cur lo w cb K n rs) (hb : Below w.heap.size w w') (hlo : lo ≤ w.heap.size) {v : Value} {x : α} (hn : New R w.heap.size w' v x) : Cur lo w' cb K n (Res.of R hR v x :: rs) := by
  obtain ⟨i, z, hi, hs⟩ := h
  exact ⟨i, z, hi, (hs.new hR hb hlo hn).swap⟩
theorem Cur.box {lo : Nat} {w : World} {cb : Nat} {K : Value} {n : Nat} {rs : List Res} (h : Cur lo w cb K n rs) (hlo : lo ≤ w.heap.size) (vs : List Value) (ty : TypeId) : Cur lo (w.alloc (.cells vs.toArray ty)) cb K n (Res.box w.heap.size vs :: rs) := by
  obtain ⟨i, z, hi, hs⟩ := h
  exact ⟨i, z, hi, (hs.boxNew hlo vs ty).swap⟩
theorem Cur.below {lo : Nat} {w w' : World} {cb : Nat} {K : Value} {n : Nat} {rs : List Res} (h : Cur lo w cb K n rs) (hb : Below w.heap.size w w') : Cur lo w' cb K n rs := by
  obtain ⟨i, z, hi, hs⟩ := h
  exact ⟨i, z, hi, hs.below hb (Nat.le_refl _)⟩
set_option maxHeartbeats 1000000 in
set_option maxRecDepth 100000 in
theorem l1PickInt_c {lo : Nat} {w : World} {cb bl : Nat} {K : Value} {xs : List Int} {rs : List Res} {ls : List Int} {c : Nat} (hK : ∀ w', Below lo w w' → BytR w' K xs) (hc : Cur lo w cb K xs.length (Res.box bl (ls.map (Value.int .i64)) :: rs)) (hlo : lo ≤ w.heap.size) (hN : 1 ≤ ls.length) (hN2 : ls.length ≤ 256) :
    Calls Tryz.prog 73 #[.pointer (some ⟨cb, 0, none⟩), .slice (some ⟨bl, 0, none⟩) ls.length c] w fun e w' => ∃ x : Int, e = .returned (.int .i64 x) ∧ x ∈ ls ∧ Cur lo w' cb K xs.length (Res.box bl (ls.map (Value.int .i64)) :: rs) ∧ Below lo w w' ∧ Off [cb] w w' := by
  have HB := Lib.hid (l1Below_c hK hc hlo hN hN2)
  obtain ⟨N, hNe⟩ : ∃ N, N = ls.length := ⟨_, rfl⟩
  have HNe := Lib.hid hNe
  rw [← hNe] at HB ⊢
  clear hK hc hN hN2 hNe
  go_enter Tryz.func73, Tryz.ntmps73
  go_wp2_with fail
  (with_reducible refine HB.out.mono ?_)
  rintro e w1 ⟨x, rfl, hx, hc, hb, ho⟩
  have HO := Lib.hid ho
  clear ho
  have hcell := (hc.out.headBox).2.2 x (.int .i64 (ls[x]'(by have := HNe.out; omega))) (by rw [List.getElem?_map, List.getElem?_eq_getElem (by have := HNe.out; omega)]; rfl)
  have g0 := hcell.1
  have Hm := Lib.hid (List.getElem_mem (l := ls) (n := x) (by have := HNe.out; omega))
  generalize ls[x]'(by have := HNe.out; omega) = y at g0 Hm
  have hxi : (x : Int) < (N : Int) := by omega
  have HC := Lib.hid hc
  have HBl := Lib.hid hb
  clear hc hb HB hcell
  go_wp2
  go_ret
  exact ⟨y, rfl, Hm.out, HC.out, HBl.out, HO.out⟩
set_option maxHeartbeats 1000000 in
set_option maxRecDepth 100000 in
theorem l1Pick_c {lo : Nat} {w : World} {cb bl : Nat} {K : Value} {xs : List Int} {rs : List Res} {ls : List ByteArray} {c : Nat} (hK : ∀ w', Below lo w w' → BytR w' K xs) (hc : Cur lo w cb K xs.length (Res.box bl (ls.map Value.string) :: rs)) (hlo : lo ≤ w.heap.size) (hN : 1 ≤ ls.length) (hN2 : ls.length ≤ 256) :
    Calls Tryz.prog 72 #[.pointer (some ⟨cb, 0, none⟩), .slice (some ⟨bl, 0, none⟩) ls.length c] w fun e w' => ∃ x : ByteArray, e = .returned (.string x) ∧ x ∈ ls ∧ Cur lo w' cb K xs.length (Res.box bl (ls.map Value.string) :: rs) ∧ Below lo w w' ∧ Off [cb] w w' := by
  have HB := Lib.hid (l1Below_c hK hc hlo hN hN2)
  obtain ⟨N, hNe⟩ : ∃ N, N = ls.length := ⟨_, rfl⟩
  have HNe := Lib.hid hNe
  rw [← hNe] at HB ⊢
  clear hK hc hN hN2 hNe
  go_enter Tryz.func72, Tryz.ntmps72
  go_wp2_with fail
  (with_reducible refine HB.out.mono ?_)
  rintro e w1 ⟨x, rfl, hx, hc, hb, ho⟩
  have HO := Lib.hid ho
  clear ho
  have hcell := (hc.out.headBox).2.2 x (.string (ls[x]'(by have := HNe.out; omega))) (by rw [List.getElem?_map, List.getElem?_eq_getElem (by have := HNe.out; omega)]; rfl)
  have g0 := hcell.1
  have Hm := Lib.hid (List.getElem_mem (l := ls) (n := x) (by have := HNe.out; omega))
  generalize ls[x]'(by have := HNe.out; omega) = y at g0 Hm
  have hxi : (x : Int) < (N : Int) := by omega
  have HC := Lib.hid hc
  have HBl := Lib.hid hb
  clear hc hb HB hcell
  go_wp2
  go_ret
  exact ⟨y, rfl, Hm.out, HC.out, HBl.out, HO.out⟩
theorem l1Below_i {lo : Nat} {w : World} {cb : Nat} {K : Value} {xs : List Int} {rs : List Res} {z : Int} (hK : ∀ w', Below lo w w' → BytR w' K xs) (hc : Cur lo w cb K xs.length rs) (hlo : lo ≤ w.heap.size) (hN : 1 ≤ z) (hN2 : z ≤ 256) :
    Calls Tryz.prog 42 #[.pointer (some ⟨cb, 0, none⟩), .int .i64 z] w (DrawsN lo w cb K xs.length rs z.toNat) := by
  obtain ⟨N, rfl⟩ := Int.eq_ofNat_of_zero_le (show 0 ≤ z by omega)
  exact l1Below_c hK hc hlo (by omega) (by omega)
theorem l1Once_i {lo : Nat} {w : World} {cb : Nat} {K : Value} {xs : List Int} {rs : List Res} {z : Int} (hK : ∀ w', Below lo w w' → BytR w' K xs) (hc : Cur lo w cb K xs.length rs) (hlo : lo ≤ w.heap.size) (hN : 1 ≤ z) (hN2 : z ≤ 256) :
    Calls Tryz.prog 31 #[.pointer (some ⟨cb, 0, none⟩), .int .i64 z] w fun e w' => ∃ b : Bool, e = .returned (.bool b) ∧ Cur lo w' cb K xs.length rs ∧ Below lo w w' ∧ Off [cb] w w' := by
  obtain ⟨N, rfl⟩ := Int.eq_ofNat_of_zero_le (show 0 ≤ z by omega)
  exact l1Once_c hK hc hlo (by omega) (by omega)
end Go.Proofs.YtlkgkfgpnnahdaaGreat
end
