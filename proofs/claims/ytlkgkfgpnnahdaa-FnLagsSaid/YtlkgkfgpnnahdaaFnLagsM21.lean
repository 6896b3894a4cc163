/-
  Texts of this claim joined: laws for its walks, contracts of the functions that the law reaches.
-/
import Derived.Test.YtlkgkfgpnnahdaaFnLagsM20
import Derived.Test.YtlkgkfgpnnahdaaFnLagsM6
import Derived.Test.YtlkgkfgpnnahdaaRows
import Derived.Test.YtlkgkfgpnnahdaaFnLagsM1
import Derived.Test.YtlkgkfgpnnahdaaFnLagsM3
import Derived.Test.YtlkgkfgpnnahdaaFnLagsM4
import Derived.Test.YtlkgkfgpnnahdaaFnLagsM11
import Derived.Test.YtlkgkfgpnnahdaaFnLagsM2
import Derived.Test.YtlkgkfgpnnahdaaFnLagsM12
import Derived.Test.YtlkgkfgpnnahdaaFnLagsM14
import Derived.Test.YtlkgkfgpnnahdaaFnLagsM19
import Derived.WalkSpells
import Derived.IntWalk
import Derived.Deep.RegionHeld3
import Derived.Deep.DeepCutAuto
section
/-
  The draws of the joins, the third part: an order, two matrices that are often alike; the trace.
-/
namespace Go.Sd
open Go.RowKit Go.Deep
/-- The end of a slice of numbers. -/
theorem Ints.drop' {w : World} {b o n c : Nat} {xs : List Int} (h : Ints w (.slice (some ⟨b, o, none⟩) n c) xs) {s : Nat} (hs : s ≤ n) : Ints w (.slice (some ⟨b, o + s, none⟩) (n - s) (c - s)) (xs.drop s) := by
  obtain ⟨vs, ⟨hl, a', c', hv, hnc, hcm, hn, hx⟩, hvl, hvr⟩ := h
  simp only [Value.slice.injEq] at hv
  obtain ⟨rfl, rfl, rfl⟩ := hv
  refine ⟨vs.drop s, ⟨by simp; omega, some ⟨b, o + s, none⟩, c - s, by simp, by simp; omega, by omega, by simp, ?_⟩, by simp; omega, fun i u x hu hx => ?_⟩
  · rcases hx with h0 | ⟨b', o', e, hb, hc⟩
    · left; simp [h0]
    · simp only [Option.some.injEq, Addr.mk.injEq] at e
      obtain ⟨rfl, rfl, -⟩ := e
      refine Or.inr ⟨b, o + s, rfl, hb, fun i u hu => ?_⟩
      rw [List.getElem?_drop] at hu
      rw [Nat.add_assoc]
      exact hc (s + i) u hu
  · rw [List.getElem?_drop] at hu hx
    exact hvr (s + i) u x hu hx
end Go.Sd
namespace Go.Proofs.Ytlkgkfgpnnahdaa
open Go.RowKit Go.Deep Go.Sd
set_option linter.unusedSimpArgs false
theorem nats_put (ps : List Nat) (x k : Nat) : nats (ps.take x ++ [k] ++ ps.drop x) = (nats ps).take x ++ [(k : Int)] ++ (nats ps).drop x := by
  unfold nats
  simp [List.map_take, List.map_drop]
/-- What an order's draw leaves. -/
def OrdP (lo : Nat) (w w' : World) (cb : Nat) (K : Value) (L n : Nat) (rs : List Res) (v : Value) : Prop := ∃ (ps : List Nat) (ss : List Res), (ps.length = n ∧ ∀ p, p ∈ ps → p < n) ∧ Cur lo w' cb K L (Res.ints 3 v (nats ps) :: (ss ++ rs)) ∧ Below lo w w'
set_option maxHeartbeats 4000000 in
set_option maxRecDepth 100000 in
theorem l18Order_c {lo : Nat} {w : World} {cb : Nat} {K : Value} {xs : List Int} {rs : List Res} {n : Nat} (hK : ∀ w', Below lo w w' → BytR w' K xs) (hc : Cur lo w cb K xs.length rs) (hlo : lo ≤ w.heap.size) (hn : n ≤ 9) :
    Calls Try.prog 90 #[.pointer (some ⟨cb, 0, none⟩), .int .i64 n] w fun e w' => ∃ v : Value, e = .returned v ∧ OrdP lo w w' cb K xs.length n rs v := by
  have HK := Lib.hid hK
  have HC0 := Lib.hid (show Cur lo (w.alloc (.cells #[] 3)) cb K xs.length (Res.ints 3 (.slice (some ⟨w.heap.size, 0, none⟩) 0 0) (nats []) :: ([] ++ rs)) from hc.new (OInts.kept 3).held ((Below.refl w.heap.size w).alloc (Nat.le_refl _) (.cells #[] 3)) hlo (New.empty w (Nat.le_refl _)))
  have HB0 := Lib.hid ((Below.refl lo w).alloc hlo (.cells #[] 3))
  have Hlo := Lib.hid hlo
  clear hK hc hlo
  go_enter Try.func90, Try.ntmps90
  go_wp2
  go_loopg [5, 6] n (fun g ov kv wr => ∃ (k b c : Nat) (ps : List Nat) (ss : List Res), ov = .slice (some ⟨b, 0, none⟩) k c ∧ kv = .int .i64 k ∧ k + g = n ∧ Hid (ps.length = k ∧ ∀ p, p ∈ ps → p < k) ∧ Hid (Cur lo wr cb K xs.length (Res.ints 3 (.slice (some ⟨b, 0, none⟩) k c) (nats ps) :: (ss ++ rs))) ∧ Hid (Below lo w wr))
  case atStart => exact ⟨0, _, 0, [], [], rfl, rfl, by omega, Lib.hid ⟨rfl, by simp⟩, HC0, HB0⟩
  case round =>
    clear HC0 HB0
    obtain ⟨k, b, c, ps, ss, rfl, rfl, hk, HP, HC, HB⟩ := hrel
    obtain ⟨w1, rfl⟩ : ∃ x, x = wr := ⟨_, rfl⟩
    have hz : lo ≤ w1.heap.size := Nat.le_trans Hlo.out HB.out.size
    by_cases hkn : k < n
    · have hki : (k : Int) < (n : Int) := by omega
      obtain ⟨g, rfl⟩ : ∃ x, gk = x + 1 := ⟨gk - 1, by omega⟩
      have HD := Lib.hid (l1Below_i (z := (k : Int) + 1) (fun w' hb => HK.out w' (HB.out.trans hb)) HC.out hz (by omega) (by omega))
      go_wp2_with fail
      (with_reducible refine HD.out.mono ?_)
      rintro e w2 ⟨x, rfl, hx, hc, hb, -⟩
      have hxk : x ≤ k := by omega
      have HB2 := Lib.hid (HB.out.trans hb)
      have hz2 : lo ≤ w2.heap.size := Nat.le_trans hz hb.size
      have hxi : (x : Int) ≤ (k : Int) := by omega
      have hin := hc.intsOf (List.mem_cons_self)
      have hcap := Ints.capn hin
      have hkc : k ≤ c := hcap.2.1
      have hcm : c ≤ 9223372036854775807 := hcap.2.2
      have hbs : b < w2.heap.size := by
        obtain ⟨i, z, hi, hs⟩ := hc
        obtain ⟨F, ⟨G, H, rfl, hG, -⟩, -, -⟩ := hs.swap
        have hG' : OInts 3 w2 (.slice (some ⟨b, 0, none⟩) k c) (nats ps) G := hG
        refine (OInts.kept _).lt _ _ _ _ hG' b ?_
        obtain ⟨us, Fs, -, -, -, rfl⟩ := hG'
        exact List.mem_append_left _ (by simp [Value.ownBlock])
      -- what lies behind the place
      have hd : ∃ ad cd, (if x < c then ((⟨b, x, none⟩ : Addr), c - x) else (⟨b, 0, none⟩, 0)) = (ad, cd) ∧ Ints w2 (.slice (some ad) (k - x) cd) ((nats ps).drop x) := by
        by_cases hxc : x < c
        · refine ⟨_, _, by rw [if_pos hxc], ?_⟩
          have h := Ints.drop' hin hxk
          rw [Nat.zero_add] at h
          exact h
        · refine ⟨_, _, by rw [if_neg hxc], ?_⟩
          have h0 : k - x = 0 := by omega
          have h1 : (nats ps).drop x = [] := List.drop_eq_nil_of_le (by rw [← hcap.1]; omega)
          rw [h0, h1]
          exact ⟨[], ⟨by simp, _, 0, rfl, by simp, by simp, by simp, Or.inl rfl⟩, rfl, by simp⟩
      obtain ⟨ad, cd, had, hdr⟩ := hd
      obtain ⟨v3, w3, hr3, hn3, -, hb3⟩ := run_vals (P := Try.prog) (f := Value.int .i64) (fun _ => rfl) 33 33 3 (.int .i64 0) 8 Try.underlying33 infoI rfl (New.empty (R := OValR (Value.int .i64)) (e := 3) (lo := w2.heap.size) w2 (Nat.le_refl _)) (by simp) (Ints.frame _ _ _ _ hdr ((Below.refl _ _).alloc (Nat.le_refl _) _)) (by rw [List.length_drop, ← hcap.1]; simp; omega) (by rw [List.length_drop, ← hcap.1]; simp; omega)
      rw [List.nil_append] at hn3
      have hb3' := ((Below.refl w2.heap.size w2).alloc (Nat.le_refl _) (.cells #[] 3)).trans hb3
      have hc3 := hc.new (OInts.kept 3).held hb3' hz2 hn3
      have hz3 : lo ≤ w3.heap.size := Nat.le_trans hz2 hb3'.size
      obtain ⟨i0, z0, hi0, hs3⟩ := hc3
      have hs3' := hs3.third
      have hpre := hs3'.pre (k := x) (by rw [← hcap.1]; exact hxk)
      obtain ⟨pa, pc, w4, hr4, hs4, hb4⟩ := Sep.pushInt (P := Try.prog) 33 33 Try.underlying33 infoI hpre hz3 (k : Int) (by rw [List.length_take, ← hcap.1]; omega) 3
      have hz4 : lo ≤ w4.heap.size := Nat.le_trans hz3 hb4.size
      have hrest : Ints w4 v3 ((nats ps).drop x) := by
        obtain ⟨G, hG, -⟩ := hs4.get (r := Res.ints 3 v3 ((nats ps).drop x)) (by simp)
        have hG' : OInts 3 w4 v3 ((nats ps).drop x) G := hG
        exact hG'.reads
      obtain ⟨v5, w5, hr5, hs5, hb5⟩ := Sep.pushVals (P := Try.prog) 33 33 Try.underlying33 infoI hs4 hz4 hrest (by simp only [List.length_append, List.length_take, List.length_drop, List.length_singleton, ← hcap.1]; omega)
      rw [← nats_put] at hs5
      have hlen : (ps.take x ++ [k] ++ ps.drop x).length = k + 1 := by
        have := HP.out.1
        simp only [List.length_append, List.length_take, List.length_drop, List.length_singleton]
        omega
      obtain ⟨a5, c5, rfl, -, hx5⟩ := hs5.intsAt
      obtain ⟨b5, rfl, -⟩ := hx5 (by unfold nats; rw [List.length_map, hlen]; omega)
      have e5 : (nats (ps.take x ++ [k] ++ ps.drop x)).length = k + 1 := by unfold nats; rw [List.length_map, hlen]
      have e4 : ((nats ps).take x ++ [(k : Int)]).length = x + 1 := by rw [List.length_append, List.length_take, ← hcap.1]; simp; omega
      rw [e4] at hr4 hr5
      rw [e5] at hr5 hs5
      have HC5 := Lib.hid (show Cur lo w5 cb K xs.length (Res.ints 3 (.slice (some ⟨b5, 0, none⟩) (k + 1) c5) (nats (ps.take x ++ [k] ++ ps.drop x)) :: ((Res.ints 3 v3 ((nats ps).drop x) :: ss) ++ rs)) from ⟨i0, z0, hi0, hs5.swap⟩)
      have HB5 := Lib.hid (HB2.out.trans ((hb3'.mono hz2).trans (hb4.trans hb5)))
      have HP5 := Lib.hid (show (ps.take x ++ [k] ++ ps.drop x).length = k + 1 ∧ ∀ p, p ∈ ps.take x ++ [k] ++ ps.drop x → p < k + 1 from ⟨hlen, fun p hp => by
        have hP := HP.out.2
        rcases List.mem_append.1 hp with hp | hp
        · rcases List.mem_append.1 hp with hp | hp
          · have := hP p (List.mem_of_mem_take hp); omega
          · simp at hp; omega
        · have := hP p (List.mem_of_mem_drop hp); omega⟩)
      have Hr3 := Lib.hid hr3
      have Hr4 := Lib.hid hr4
      have Hr5 := Lib.hid hr5
      obtain ⟨a3, n3, c3, rfl⟩ := hn3.slice
      clear hr3 hn3 hb3 hb3' hs3 hs3' hpre hr4 hs4 hb4 hrest hr5 hs5 hb5 hdr hin hc hb HD e4 e5 hlen hcap hi0 HC HB hz3 hz4 HP hx hx5
      by_cases hxc : x < c
      · rw [if_pos hxc] at had
        cases had
        have hne : ¬ c = x := by omega
        go_wp2_with (first
          | (at_builtin; refine wpl_append_run rfl (.tmp 20) (.tmp 23) 33 rfl rfl rfl Hr3.out ?_)
          | (at_builtin; refine wpl_append_run rfl (.tmp 27) (.tmp 29) 33 rfl rfl rfl Hr4.out ?_)
          | (at_builtin; refine wpl_append_run rfl (.tmp 30) (.tmp 31) 33 rfl rfl rfl Hr5.out ?_))
        go_roundg g
        case measure => omega
        case rel => exact ⟨k + 1, b5, c5, _, _, rfl, by go_num, by omega, HP5, HC5, HB5⟩
      · rw [if_neg hxc] at had
        cases had
        have hne : c = x := by omega
        have hkx : k = x := by omega
        subst hne
        subst hkx
        rw [Nat.sub_self] at Hr3
        go_wp2_with (first
          | (at_builtin; refine wpl_append_run rfl (.tmp 20) (.tmp 23) 33 rfl rfl rfl Hr3.out ?_)
          | (at_builtin; refine wpl_append_run rfl (.tmp 27) (.tmp 29) 33 rfl rfl rfl Hr4.out ?_)
          | (at_builtin; refine wpl_append_run rfl (.tmp 30) (.tmp 31) 33 rfl rfl rfl Hr5.out ?_))
        go_roundg g
        case measure => omega
        case rel => exact ⟨_, b5, c5, _, _, rfl, by go_num, by omega, HP5, HC5, HB5⟩
    · have hki : ¬ ((k : Int) < (n : Int)) := by omega
      obtain rfl : k = n := by omega
      go_wp2
      go_ret
      exact ⟨_, rfl, ⟨ps, ss, HP.out, HC.out, HB.out⟩⟩
set_option maxHeartbeats 4000000 in
set_option maxRecDepth 100000 in
theorem DrawRenameGraph_c {w : World} {vc : Value} {xs : List Int} (h : BytR w vc xs) :
    Calls Try.prog 17 #[vc] w fun e w' => ∃ v vn : Value, e = .returned (.tuple #[v, vn]) ∧ ∃ (m : List (List Int)) (ns : List Int), Bent9 m ∧ Tab w' v m ∧ Ints w' vn ns ∧ Below w.heap.size w w' := by
  have HN := Lib.hid (l1New_c h)
  have HK := Lib.hid (fun w' (hb : Below w.heap.size w w') => BytR.frame _ _ _ _ h hb)
  obtain ⟨a, c, rfl, -⟩ := h.cellsB
  clear h
  go_enter Try.func17, Try.ntmps17
  go_wp2_with fail
  (with_reducible refine HN.out.mono ?_)
  rintro e w1 ⟨rfl, ⟨hh, hs⟩, hb⟩
  have HB := Lib.hid hb
  have HL := Lib.hid (l4Bent_c (cb := w.heap.size) (lo := w.heap.size) (rs := []) (K := .slice a xs.length c) (xs := xs) (w := w1) (fun w' hb' => HK.out w' (hb.trans hb')) ⟨0, hh, Nat.zero_le _, hs⟩ hb.size)
  clear hs hb HN
  go_wp2_with fail
  (with_reducible refine HL.out.mono ?_)
  rintro e w2 ⟨v0, rfl, m, h9, hc, hb⟩
  have HB2 := Lib.hid (HB.out.trans hb)
  have hz2 : w.heap.size ≤ w2.heap.size := HB2.out.size
  have H9 := Lib.hid h9
  have h5 := h9.1.2.1
  have HS := Lib.hid (l18Order_c (n := m.length) (fun w' hb' => HK.out w' (HB2.out.trans hb')) hc hz2 (by omega))
  obtain ⟨a0, c0, rfl, -⟩ := (hc.out.headNew).tab.shape
  generalize hn : m.length = n at HS hc h5 ⊢
  clear hb HB HL hc h9 hn
  go_wp2_with fail
  (with_reducible refine HS.out.mono ?_)
  rintro e w3 ⟨vn, rfl, ps, ss, -, hc, hb⟩
  have HB3 := Lib.hid (HB2.out.trans hb)
  have hz3 : w.heap.size ≤ w3.heap.size := HB3.out.size
  have HO := Lib.hid (l1Once_i (z := 12) (fun w' hb' => HK.out w' (HB3.out.trans hb')) hc hz3 (by omega) (by omega))
  obtain ⟨na, nc, rfl, -⟩ := (hc.intsOf (List.mem_cons_self)).shape
  obtain ⟨ns, hns⟩ : ∃ ns, ns = nats ps := ⟨_, rfl⟩
  rw [← hns] at HO ⊢
  clear hc hb HS HB2 hz2 hns
  generalize hl : ns.length = nl at HO ⊢
  have Hl := Lib.hid hl
  clear hl
  go_wp2_with fail
  (with_reducible refine HO.out.mono ?_)
  rintro e w4 ⟨b, rfl, hc, hb, -⟩
  have HB4 := Lib.hid (HB3.out.trans hb)
  have hz4 : w.heap.size ≤ w4.heap.size := HB4.out.size
  have HC4 := Lib.hid hc
  clear hc hb HO HB3 hz3
  cases b with
  | false =>
    have HT := Lib.hid (HC4.out.tabOf (v := .slice a0 n c0) (m := m) (by simp))
    have HI := Lib.hid (HC4.out.intsOf (List.mem_cons_self))
    go_wp2
    go_ret2
    exact ⟨_, _, rfl, m, ns, H9.out, HT.out, HI.out, HB4.out⟩
  | true =>
    by_cases hnl : 0 < nl
    · have hnli : (0 : Int) < (nl : Int) := by omega
      have HD := Lib.hid (l1Below_i (z := 7) (fun w' hb' => HK.out w' (HB4.out.trans hb')) HC4.out hz4 (by omega) (by omega))
      go_wp2_with fail
      (with_reducible refine HD.out.mono ?_)
      rintro e w5 ⟨x, rfl, hx, hc, hb, -⟩
      have HB5 := Lib.hid (HB4.out.trans hb)
      obtain ⟨i0, z0, hi0, hs⟩ := hc
      obtain ⟨y0, hy0, -⟩ := at_lt (xs := ns) (k := 0) (by rw [Hl.out]; exact hnl)
      obtain ⟨nb, nc', hv, hlb, hbs, gx, gf, hst⟩ := hs.swap.intSet hy0
      rw [Hl.out] at hv
      simp only [Value.slice.injEq] at hv
      obtain ⟨rfl, -, rfl⟩ := hv
      have hS6 : ∀ y : Int, Cur w.heap.size (w5.setCell ⟨nb, 0, none⟩ (.int .i64 y)) w.heap.size (.slice a xs.length c) xs.length (Res.ints 3 (.slice (some ⟨nb, 0, none⟩) nl nc) (ns.set 0 y) :: (ss ++ [ResM (.slice a0 n c0) m])) := fun y => ⟨i0, z0, hi0, (hst y).swap⟩
      have HT := Lib.hid (fun y => (hS6 y).tabOf (v := .slice a0 n c0) (m := m) (by simp))
      have HI := Lib.hid (fun y => (hS6 y).intsOf (List.mem_cons_self))
      clear hb HD HB4 hs hst hy0 HC4 hS6 hi0
      go_wp2
      go_ret2
      exact ⟨_, _, rfl, m, _, H9.out, HT.out _, HI.out _, HB5.out.setCell (p := ⟨nb, 0, none⟩) hlb _⟩
    · have hnli : ¬ ((nl : Int) > 0) := by omega
      have HT := Lib.hid (HC4.out.tabOf (v := .slice a0 n c0) (m := m) (by simp))
      have HI := Lib.hid (HC4.out.intsOf (List.mem_cons_self))
      go_wp2
      go_ret2
      exact ⟨_, _, rfl, m, ns, H9.out, HT.out, HI.out, HB4.out⟩
set_option maxHeartbeats 4000000 in
set_option maxRecDepth 100000 in
theorem l18Two_c {w : World} {vc : Value} {xs : List Int} (h : BytR w vc xs) :
    Calls Try.prog 87 #[vc] w fun e w' => ∃ v vb : Value, e = .returned (.tuple #[v, vb]) ∧ ∃ m b : List (List Int), Bent9 m ∧ Tab w' v m ∧ Tab w' vb b ∧ Below w.heap.size w w' := by
  have HN := Lib.hid (l1New_c h)
  have HK := Lib.hid (fun w' (hb : Below w.heap.size w w') => BytR.frame _ _ _ _ h hb)
  obtain ⟨a, c, rfl, -⟩ := h.cellsB
  clear h
  go_enter Try.func87, Try.ntmps87
  go_wp2_with fail
  (with_reducible refine HN.out.mono ?_)
  rintro e w1 ⟨rfl, ⟨hh, hs⟩, hb⟩
  have HB := Lib.hid hb
  have HL := Lib.hid (l4Bent_c (cb := w.heap.size) (lo := w.heap.size) (rs := []) (K := .slice a xs.length c) (xs := xs) (w := w1) (fun w' hb' => HK.out w' (hb.trans hb')) ⟨0, hh, Nat.zero_le _, hs⟩ hb.size)
  clear hs hb HN
  go_wp2_with fail
  (with_reducible refine HL.out.mono ?_)
  rintro e w2 ⟨v0, rfl, m, h9, hc, hb⟩
  have HB2 := Lib.hid (HB.out.trans hb)
  have hz2 : w.heap.size ≤ w2.heap.size := HB2.out.size
  have H9 := Lib.hid h9
  have HS := Lib.hid (l18Split_c (fun w' hb' => HK.out w' (HB2.out.trans hb')) hc hz2 (v := v0) (m := m) (by simp))
  obtain ⟨a0, c0, rfl, -⟩ := (hc.out.headNew).tab.shape
  generalize hn : m.length = n at HS ⊢
  clear hb HB HL hc h9 hn
  go_wp2_with fail
  (with_reducible refine HS.out.mono ?_)
  rintro e w3 ⟨vb, rfl, b, ss, hm, hc, hb⟩
  replace hm : ResM vb b ∈ _ := hm
  have HB3 := Lib.hid (HB2.out.trans hb)
  have HIs := Lib.hid (spec_IsMatrix_c (hc.tabOf hm))
  obtain ⟨ba, bc, rfl, -⟩ := (hc.tabOf hm).shape
  have HC3 := Lib.hid hc
  have HM := Lib.hid hm
  clear hc hb hm HS HB2 hz2
  have Hlast := Lib.hid (fun (wE : World) (hcE : Cur w.heap.size wE w.heap.size (.slice a xs.length c) xs.length (ss ++ [ResM (.slice a0 n c0) m])) (hbE : Below w.heap.size w wE) => l4Bent_c (fun w' hb => HK.out w' (hbE.trans hb)) hcE hbE.size)
  cases him : isMat b with
  | false =>
    rw [him] at HIs
    clear him HM
    generalize b.length = bn at *
    go_wp2_with fail
    (with_reducible refine HIs.out.mono ?_)
    rintro e w9 ⟨rfl, hw9⟩
    rw [← hw9]
    clear hw9 w9
    go_wp2_with fail
    (with_reducible refine (Hlast.out _ HC3.out HB3.out).mono ?_)
    rintro e w4 ⟨v4, rfl, m4, -, hc, hb⟩
    have HB4 := Lib.hid (HB3.out.trans hb)
    have HT := Lib.hid (hc.tabOf (v := .slice a0 n c0) (m := m) (by simp))
    have HT4 := Lib.hid (hc.tabOf (v := v4) (m := m4) (by simp))
    clear hc hb HC3 HB3 Hlast
    go_wp2
    go_ret2
    exact ⟨_, _, rfl, m, m4, H9.out, HT.out, HT4.out, HB4.out⟩
  | true =>
    rw [him] at HIs
    have hsq := isMat_sq him
    have hz3 : w.heap.size ≤ w3.heap.size := HB3.out.size
    have HO := Lib.hid (l1Once_i (z := 4) (fun w' hb' => HK.out w' (HB3.out.trans hb')) HC3.out hz3 (by omega) (by omega))
    have Hsq := Lib.hid hsq
    clear him hsq
    generalize hbn : b.length = bn at HIs HM ⊢
    have Hbn := Lib.hid hbn
    clear hbn
    go_wp2_with fail
    (with_reducible refine HIs.out.mono ?_)
    rintro e w9 ⟨rfl, hw9⟩
    rw [← hw9]
    clear hw9 w9
    go_wp2_with fail
    (with_reducible refine HO.out.mono ?_)
    rintro e w4 ⟨q, rfl, hc, hb, -⟩
    have HB4 := Lib.hid (HB3.out.trans hb)
    have HC4 := Lib.hid hc
    clear hc hb HC3 HB3 HO hz3
    cases q with
    | true =>
      go_wp2_with fail
      (with_reducible refine (Hlast.out _ HC4.out HB4.out).mono ?_)
      rintro e w5 ⟨v4, rfl, m4, -, hc, hb⟩
      have HB5 := Lib.hid (HB4.out.trans hb)
      have HT := Lib.hid (hc.tabOf (v := .slice a0 n c0) (m := m) (by simp))
      have HT4 := Lib.hid (hc.tabOf (v := v4) (m := m4) (by simp))
      clear hc hb HC4 HB4 Hlast
      go_wp2
      go_ret2
      exact ⟨_, _, rfl, m, m4, H9.out, HT.out, HT4.out, HB5.out⟩
    | false =>
      have hz4 : w.heap.size ≤ w4.heap.size := HB4.out.size
      have HOr := Lib.hid (l18Order_c (n := bn) (fun w' hb' => HK.out w' (HB4.out.trans hb')) HC4.out hz4 (by have := Hsq.out.2.2; rw [Hbn.out] at this; exact this))
      go_wp2_with fail
      (with_reducible refine HOr.out.mono ?_)
      rintro e w5 ⟨vp, rfl, ps, s2, hps, hc, hb⟩
      have HB5 := Lib.hid (HB4.out.trans hb)
      have hz5 : w.heap.size ≤ w5.heap.size := HB5.out.size
      have HR := Lib.hid (l18Rename_c (n := bn) (hc.tabOf (List.mem_cons_of_mem _ (List.mem_append_right _ HM.out))) (by have := Hsq.out.1; rw [Hbn.out] at this; exact this) (hc.intsOf (List.mem_cons_self)) hps.1 (fun i hi => by
        have e : ps.getD i 0 = ps[i]'(by omega) := by simp [List.getD, show i < ps.length by omega]
        rw [e]
        exact hps.2 _ (List.getElem_mem _)) (by have := Hsq.out.2.1; rw [Hbn.out] at this; omega) (by have := Hsq.out.2.2; rw [Hbn.out] at this; exact this))
      have HC5 := Lib.hid hc
      obtain ⟨pa, pc, rfl, -⟩ := (hc.intsOf (List.mem_cons_self)).shape
      clear hc hb hps HC4 HB4 HOr hz4
      go_wp2_with fail
      (with_reducible refine HR.out.mono ?_)
      rintro e w6 ⟨v6, rfl, hn6, hb6⟩
      have HC6 := Lib.hid (HC5.out.new (OTab.kept 3 33).held hb6 hz5 hn6)
      have HT := Lib.hid (HC6.out.tabOf (v := .slice a0 n c0) (m := m) (by simp))
      have HT6 := Lib.hid hn6.tab
      have HB6 := Lib.hid (HB5.out.trans (hb6.mono hz5))
      clear hn6 hb6 HR HC5 HC6 HB5
      go_wp2
      go_ret2
      exact ⟨_, _, rfl, m, _, H9.out, HT.out, HT6.out, HB6.out⟩
set_option maxHeartbeats 1000000 in
theorem DrawAreOneSided_c {w : World} {vc : Value} {xs : List Int} (h : BytR w vc xs) :
    Calls Try.prog 16 #[vc] w fun e w' => ∃ v vb : Value, e = .returned (.tuple #[v, vb]) ∧ ∃ m b : List (List Int), Bent9 m ∧ Tab w' v m ∧ Tab w' vb b ∧ Below w.heap.size w w' := by
  have HN := Lib.hid (l18Two_c h)
  obtain ⟨a, c, rfl, -⟩ := h.cellsB
  clear h
  go_enter Try.func16, Try.ntmps16
  go_wp2_with fail
  (with_reducible refine HN.out.mono ?_)
  rintro e w1 ⟨v, vb, rfl, m, b, h9, ht, htb, hb⟩
  have H9 := Lib.hid h9
  have HT := Lib.hid ht
  have HTb := Lib.hid htb
  have HB := Lib.hid hb
  clear h9 ht htb hb HN
  go_wp2
  go_ret2
  exact ⟨v, vb, rfl, m, b, H9.out, HT.out, HTb.out, HB.out⟩
set_option maxHeartbeats 1000000 in
theorem DrawSameAwayFromZero_c {w : World} {vc : Value} {xs : List Int} (h : BytR w vc xs) :
    Calls Try.prog 39 #[vc] w fun e w' => ∃ v vb : Value, e = .returned (.tuple #[v, vb]) ∧ ∃ m b : List (List Int), Bent9 m ∧ Tab w' v m ∧ Tab w' vb b ∧ Below w.heap.size w w' := by
  have HN := Lib.hid (l18Two_c h)
  obtain ⟨a, c, rfl, -⟩ := h.cellsB
  clear h
  go_enter Try.func39, Try.ntmps39
  go_wp2_with fail
  (with_reducible refine HN.out.mono ?_)
  rintro e w1 ⟨v, vb, rfl, m, b, h9, ht, htb, hb⟩
  have H9 := Lib.hid h9
  have HT := Lib.hid ht
  have HTb := Lib.hid htb
  have HB := Lib.hid hb
  clear h9 ht htb hb HN
  go_wp2
  go_ret2
  exact ⟨v, vb, rfl, m, b, H9.out, HT.out, HTb.out, HB.out⟩
/-- The trace, at any table. -/
theorem TraceOf_t {w : World} {va : Value} {m : List (List Int)} (h1 : Tab w va m) :
    Calls Try.prog 30 #[va] w fun e w' => e = .returned (.int .i64 (trV m)) ∧ w = w' := by
  cases hm : isMat m with
  | true =>
    have e : trV m = trF m m.length := by
      unfold trV
      rw [if_pos hm]
      have key : ∀ k, sumN k (fun k => ent m k k) = trF m k := by
        intro k
        induction k with
        | zero => rfl
        | succ k ih => rw [sumN, ih]; rfl
      exact key _
    rw [e]
    exact TraceOf_c h1 hm
  | false =>
    have e : trV m = -1 := by unfold trV; rw [hm]; rfl
    have HIs := Lib.hid (spec_IsMatrix_c h1)
    rw [hm] at HIs
    rw [e]
    obtain ⟨a, c, rfl, -⟩ := h1.shape
    clear h1 e hm
    go_enter Try.func30, Try.ntmps30
    go_wp2_with fail
    (with_reducible refine HIs.out.mono ?_)
    rintro e w9 ⟨rfl, hw9⟩
    rw [← hw9]
    clear hw9 w9
    go_wp2
    go_ret
    exact ⟨rfl, rfl⟩
end Go.Proofs.Ytlkgkfgpnnahdaa
end

section
/-
  LagOfChain, the program's.
-/
namespace Go.Proofs.Ytlkgkfgpnnahdaa
open Go.RowKit Go.Deep Go.Sd

set_option maxHeartbeats 4000000 in
set_option maxRecDepth 10000 in
theorem impl_LagOfChain_c {w : World} {v1 v2 : Value} {ts : List Tb} {xs : List (Tb × Tb)} (h1 : Tabs w v1 ts) (h2 : StpsR w v2 xs) :
    Calls Try.prog 37 #[v1, v2] w (Makes2 (OStep 3 33) w (found (lagC ts xs)) (lagC ts xs).isSome) := by
  have HV := Lib.hid (show lagC ts xs = if chainM ts xs = true ∧ 1 ≤ xs.length ∧ xs.length ≤ 5 then lagFold (xs.drop 1) (xs.getD 0 ([], [])) else none from rfl)
  have HC := Lib.hid (fun w1 (hb : Below w.heap.size w w1) => impl_IsChain_c (Tabs.frame _ _ _ _ h1 hb) (StpsR.frame _ _ _ _ h2 hb))
  have HS := Lib.hid (fun (hc : chainM ts xs = true) k x (hx : xs[k]? = some x) => chainM_sm hc hx)
  have H2 := Lib.hid h2
  generalize lagC ts xs = V at HV ⊢
  generalize chainM ts xs = ch at *
  obtain ⟨ta, tc, rfl, _, _, _⟩ := h1.shape
  obtain ⟨hlx, a, c, rfl, hlc, hcb, _, hcell⟩ := h2
  clear h1
  obtain ⟨n, hn⟩ : ∃ n, n = xs.length := ⟨_, rfl⟩
  rw [← hn] at HV hcell hlx hlc HC H2 ⊢
  have Hn := Lib.hid hn
  clear hn H2
  go_enter Try.func37, Try.ntmps37
  go_wp2_with fail
  have fz0 : (w.alloc (.cells #[.slice none 0 0, .slice none 0 0] 41)).frozen? ⟨w.heap.size, 0, none⟩ = false := by simp [go_sem]
  have fz1 : (w.alloc (.cells #[.slice none 0 0, .slice none 0 0] 41)).frozen? ⟨w.heap.size, 1, none⟩ = false := by simp [go_sem]
  obtain ⟨w0, ex, A0, c0, c1, m1⟩ := boxA_ex w 41 (.slice none 0 0) (.slice none 0 0)
  rw [ex] at fz0 fz1
  change Calls Try.prog _ _ (w.alloc (.cells #[.slice none 0 0, .slice none 0 0] 41)) _
  rw [ex]
  clear ex
  refine (HC.out _ A0).mono ?_
  rintro e w1 ⟨rfl, hb1⟩
  replace c0 := (hb1.cell (p := ⟨w.heap.size, 0, none⟩) m1).trans c0
  replace c1 := (hb1.cell (p := ⟨w.heap.size, 1, none⟩) m1).trans c1
  replace fz0 := (hb1.frozen (p := ⟨w.heap.size, 0, none⟩) m1).trans fz0
  replace fz1 := (hb1.frozen (p := ⟨w.heap.size, 1, none⟩) m1).trans fz1
  have A1 := Lib.hid (A0.trans (hb1.mono A0.size))
  have hz1 := hb1.size
  replace m1 := Nat.lt_of_lt_of_le m1 hz1
  clear hb1 A0 HC
  cases ch with
  | false =>
    have HK := Lib.hid (show V = none from by rw [HV.out, if_neg (by simp)])
    clear HV HS hcell
    go_wp2
    have r0 := World.cell?_setCell_same w1 _ (.slice none 0 0) c0
    have s1 : ((w1.setCell ⟨w.heap.size, 0, none⟩ (.slice none 0 0)).cell? ⟨w.heap.size, 1, none⟩) = some (.slice none 0 0) := (World.cell?_setCell_other _ _ _ _ (by simp)).trans c1
    have r1 := World.cell?_setCell_same _ _ (.slice none 0 0) s1
    refine bodyPost_ret (v := .tuple #[.agg #[.slice none 0 0, .slice none 0 0], .bool false]) (by simp [results, Try.results37, go_sem, r0, r1]) rfl ?_
    exact ⟨_, by rw [HK.out]; rfl, by rw [HK.out]; exact New.none2 (by simp; have := (A1.out).size; omega), ((A1.out).setCell (p := ⟨w.heap.size, 0, none⟩) (Nat.le_refl _) _).setCell (p := ⟨w.heap.size, 1, none⟩) (Nat.le_refl _) _⟩
  | true =>
  by_cases hn1 : n < 1
  · have HK := Lib.hid (show V = none from by rw [HV.out, if_neg (by omega)])
    clear HV HS hcell
    go_wp2
    have r0 := World.cell?_setCell_same w1 _ (.slice none 0 0) c0
    have s1 : ((w1.setCell ⟨w.heap.size, 0, none⟩ (.slice none 0 0)).cell? ⟨w.heap.size, 1, none⟩) = some (.slice none 0 0) := (World.cell?_setCell_other _ _ _ _ (by simp)).trans c1
    have r1 := World.cell?_setCell_same _ _ (.slice none 0 0) s1
    refine bodyPost_ret (v := .tuple #[.agg #[.slice none 0 0, .slice none 0 0], .bool false]) (by simp [results, Try.results37, go_sem, r0, r1]) rfl ?_
    exact ⟨_, by rw [HK.out]; rfl, by rw [HK.out]; exact New.none2 (by simp; have := (A1.out).size; omega), ((A1.out).setCell (p := ⟨w.heap.size, 0, none⟩) (Nat.le_refl _) _).setCell (p := ⟨w.heap.size, 1, none⟩) (Nat.le_refl _) _⟩
  by_cases hn5 : 5 < n
  · have HK := Lib.hid (show V = none from by rw [HV.out, if_neg (by omega)])
    clear HV HS hcell
    go_wp2
    have r0 := World.cell?_setCell_same w1 _ (.slice none 0 0) c0
    have s1 : ((w1.setCell ⟨w.heap.size, 0, none⟩ (.slice none 0 0)).cell? ⟨w.heap.size, 1, none⟩) = some (.slice none 0 0) := (World.cell?_setCell_other _ _ _ _ (by simp)).trans c1
    have r1 := World.cell?_setCell_same _ _ (.slice none 0 0) s1
    refine bodyPost_ret (v := .tuple #[.agg #[.slice none 0 0, .slice none 0 0], .bool false]) (by simp [results, Try.results37, go_sem, r0, r1]) rfl ?_
    exact ⟨_, by rw [HK.out]; rfl, by rw [HK.out]; exact New.none2 (by simp; have := (A1.out).size; omega), ((A1.out).setCell (p := ⟨w.heap.size, 0, none⟩) (Nat.le_refl _) _).setCell (p := ⟨w.heap.size, 1, none⟩) (Nat.le_refl _) _⟩
  obtain ⟨b, o, rfl, hb, hx0⟩ := hcell (by omega)
  clear hcell
  obtain ⟨x0, hx0e, _⟩ := at_lt (xs := xs) (k := 0) (by have := Hn.out; omega)
  have HVV := Lib.hid (show V = lagFold (xs.drop 1) x0 from by rw [HV.out, if_pos ⟨rfl, by omega, by omega⟩]; simp [List.getD, hx0e])
  clear HV
  obtain ⟨y1, y2, f0, f1, s1, s2⟩ := hx0 0 x0 hx0e
  have hsm := (HS.out rfl 0 x0 hx0e).sz
  clear hx0e
  rw [Nat.zero_mul, Nat.add_zero] at f0 f1
  have Hx0 := Lib.hid hx0
  clear hx0
  have C1 := Lib.hid (fun wz (hz : Below w.heap.size w wz) => copied_c (Tab.frame _ _ _ _ s1 hz) hsm.1.1 hsm.1.2)
  have C2 := Lib.hid (fun wz (hz : Below w.heap.size w wz) => copied_c (Tab.frame _ _ _ _ s2 hz) hsm.2.1 hsm.2.2)
  obtain ⟨q1, qn1, qc1, rfl⟩ : ∃ a n c, y1 = .slice a n c := by obtain ⟨a, c, e, _⟩ := s1.shape; exact ⟨_, _, _, e⟩
  obtain ⟨q2, qn2, qc2, rfl⟩ : ∃ a n c, y2 = .slice a n c := by obtain ⟨a, c, e, _⟩ := s2.shape; exact ⟨_, _, _, e⟩
  have g0 : w1.cell? ⟨b, o, none⟩ = some (.slice q1 qn1 qc1) := (A1.out.cell (p := ⟨b, o, none⟩) hb).trans f0
  have g1 : w1.cell? ⟨b, o + 1, none⟩ = some (.slice q2 qn2 qc2) := (A1.out.cell (p := ⟨b, o + 1, none⟩) hb).trans f1
  have hbw : b < w1.heap.size := Nat.lt_of_lt_of_le hb A1.out.size
  clear f0 f1 s1 s2 hsm
  have hn0' : (0 : Int) < (n : Int) := by omega
  have hn0N : 0 < n := by omega
  have hn1I : ¬ (n : Int) < 1 := by omega
  have hn5I : ¬ (5 : Int) < (n : Int) := by omega
  go_wp2
  have hS0 : w1.cell? ⟨b, o, none⟩ = some (.slice q1 qn1 qc1) ∧ w1.cell? ⟨b, o + 1, none⟩ = some (.slice q2 qn2 qc2) := ⟨g0, g1⟩
  have hSd : w1.drew.cell? ⟨b, o, none⟩ = some (.slice q1 qn1 qc1) ∧ w1.drew.cell? ⟨b, o + 1, none⟩ = some (.slice q2 qn2 qc2) := hS0
  have HSS := Lib.hid (fun (wz : World) (hb3 : Below w1.heap.size w1 wz) => (show wz.cell? ⟨b, o, none⟩ = some (.slice q1 qn1 qc1) ∧ wz.cell? ⟨b, o + 1, none⟩ = some (.slice q2 qn2 qc2) from ⟨(hb3.cell (p := ⟨b, o, none⟩) hbw).trans g0, (hb3.cell (p := ⟨b, o + 1, none⟩) hbw).trans g1⟩))
  have B1 := (Below.refl w1.heap.size w1).drew
  have D1 := Lib.hid (C1.out _ A1.out.drew)
  have D2 := Lib.hid (fun wz (hz : Below w1.heap.size w1 wz) => C2.out wz (A1.out.trans (hz.mono A1.out.size)))
  clear C1 C2 g0 g1
  go_region_held3 (fun w' => w'.cell? ⟨b, o, none⟩ = some (.slice q1 qn1 qc1) ∧ w'.cell? ⟨b, o + 1, none⟩ = some (.slice q2 qn2 qc2))
    (first | with_reducible exact hS2 | with_reducible exact hS1 | with_reducible exact hSd | with_reducible exact hS0 | go_keep)
    ((first
      | (go_at_call 77; (with_reducible refine (D2.out _ B2).mono ?_); rintro e w3 ⟨r3, rfl, hn3, hb3⟩; have B3 := B2.trans (hb3.mono B2.size); have hS2 := HSS.out _ B3)
      | (go_at_call 77; (with_reducible refine D1.out.mono ?_); rintro e w2 ⟨r2, rfl, hn2, hb2⟩; have B2 := B1.trans (hb2.mono B1.size); have hS1 := HSS.out _ B2; have Hn2 := Lib.hid hn2; have hz2 := hb2.size; clear hb2)
      | fail))
  clear hS0 hSd hS1 hS2 HSS D1 D2
  have HP0 := Lib.hid (New.pair (lo := w1.heap.size) Hn2.out hn3 hb3 hz2)
  obtain ⟨ra, rn, rc, rfl⟩ := Hn2.out.slice
  obtain ⟨sa, sn, sc, rfl⟩ := hn3.slice
  replace c0 := (B3.cell (p := ⟨w.heap.size, 0, none⟩) m1).trans c0
  replace c1 := (B3.cell (p := ⟨w.heap.size, 1, none⟩) m1).trans c1
  replace fz0 := (B3.frozen (p := ⟨w.heap.size, 0, none⟩) m1).trans fz0
  replace fz1 := (B3.frozen (p := ⟨w.heap.size, 1, none⟩) m1).trans fz1
  have A3 := Lib.hid (A1.out.trans (B3.mono A1.out.size))
  have HV0 := Lib.hid (show V = lagFold (xs.drop (0 + 1)) (x0.1, x0.2) from HVV.out)
  have M1 := m1
  replace m1 := Nat.lt_of_lt_of_le m1 B3.size
  have hz3 := B3.size
  have Hz := Lib.hid (Below.refl w3.heap.size w3)
  have Hx := Lib.hid (fun i (x : Tb × Tb) (hx : xs[i + 1]? = some x) => (show ∃ v1 v2, w.cell? ⟨b, o + 2 + i * 2, none⟩ = some v1 ∧ w.cell? ⟨b, o + 2 + i * 2 + 1, none⟩ = some v2 ∧ Tab w v1 x.1 ∧ Tab w v2 x.2 from by
    have h := Hx0.out (i + 1) x hx
    rw [show o + (i + 1) * 2 = o + 2 + i * 2 from by omega] at h
    exact h))
  clear hb3 hn3 Hn2 B1 B2 B3 HVV hbw Hx0
  by_cases hc1 : c = 1
  · subst hc1
    obtain rfl : n = 1 := by omega
    go_wp2
    go_loopg [6, 7, 40] 0 (fun g rv sv i wr => rv = .slice ra rn rc ∧ sv = .slice sa sn sc ∧ i = .int .i64 0 ∧ w3 = wr)
    case atStart => exact ⟨rfl, rfl, rfl, rfl⟩
    case round =>
      obtain ⟨rfl, rfl, rfl, rfl⟩ := hrel
      have HN := Lib.hid (show V = some (x0.1, x0.2) from by rw [HV0.out, List.drop_eq_nil_of_le (by have := Hn.out; omega)]; rfl)
      clear HV0 HS
      have hm1 : w.heap.size < w1.heap.size := M1
      go_wp2
      have r0 := World.cell?_setCell_same w3 _ (.slice ra rn rc) c0
      have s1 : ((w3.setCell ⟨w.heap.size, 0, none⟩ (.slice ra rn rc)).cell? ⟨w.heap.size, 1, none⟩) = some (.slice none 0 0) := (World.cell?_setCell_other _ _ _ _ (by simp)).trans c1
      have r1 := World.cell?_setCell_same _ _ (.slice sa sn sc) s1
      refine bodyPost_ret (v := .tuple #[.agg #[.slice ra rn rc, .slice sa sn sc], .bool true]) (by simp [results, Try.results37, go_sem, r0, r1]) rfl ?_
      exact ⟨_, by rw [HN.out]; rfl, by rw [HN.out]; exact (New.setCell_low OStep.held (New.setCell_low OStep.held HP0.out (show w.heap.size < w1.heap.size from hm1) _) (show w.heap.size < w1.heap.size from hm1) _).mono (Nat.le_of_lt hm1), ((A3.out).setCell (p := ⟨w.heap.size, 0, none⟩) (Nat.le_refl _) _).setCell (p := ⟨w.heap.size, 1, none⟩) (Nat.le_refl _) _⟩
  obtain ⟨m, rfl⟩ : ∃ m, n = m + 1 := ⟨n - 1, by omega⟩
  go_wp2
  go_loopg [6, 7, 40] m (fun g rv sv i wr => ∃ (k : Nat) (R S : Tb), i = .int .i64 k ∧ k + g = m ∧ Hid (V = lagFold (xs.drop (k + 1)) (R, S)) ∧ Hid (New (OStep 3 33) w1.heap.size wr (.agg #[rv, sv]) (R, S)) ∧ Hid (Below w3.heap.size w3 wr))
  case atStart => exact ⟨0, x0.1, x0.2, rfl, by omega, HV0, HP0, Hz⟩
  case round =>
    obtain ⟨k, R, S, rfl, hk, HVk, HP, hbel⟩ := hrel
    clear HV0 HP0 Hz
    obtain ⟨wk, rfl⟩ : ∃ x, x = wr := ⟨_, rfl⟩
    have hzk := hbel.out.size
    obtain ⟨ra', rn', rc', sa', sn', sc', e⟩ := HP.out.stp.slices
    simp only [Value.agg.injEq, Array.mk.injEq, List.cons.injEq, and_true] at e
    obtain ⟨rfl, rfl⟩ := e
    replace c0 := (hbel.out.cell (p := ⟨w.heap.size, 0, none⟩) m1).trans c0
    replace c1 := (hbel.out.cell (p := ⟨w.heap.size, 1, none⟩) m1).trans c1
    replace fz0 := (hbel.out.frozen (p := ⟨w.heap.size, 0, none⟩) m1).trans fz0
    replace fz1 := (hbel.out.frozen (p := ⟨w.heap.size, 1, none⟩) m1).trans fz1
    by_cases hlt : k < m
    · obtain ⟨x, hx, hd⟩ := at_lt (xs := xs) (k := k + 1) (by have := Hn.out; omega)
      have HVx := Lib.hid (show V = if ttOk R x.1 = true ∧ ttOk x.2 S = true then lagFold (xs.drop (k + 1 + 1)) (ttV R x.1, ttV x.2 S) else none from by rw [HVk.out, hd]; rfl)
      obtain ⟨y1, y2, f0, f1, s1, s2⟩ := Hx.out k x hx
      clear hx hd HVk
      have Ak := A3.out.trans (hbel.out.mono A3.out.size)
      replace f0 := (Ak.cell (p := ⟨b, o + 2 + k * 2, none⟩) hb).trans f0
      replace f1 := (Ak.cell (p := ⟨b, o + 2 + k * 2 + 1, none⟩) hb).trans f1
      obtain ⟨p1, pn1, pc1, rfl⟩ : ∃ a n c, y1 = .slice a n c := by obtain ⟨a, c, e, _⟩ := s1.shape; exact ⟨_, _, _, e⟩
      obtain ⟨p2, pn2, pc2, rfl⟩ : ∃ a n c, y2 = .slice a n c := by obtain ⟨a, c, e, _⟩ := s2.shape; exact ⟨_, _, _, e⟩
      have T1 := Lib.hid (fun wz (hz : Below wk.heap.size wk wz) => (show Tab wz (.slice p1 pn1 pc1) x.1 from Tab.frame _ _ _ _ s1 (Ak.trans (hz.mono Ak.size))))
      have T2 := Lib.hid (fun wz (hz : Below wk.heap.size wk wz) => (show Tab wz (.slice p2 pn2 pc2) x.2 from Tab.frame _ _ _ _ s2 (Ak.trans (hz.mono Ak.size))))
      obtain ⟨tr1, tr2, e, tR, tS⟩ := HP.out.stp
      simp only [Value.agg.injEq, Array.mk.injEq, List.cons.injEq, and_true] at e
      obtain ⟨rfl, rfl⟩ := e
      have TR := Lib.hid tR
      have TS := Lib.hid tS
      obtain ⟨w4, ex, hb4, d0, d1, n4⟩ := boxA_ex wk 41 (.slice p1 pn1 pc1) (.slice p2 pn2 pc2)
      have H4 := Lib.hid hb4
      have hz4 := hb4.size
      have K1 := Lib.hid (impl_TableTimes_c (Tab.frame _ _ _ _ TR.out hb4) (T1.out _ hb4))
      have K2 := Lib.hid (fun wz (hz : Below wk.heap.size wk wz) => impl_TableTimes_c (T2.out _ hz) (Tab.frame _ _ _ _ TS.out hz))
      have hkm : (k : Int) < (m : Int) := by omega
      have Hbk := Lib.hid Ak
      clear tR tS TR TS T1 T2 s1 s2 hb4 Ak HP
      generalize ttOk R x.1 = k1 at K1 HVx
      generalize ttOk x.2 S = k2 at K2 HVx
      go_wp2_with fail
      refine K1.out.mono ?_
      rintro e w5 ⟨v5, rfl, hn5, hb5⟩
      clear ex
      have H5 := Lib.hid (H4.out.trans (hb5.mono hz4))
      have Hn5 := Lib.hid (hn5.mono (lo' := w1.heap.size) (by omega))
      have hz5 := hb5.size
      replace d1 := (hb5.cell (p := ⟨wk.heap.size, 1, none⟩) n4).trans d1
      obtain ⟨ra2, rn2, rc2, rfl⟩ := hn5.slice
      have K3 := Lib.hid (K2.out _ H5.out)
      clear hn5 hb5 K1 K2 d0
      go_wp2_with fail
      refine K3.out.mono ?_
      rintro e w6 ⟨v6, rfl, hn6, hb6⟩
      have H6 := Lib.hid (H5.out.trans (hb6.mono (by omega)))
      have HP6 := Lib.hid (New.pair Hn5.out hn6 hb6 (by omega))
      have hz6 := hb6.size
      obtain ⟨sa2, sn2, sc2, rfl⟩ := hn6.slice
      clear hn6 hb6 K3 d1 H4 H5 Hn5
      replace c0 := (H6.out.cell (p := ⟨w.heap.size, 0, none⟩) (Nat.lt_of_lt_of_le m1 hzk)).trans c0
      replace c1 := (H6.out.cell (p := ⟨w.heap.size, 1, none⟩) (Nat.lt_of_lt_of_le m1 hzk)).trans c1
      replace fz0 := (H6.out.frozen (p := ⟨w.heap.size, 0, none⟩) (Nat.lt_of_lt_of_le m1 hzk)).trans fz0
      replace fz1 := (H6.out.frozen (p := ⟨w.heap.size, 1, none⟩) (Nat.lt_of_lt_of_le m1 hzk)).trans fz1
      by_cases hk1 : k1 = true ∧ k2 = true
      · obtain ⟨rfl, rfl⟩ := hk1
        have HN := Lib.hid (show V = lagFold (xs.drop (k + 1 + 1)) (ttV R x.1, ttV x.2 S) from by rw [HVx.out, if_pos ⟨rfl, rfl⟩])
        have HR := Lib.hid (hbel.out.trans (H6.out.mono hzk))
        clear HVx hbel H6 Hbk c0 c1 fz0 fz1
        go_wp2
        go_roundg (m - (k + 1))
        case measure => omega
        case rel => exact ⟨k + 1, _, _, by go_num, by omega, HN, HP6, HR⟩
      · have HK := Lib.hid (show V = none from by rw [HVx.out, if_neg hk1])
        have A6 := Lib.hid (Hbk.out.trans (H6.out.mono (by have := Hbk.out.size; omega)))
        clear HVx hbel H6 Hbk HP6
        cases k1
        · clear hk1
          go_wp2
          have r0 := World.cell?_setCell_same w6 _ (.slice none 0 0) c0
          have s1 : ((w6.setCell ⟨w.heap.size, 0, none⟩ (.slice none 0 0)).cell? ⟨w.heap.size, 1, none⟩) = some (.slice none 0 0) := (World.cell?_setCell_other _ _ _ _ (by simp)).trans c1
          have r1 := World.cell?_setCell_same _ _ (.slice none 0 0) s1
          refine bodyPost_ret (v := .tuple #[.agg #[.slice none 0 0, .slice none 0 0], .bool false]) (by simp [results, Try.results37, go_sem, r0, r1]) rfl ?_
          exact ⟨_, by rw [HK.out]; rfl, by rw [HK.out]; exact New.none2 (by simp; have := (A6.out).size; omega), ((A6.out).setCell (p := ⟨w.heap.size, 0, none⟩) (Nat.le_refl _) _).setCell (p := ⟨w.heap.size, 1, none⟩) (Nat.le_refl _) _⟩
        · cases k2
          · clear hk1
            go_wp2
            have r0 := World.cell?_setCell_same w6 _ (.slice none 0 0) c0
            have s1 : ((w6.setCell ⟨w.heap.size, 0, none⟩ (.slice none 0 0)).cell? ⟨w.heap.size, 1, none⟩) = some (.slice none 0 0) := (World.cell?_setCell_other _ _ _ _ (by simp)).trans c1
            have r1 := World.cell?_setCell_same _ _ (.slice none 0 0) s1
            refine bodyPost_ret (v := .tuple #[.agg #[.slice none 0 0, .slice none 0 0], .bool false]) (by simp [results, Try.results37, go_sem, r0, r1]) rfl ?_
            exact ⟨_, by rw [HK.out]; rfl, by rw [HK.out]; exact New.none2 (by simp; have := (A6.out).size; omega), ((A6.out).setCell (p := ⟨w.heap.size, 0, none⟩) (Nat.le_refl _) _).setCell (p := ⟨w.heap.size, 1, none⟩) (Nat.le_refl _) _⟩
          · exact absurd ⟨rfl, rfl⟩ hk1
    · obtain rfl : k = m := by omega
      have HN := Lib.hid (show V = some (R, S) from by rw [HVk.out, List.drop_eq_nil_of_le (by have := Hn.out; omega)]; rfl)
      have Ak := Lib.hid (A3.out.trans (hbel.out.mono A3.out.size))
      clear HVk hbel HS Hx
      have hm1 : w.heap.size < w1.heap.size := M1
      go_wp2
      have r0 := World.cell?_setCell_same wk _ (.slice ra' rn' rc') c0
      have s1 : ((wk.setCell ⟨w.heap.size, 0, none⟩ (.slice ra' rn' rc')).cell? ⟨w.heap.size, 1, none⟩) = some (.slice none 0 0) := (World.cell?_setCell_other _ _ _ _ (by simp)).trans c1
      have r1 := World.cell?_setCell_same _ _ (.slice sa' sn' sc') s1
      refine bodyPost_ret (v := .tuple #[.agg #[.slice ra' rn' rc', .slice sa' sn' sc'], .bool true]) (by simp [results, Try.results37, go_sem, r0, r1]) rfl ?_
      exact ⟨_, by rw [HN.out]; rfl, by rw [HN.out]; exact (New.setCell_low OStep.held (New.setCell_low OStep.held HP.out (show w.heap.size < w1.heap.size from hm1) _) (show w.heap.size < w1.heap.size from hm1) _).mono (Nat.le_of_lt hm1), ((Ak.out).setCell (p := ⟨w.heap.size, 0, none⟩) (Nat.le_refl _) _).setCell (p := ⟨w.heap.size, 1, none⟩) (Nat.le_refl _) _⟩
end Go.Proofs.Ytlkgkfgpnnahdaa
end
