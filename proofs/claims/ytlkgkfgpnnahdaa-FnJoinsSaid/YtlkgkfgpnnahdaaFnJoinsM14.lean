/-
  Texts of this claim joined: laws for its walks, contracts of the functions that the law reaches.
-/
import Derived.Test.YtlkgkfgpnnahdaaFnJoinsM12
import Derived.Test.YtlkgkfgpnnahdaaFnJoinsM13
import Derived.OwnWalk
import Derived.Test.YtlkgkfgpnnahdaaFnJoinsM6
import Derived.Test.YtlkgkfgpnnahdaaRows
import Derived.Test.YtlkgkfgpnnahdaaFnJoinsM1
import Derived.Test.YtlkgkfgpnnahdaaFnJoinsM3
import Derived.Test.YtlkgkfgpnnahdaaFnJoinsM4
import Derived.Test.YtlkgkfgpnnahdaaFnJoinsM2
import Derived.Test.YtlkgkfgpnnahdaaFnJoinsM9
section
/-
  The draws of the joins, the second part.
-/
namespace Go.Proofs.Ytlkgkfgpnnahdaa
open Go.RowKit Go.Deep Go.Sd
set_option linter.unusedSimpArgs false
set_option maxHeartbeats 4000000 in
set_option maxRecDepth 100000 in
theorem l18Case_c {w : World} {vc : Value} {xs : List Int} (h : BytR w vc xs) :
    Calls Try.prog 75 #[vc] w fun e w' => ∃ (v : Value) (i j : Int), e = .returned (.tuple #[v, .int .i64 i, .int .i64 j]) ∧ ∃ m : List (List Int), Tab w' v m ∧ Below w.heap.size w w' := by
  have HN := Lib.hid (l1New_c h)
  have HK := Lib.hid (fun w' (hb : Below w.heap.size w w') => BytR.frame _ _ _ _ h hb)
  obtain ⟨a, c, rfl, -⟩ := h.cellsB
  clear h
  go_enter Try.func75, Try.ntmps75
  go_wp2_with fail
  (with_reducible refine HN.out.mono ?_)
  rintro e w1 ⟨rfl, ⟨hh, hs⟩, hb⟩
  have HB := Lib.hid hb
  have HL := Lib.hid (l4Bent_c (cb := w.heap.size) (lo := w.heap.size) (rs := []) (K := .slice a xs.length c) (xs := xs) (w := w1) (fun w' hb' => HK.out w' (hb.trans hb')) ⟨0, hh, Nat.zero_le _, hs⟩ hb.size)
  clear hs hb HN
  go_wp2_with fail
  (with_reducible refine HL.out.mono ?_)
  rintro e w2 ⟨v0, rfl, m0, -, hc, hb⟩
  have HB2 := Lib.hid (HB.out.trans hb)
  have hz2 : w.heap.size ≤ w2.heap.size := HB2.out.size
  have HS := Lib.hid (l18Split_c (fun w' hb' => HK.out w' (HB2.out.trans hb')) hc hz2 (v := v0) (m := m0) (by simp))
  obtain ⟨a0, c0, rfl, -⟩ := (hc.out.headNew).tab.shape
  clear hc hb HB HL
  generalize m0.length = n0 at HS
  go_wp2_with fail
  (with_reducible refine HS.out.mono ?_)
  rintro e w3 ⟨v, rfl, m, ss, hm, hc, hb⟩
  replace hm : ResM v m ∈ _ := hm
  have HB3 := Lib.hid (HB2.out.trans hb)
  obtain ⟨ma, mc, rfl, hnl, -, hcell⟩ := (hc.tabOf hm).shape
  generalize hrs : ss ++ [ResM (.slice a0 n0 c0) m0] = rs at hc hm
  clear hrs ss hb HS HB2 hz2
  generalize hn' : m.length = n at hc hm hnl ⊢
  have hn := hn'.symm
  clear hn'
  have HC3 := Lib.hid hc
  have HM := Lib.hid hm
  have HNn := Lib.hid hn
  have hnb := (hc.tabOf hm).len
  rw [← hn] at hnb
  clear hc hm hcell hn
  go_wp2
  go_loopg [7] n (fun g iv wr => ∃ i : Nat, iv = .int .i64 i ∧ i + g = n ∧ Hid (Cur w.heap.size wr w.heap.size (.slice a xs.length c) xs.length rs) ∧ Hid (Below w.heap.size w wr))
  case atStart => exact ⟨0, rfl, by omega, HC3, HB3⟩
  case round =>
    clear HC3 HB3
    obtain ⟨i, rfl, hi, HC, HB⟩ := hrel
    obtain ⟨wB, rfl⟩ : ∃ x, x = wr := ⟨_, rfl⟩
    have hz : w.heap.size ≤ wB.heap.size := HB.out.size
    have Hend := Lib.hid (fun (wE : World) (hcE : Cur w.heap.size wE w.heap.size (.slice a xs.length c) xs.length rs) (hbE : Below w.heap.size w wE) => l1Below_i (z := 4) (fun w' hb => HK.out w' (hbE.trans hb)) hcE hbE.size (by omega) (by omega))
    have Hend2 := Lib.hid (fun (wE : World) (hcE : Cur w.heap.size wE w.heap.size (.slice a xs.length c) xs.length rs) (hbE : Below w.heap.size w wE) => l1Below_i (z := 5) (fun w' hb => HK.out w' (hbE.trans hb)) hcE hbE.size (by omega) (by omega))
    by_cases hin : i < n
    · have hii : (i : Int) < (n : Int) := by omega
      obtain ⟨g, rfl⟩ : ∃ x, gk = x + 1 := ⟨gk - 1, by omega⟩
      have HO := Lib.hid (l1Once_i (z := 4) (fun w' hb => HK.out w' (HB.out.trans hb)) HC.out hz (by omega) (by omega))
      go_wp2_with fail
      (with_reducible refine HO.out.mono ?_)
      rintro e w4 ⟨b, rfl, hc, hb, -⟩
      have HC4 := Lib.hid hc
      have HB4 := Lib.hid (HB.out.trans hb)
      clear hc hb HO HC HB hz
      cases b with
      | true =>
        go_wp2_with fail
        (with_reducible refine (Hend.out _ HC4.out HB4.out).mono ?_)
        rintro e w5 ⟨x, rfl, -, hc, hb, -⟩
        have HC5 := Lib.hid hc
        have HB5 := Lib.hid (HB4.out.trans hb)
        clear hc hb HC4 HB4
        go_wp2_with fail
        (with_reducible refine (Hend2.out _ HC5.out HB5.out).mono ?_)
        rintro e w6 ⟨y, rfl, -, hc, hb, -⟩
        have HC6 := Lib.hid hc
        have HB6 := Lib.hid (HB5.out.trans hb)
        clear hc hb HC5 HB5
        go_wp2
        go_ret3
        exact ⟨_, _, _, rfl, m, HC6.out.tabOf HM.out, HB6.out⟩
      | false =>
        go_wp2
        go_loopg [8] n (fun g2 jv wr => ∃ j : Nat, jv = .int .i64 j ∧ j + g2 = i + 1 + n ∧ j ≤ n ∧ Hid (Cur w.heap.size wr w.heap.size (.slice a xs.length c) xs.length rs) ∧ Hid (Below w.heap.size w wr))
        case atStart => exact ⟨i + 1, by go_num, by omega, by omega, HC4, HB4⟩
        case round =>
          clear HC4 HB4
          obtain ⟨j, rfl, hj, hjn', HC, HB⟩ := hrel
          obtain ⟨w5, rfl⟩ : ∃ x, x = wr := ⟨_, rfl⟩
          by_cases hjn : j < n
          · have hji : (j : Int) < (n : Int) := by omega
            obtain ⟨g2, rfl⟩ : ∃ x, gk = x + 1 := ⟨gk - 1, by omega⟩
            obtain ⟨ma', mc', hmv, -, -, hcell⟩ := (HC.out.tabOf HM.out).shape
            simp only [Value.slice.injEq] at hmv
            obtain ⟨rfl, -, rfl⟩ := hmv
            obtain ⟨b', o', rfl, hb', hx0⟩ := hcell (by rw [← HNn.out]; omega)
            obtain ⟨r, hr, -⟩ := at_lt (xs := m) (k := 0) (by rw [← HNn.out]; omega)
            obtain ⟨u, hu, hru⟩ := hx0 0 r hr
            obtain ⟨ra, rc, rfl, -⟩ := hru.shape
            have hrl := hru.len
            have Hr := Lib.hid hr
            obtain ⟨l, hl⟩ : ∃ l, l = r.length := ⟨_, rfl⟩
            rw [← hl] at hu hrl
            rw [Nat.add_zero] at hu
            have Hl := Lib.hid hl
            have hnpos : (0 : Int) < (n : Int) := by omega
            have hnpos' : 0 < n := by omega
            clear hx0 hru hcell hr hl hb'
            by_cases hln : l = n
            · have t1 : ((l : Int) == (n : Int)) = true := by simp [hln]
              have HIs := Lib.hid (spec_IsMatrix_c (HC.out.tabOf HM.out))
              cases him : isMat m with
              | false =>
                rw [him] at HIs
                clear him
                go_wp2_with fail
                (with_reducible refine HIs.out.mono ?_)
                rintro e w9 ⟨rfl, hw9⟩
                rw [← hw9]
                clear hw9 w9
                go_wp2
                go_roundg g2
                case measure => omega
                case rel => exact ⟨j + 1, by go_num, by omega, by omega, HC, HB⟩
              | true =>
                rw [him] at HIs
                have hsq := isMat_sq him
                have HCl := Lib.hid (l18Columns_c (I := i) (J := j) (n := n) (HC.out.tabOf HM.out) (by rw [HNn.out]; exact hsq.1) hin hjn (by rw [HNn.out]; exact hsq.2.2))
                clear him hsq
                go_wp2_with fail
                (with_reducible refine HIs.out.mono ?_)
                rintro e w9 ⟨rfl, hw9⟩
                rw [← hw9]
                clear hw9 w9
                go_wp2_with fail
                (with_reducible refine HCl.out.mono ?_)
                rintro e w6 ⟨rfl, hd⟩
                have HC6 := Lib.hid (HC.out.below (hd.below _))
                have HB6 := Lib.hid (HB.out.trans (hd.below _))
                clear hd HCl HIs
                cases colsEq m i j n with
                | true =>
                  go_wp2
                  go_ret3
                  exact ⟨_, _, _, rfl, m, HC6.out.tabOf HM.out, HB6.out⟩
                | false =>
                  go_wp2
                  go_roundg g2
                  case measure => omega
                  case rel => exact ⟨j + 1, by go_num, by omega, by omega, HC6, HB6⟩
            · have t1 : ((l : Int) == (n : Int)) = false := by simp; omega
              go_wp2
              go_roundg g2
              case measure => omega
              case rel => exact ⟨j + 1, by go_num, by omega, by omega, HC, HB⟩
          · have hji : ¬ ((j : Int) < (n : Int)) := by omega
            go_wp2
            go_roundg g
            case measure => omega
            case rel => exact ⟨i + 1, by go_num, by omega, HC, HB⟩
    · have hii : ¬ ((i : Int) < (n : Int)) := by omega
      go_wp2_with fail
      (with_reducible refine (Hend.out _ HC.out HB.out).mono ?_)
      rintro e w5 ⟨x, rfl, -, hc, hb, -⟩
      have HC5 := Lib.hid hc
      have HB5 := Lib.hid (HB.out.trans hb)
      clear hc hb
      go_wp2_with fail
      (with_reducible refine (Hend2.out _ HC5.out HB5.out).mono ?_)
      rintro e w6 ⟨y, rfl, -, hc, hb, -⟩
      have HC6 := Lib.hid hc
      have HB6 := Lib.hid (HB5.out.trans hb)
      clear hc hb HC5 HB5
      go_wp2
      go_ret3
      exact ⟨_, _, _, rfl, m, HC6.out.tabOf HM.out, HB6.out⟩
set_option maxHeartbeats 1000000 in
theorem DrawJoinAll_c {w : World} {vc : Value} {xs : List Int} (h : BytR w vc xs) :
    Calls Try.prog 8 #[vc] w fun e w' => ∃ v : Value, e = .returned v ∧ ∃ m : List (List Int), Tab w' v m ∧ Below w.heap.size w w' := by
  have HN := Lib.hid (l18Case_c h)
  obtain ⟨a, c, rfl, -⟩ := h.cellsB
  clear h
  go_enter Try.func8, Try.ntmps8
  go_wp2_with fail
  (with_reducible refine HN.out.mono ?_)
  rintro e w1 ⟨v, i, j, rfl, m, ht, hb⟩
  have HT := Lib.hid ht
  have HB := Lib.hid hb
  clear ht hb HN
  go_wp2
  go_ret
  exact ⟨v, rfl, m, HT.out, HB.out⟩
set_option maxHeartbeats 1000000 in
theorem DrawJoinOut_c {w : World} {vc : Value} {xs : List Int} (h : BytR w vc xs) :
    Calls Try.prog 10 #[vc] w fun e w' => ∃ (v : Value) (i j : Int), e = .returned (.tuple #[v, .int .i64 i, .int .i64 j]) ∧ ∃ m : List (List Int), Tab w' v m ∧ Below w.heap.size w w' := by
  have HN := Lib.hid (l18Case_c h)
  obtain ⟨a, c, rfl, -⟩ := h.cellsB
  clear h
  go_enter Try.func10, Try.ntmps10
  go_wp2_with fail
  (with_reducible refine HN.out.mono ?_)
  rintro e w1 ⟨v, i, j, rfl, m, ht, hb⟩
  have HT := Lib.hid ht
  have HB := Lib.hid hb
  clear ht hb HN
  go_wp2
  go_ret3
  exact ⟨v, i, j, rfl, m, HT.out, HB.out⟩
set_option maxHeartbeats 1000000 in
theorem DrawJoinIn_c {w : World} {vc : Value} {xs : List Int} (h : BytR w vc xs) :
    Calls Try.prog 13 #[vc] w fun e w' => ∃ (v : Value) (i j : Int), e = .returned (.tuple #[v, .int .i64 i, .int .i64 j]) ∧ ∃ m : List (List Int), Tab w' v m ∧ Below w.heap.size w w' := by
  have HN := Lib.hid (l18Case_c h)
  obtain ⟨a, c, rfl, -⟩ := h.cellsB
  clear h
  go_enter Try.func13, Try.ntmps13
  go_wp2_with fail
  (with_reducible refine HN.out.mono ?_)
  rintro e w1 ⟨v, i, j, rfl, m, ht, hb⟩
  have HT := Lib.hid ht
  have HB := Lib.hid hb
  have HIs := Lib.hid (spec_IsMatrix_c ht)
  obtain ⟨ma, mc, rfl, -⟩ := ht.shape
  cases him : isMat m with
  | false =>
    rw [him] at HIs
    clear ht hb HN him
    generalize m.length = n at *
    go_wp2_with fail
    (with_reducible refine HIs.out.mono ?_)
    rintro e w9 ⟨rfl, hw9⟩
    rw [← hw9]
    clear hw9 w9
    go_wp2
    go_ret3
    exact ⟨_, i, j, rfl, m, HT.out, HB.out⟩
  | true =>
    rw [him] at HIs
    have hsq := isMat_sq him
    have HTu := Lib.hid (l4Turn_c ht hsq.1 hsq.2.1 hsq.2.2)
    clear ht hb HN him hsq
    obtain ⟨n, hn⟩ : ∃ n, n = m.length := ⟨_, rfl⟩
    rw [← hn] at HTu HIs ⊢
    clear hn HT
    go_wp2_with fail
    (with_reducible refine HIs.out.mono ?_)
    rintro e w9 ⟨rfl, hw9⟩
    rw [← hw9]
    clear hw9 w9
    go_wp2_with fail
    (with_reducible refine HTu.out.mono ?_)
    rintro e w2 ⟨v2, rfl, hn2, hb2⟩
    have HT2 := Lib.hid hn2.tab
    have HB2 := Lib.hid (HB.out.trans (hb2.mono HB.out.size))
    clear hn2 hb2 HTu HIs
    go_wp2
    go_ret3
    exact ⟨v2, i, j, rfl, _, HT2.out, HB2.out⟩
end Go.Proofs.Ytlkgkfgpnnahdaa
end

section
/-
  The draws of the joins, the third part: an order, two matrices that are often alike; the trace.
-/
namespace Go.Sd
open Go.RowKit Go.Deep
/-- The end of a slice of numbers. -/
theorem Ints.drop' {w : World} {b o n c : Nat} {xs : List Int} (h : Ints w (.slice (some ⟨b, o, none⟩) n c) xs) {s : Nat} (hs : s ≤ n) : Ints w (.slice (some ⟨b, o + s, none⟩) (n - s) (c - s)) (xs.drop s) := by
  obtain ⟨vs, ⟨hl, a', c', hv, hnc, hcm, hn, hx⟩, hvl, hvr⟩ := h
  simp only [Value.slice.injEq] at hv
  obtain ⟨rfl, rfl, rfl⟩ := hv
  refine ⟨vs.drop s, ⟨by simp; omega, some ⟨b, o + s, none⟩, c - s, by simp, by simp; omega, by omega, by simp, ?_⟩, by simp; omega, fun i u x hu hx => ?_⟩
  · rcases hx with h0 | ⟨b', o', e, hb, hc⟩
    · left; simp [h0]
    · simp only [Option.some.injEq, Addr.mk.injEq] at e
      obtain ⟨rfl, rfl, -⟩ := e
      refine Or.inr ⟨b, o + s, rfl, hb, fun i u hu => ?_⟩
      rw [List.getElem?_drop] at hu
      rw [Nat.add_assoc]
      exact hc (s + i) u hu
  · rw [List.getElem?_drop] at hu hx
    exact hvr (s + i) u x hu hx
end Go.Sd
namespace Go.Proofs.Ytlkgkfgpnnahdaa
open Go.RowKit Go.Deep Go.Sd
set_option linter.unusedSimpArgs false
theorem nats_put (ps : List Nat) (x k : Nat) : nats (ps.take x ++ [k] ++ ps.drop x) = (nats ps).take x ++ [(k : Int)] ++ (nats ps).drop x := by
  unfold nats
  simp [List.map_take, List.map_drop]
/-- What an order's draw leaves. -/
def OrdP (lo : Nat) (w w' : World) (cb : Nat) (K : Value) (L n : Nat) (rs : List Res) (v : Value) : Prop := ∃ (ps : List Nat) (ss : List Res), (ps.length = n ∧ ∀ p, p ∈ ps → p < n) ∧ Cur lo w' cb K L (Res.ints 3 v (nats ps) :: (ss ++ rs)) ∧ Below lo w w'
set_option maxHeartbeats 4000000 in
set_option maxRecDepth 100000 in
theorem l18Order_c {lo : Nat} {w : World} {cb : Nat} {K : Value} {xs : List Int} {rs : List Res} {n : Nat} (hK : ∀ w', Below lo w w' → BytR w' K xs) (hc : Cur lo w cb K xs.length rs) (hlo : lo ≤ w.heap.size) (hn : n ≤ 9) :
    Calls Try.prog 90 #[.pointer (some ⟨cb, 0, none⟩), .int .i64 n] w fun e w' => ∃ v : Value, e = .returned v ∧ OrdP lo w w' cb K xs.length n rs v := by
  have HK := Lib.hid hK
  have HC0 := Lib.hid (show Cur lo (w.alloc (.cells #[] 3)) cb K xs.length (Res.ints 3 (.slice (some ⟨w.heap.size, 0, none⟩) 0 0) (nats []) :: ([] ++ rs)) from hc.new (OInts.kept 3).held ((Below.refl w.heap.size w).alloc (Nat.le_refl _) (.cells #[] 3)) hlo (New.empty w (Nat.le_refl _)))
  have HB0 := Lib.hid ((Below.refl lo w).alloc hlo (.cells #[] 3))
  have Hlo := Lib.hid hlo
  clear hK hc hlo
  go_enter Try.func90, Try.ntmps90
  go_wp2
  go_loopg [5, 6] n (fun g ov kv wr => ∃ (k b c : Nat) (ps : List Nat) (ss : List Res), ov = .slice (some ⟨b, 0, none⟩) k c ∧ kv = .int .i64 k ∧ k + g = n ∧ Hid (ps.length = k ∧ ∀ p, p ∈ ps → p < k) ∧ Hid (Cur lo wr cb K xs.length (Res.ints 3 (.slice (some ⟨b, 0, none⟩) k c) (nats ps) :: (ss ++ rs))) ∧ Hid (Below lo w wr))
  case atStart => exact ⟨0, _, 0, [], [], rfl, rfl, by omega, Lib.hid ⟨rfl, by simp⟩, HC0, HB0⟩
  case round =>
    clear HC0 HB0
    obtain ⟨k, b, c, ps, ss, rfl, rfl, hk, HP, HC, HB⟩ := hrel
    obtain ⟨w1, rfl⟩ : ∃ x, x = wr := ⟨_, rfl⟩
    have hz : lo ≤ w1.heap.size := Nat.le_trans Hlo.out HB.out.size
    by_cases hkn : k < n
    · have hki : (k : Int) < (n : Int) := by omega
      obtain ⟨g, rfl⟩ : ∃ x, gk = x + 1 := ⟨gk - 1, by omega⟩
      have HD := Lib.hid (l1Below_i (z := (k : Int) + 1) (fun w' hb => HK.out w' (HB.out.trans hb)) HC.out hz (by omega) (by omega))
      go_wp2_with fail
      (with_reducible refine HD.out.mono ?_)
      rintro e w2 ⟨x, rfl, hx, hc, hb, -⟩
      have hxk : x ≤ k := by omega
      have HB2 := Lib.hid (HB.out.trans hb)
      have hz2 : lo ≤ w2.heap.size := Nat.le_trans hz hb.size
      have hxi : (x : Int) ≤ (k : Int) := by omega
      have hin := hc.intsOf (List.mem_cons_self)
      have hcap := Ints.capn hin
      have hkc : k ≤ c := hcap.2.1
      have hcm : c ≤ 9223372036854775807 := hcap.2.2
      have hbs : b < w2.heap.size := by
        obtain ⟨i, z, hi, hs⟩ := hc
        obtain ⟨F, ⟨G, H, rfl, hG, -⟩, -, -⟩ := hs.swap
        have hG' : OInts 3 w2 (.slice (some ⟨b, 0, none⟩) k c) (nats ps) G := hG
        refine (OInts.kept _).lt _ _ _ _ hG' b ?_
        obtain ⟨us, Fs, -, -, -, rfl⟩ := hG'
        exact List.mem_append_left _ (by simp [Value.ownBlock])
      -- what lies behind the place
      have hd : ∃ ad cd, (if x < c then ((⟨b, x, none⟩ : Addr), c - x) else (⟨b, 0, none⟩, 0)) = (ad, cd) ∧ Ints w2 (.slice (some ad) (k - x) cd) ((nats ps).drop x) := by
        by_cases hxc : x < c
        · refine ⟨_, _, by rw [if_pos hxc], ?_⟩
          have h := Ints.drop' hin hxk
          rw [Nat.zero_add] at h
          exact h
        · refine ⟨_, _, by rw [if_neg hxc], ?_⟩
          have h0 : k - x = 0 := by omega
          have h1 : (nats ps).drop x = [] := List.drop_eq_nil_of_le (by rw [← hcap.1]; omega)
          rw [h0, h1]
          exact ⟨[], ⟨by simp, _, 0, rfl, by simp, by simp, by simp, Or.inl rfl⟩, rfl, by simp⟩
      obtain ⟨ad, cd, had, hdr⟩ := hd
      obtain ⟨v3, w3, hr3, hn3, -, hb3⟩ := run_vals (P := Try.prog) (f := Value.int .i64) (fun _ => rfl) 33 33 3 (.int .i64 0) 8 Try.underlying33 infoI rfl (New.empty (R := OValR (Value.int .i64)) (e := 3) (lo := w2.heap.size) w2 (Nat.le_refl _)) (by simp) (Ints.frame _ _ _ _ hdr ((Below.refl _ _).alloc (Nat.le_refl _) _)) (by rw [List.length_drop, ← hcap.1]; simp; omega) (by rw [List.length_drop, ← hcap.1]; simp; omega)
      rw [List.nil_append] at hn3
      have hb3' := ((Below.refl w2.heap.size w2).alloc (Nat.le_refl _) (.cells #[] 3)).trans hb3
      have hc3 := hc.new (OInts.kept 3).held hb3' hz2 hn3
      have hz3 : lo ≤ w3.heap.size := Nat.le_trans hz2 hb3'.size
      obtain ⟨i0, z0, hi0, hs3⟩ := hc3
      have hs3' := hs3.third
      have hpre := hs3'.pre (k := x) (by rw [← hcap.1]; exact hxk)
      obtain ⟨pa, pc, w4, hr4, hs4, hb4⟩ := Sep.pushInt (P := Try.prog) 33 33 Try.underlying33 infoI hpre hz3 (k : Int) (by rw [List.length_take, ← hcap.1]; omega) 3
      have hz4 : lo ≤ w4.heap.size := Nat.le_trans hz3 hb4.size
      have hrest : Ints w4 v3 ((nats ps).drop x) := by
        obtain ⟨G, hG, -⟩ := hs4.get (r := Res.ints 3 v3 ((nats ps).drop x)) (by simp)
        have hG' : OInts 3 w4 v3 ((nats ps).drop x) G := hG
        exact hG'.reads
      obtain ⟨v5, w5, hr5, hs5, hb5⟩ := Sep.pushVals (P := Try.prog) 33 33 Try.underlying33 infoI hs4 hz4 hrest (by simp only [List.length_append, List.length_take, List.length_drop, List.length_singleton, ← hcap.1]; omega)
      rw [← nats_put] at hs5
      have hlen : (ps.take x ++ [k] ++ ps.drop x).length = k + 1 := by
        have := HP.out.1
        simp only [List.length_append, List.length_take, List.length_drop, List.length_singleton]
        omega
      obtain ⟨a5, c5, rfl, -, hx5⟩ := hs5.intsAt
      obtain ⟨b5, rfl, -⟩ := hx5 (by unfold nats; rw [List.length_map, hlen]; omega)
      have e5 : (nats (ps.take x ++ [k] ++ ps.drop x)).length = k + 1 := by unfold nats; rw [List.length_map, hlen]
      have e4 : ((nats ps).take x ++ [(k : Int)]).length = x + 1 := by rw [List.length_append, List.length_take, ← hcap.1]; simp; omega
      rw [e4] at hr4 hr5
      rw [e5] at hr5 hs5
      have HC5 := Lib.hid (show Cur lo w5 cb K xs.length (Res.ints 3 (.slice (some ⟨b5, 0, none⟩) (k + 1) c5) (nats (ps.take x ++ [k] ++ ps.drop x)) :: ((Res.ints 3 v3 ((nats ps).drop x) :: ss) ++ rs)) from ⟨i0, z0, hi0, hs5.swap⟩)
      have HB5 := Lib.hid (HB2.out.trans ((hb3'.mono hz2).trans (hb4.trans hb5)))
      have HP5 := Lib.hid (show (ps.take x ++ [k] ++ ps.drop x).length = k + 1 ∧ ∀ p, p ∈ ps.take x ++ [k] ++ ps.drop x → p < k + 1 from ⟨hlen, fun p hp => by
        have hP := HP.out.2
        rcases List.mem_append.1 hp with hp | hp
        · rcases List.mem_append.1 hp with hp | hp
          · have := hP p (List.mem_of_mem_take hp); omega
          · simp at hp; omega
        · have := hP p (List.mem_of_mem_drop hp); omega⟩)
      have Hr3 := Lib.hid hr3
      have Hr4 := Lib.hid hr4
      have Hr5 := Lib.hid hr5
      obtain ⟨a3, n3, c3, rfl⟩ := hn3.slice
      clear hr3 hn3 hb3 hb3' hs3 hs3' hpre hr4 hs4 hb4 hrest hr5 hs5 hb5 hdr hin hc hb HD e4 e5 hlen hcap hi0 HC HB hz3 hz4 HP hx hx5
      by_cases hxc : x < c
      · rw [if_pos hxc] at had
        cases had
        have hne : ¬ c = x := by omega
        go_wp2_with (first
          | (at_builtin; refine wpl_append_run rfl (.tmp 20) (.tmp 23) 33 rfl rfl rfl Hr3.out ?_)
          | (at_builtin; refine wpl_append_run rfl (.tmp 27) (.tmp 29) 33 rfl rfl rfl Hr4.out ?_)
          | (at_builtin; refine wpl_append_run rfl (.tmp 30) (.tmp 31) 33 rfl rfl rfl Hr5.out ?_))
        go_roundg g
        case measure => omega
        case rel => exact ⟨k + 1, b5, c5, _, _, rfl, by go_num, by omega, HP5, HC5, HB5⟩
      · rw [if_neg hxc] at had
        cases had
        have hne : c = x := by omega
        have hkx : k = x := by omega
        subst hne
        subst hkx
        rw [Nat.sub_self] at Hr3
        go_wp2_with (first
          | (at_builtin; refine wpl_append_run rfl (.tmp 20) (.tmp 23) 33 rfl rfl rfl Hr3.out ?_)
          | (at_builtin; refine wpl_append_run rfl (.tmp 27) (.tmp 29) 33 rfl rfl rfl Hr4.out ?_)
          | (at_builtin; refine wpl_append_run rfl (.tmp 30) (.tmp 31) 33 rfl rfl rfl Hr5.out ?_))
        go_roundg g
        case measure => omega
        case rel => exact ⟨_, b5, c5, _, _, rfl, by go_num, by omega, HP5, HC5, HB5⟩
    · have hki : ¬ ((k : Int) < (n : Int)) := by omega
      obtain rfl : k = n := by omega
      go_wp2
      go_ret
      exact ⟨_, rfl, ⟨ps, ss, HP.out, HC.out, HB.out⟩⟩
set_option maxHeartbeats 4000000 in
set_option maxRecDepth 100000 in
theorem DrawRenameGraph_c {w : World} {vc : Value} {xs : List Int} (h : BytR w vc xs) :
    Calls Try.prog 17 #[vc] w fun e w' => ∃ v vn : Value, e = .returned (.tuple #[v, vn]) ∧ ∃ (m : List (List Int)) (ns : List Int), Bent9 m ∧ Tab w' v m ∧ Ints w' vn ns ∧ Below w.heap.size w w' := by
  have HN := Lib.hid (l1New_c h)
  have HK := Lib.hid (fun w' (hb : Below w.heap.size w w') => BytR.frame _ _ _ _ h hb)
  obtain ⟨a, c, rfl, -⟩ := h.cellsB
  clear h
  go_enter Try.func17, Try.ntmps17
  go_wp2_with fail
  (with_reducible refine HN.out.mono ?_)
  rintro e w1 ⟨rfl, ⟨hh, hs⟩, hb⟩
  have HB := Lib.hid hb
  have HL := Lib.hid (l4Bent_c (cb := w.heap.size) (lo := w.heap.size) (rs := []) (K := .slice a xs.length c) (xs := xs) (w := w1) (fun w' hb' => HK.out w' (hb.trans hb')) ⟨0, hh, Nat.zero_le _, hs⟩ hb.size)
  clear hs hb HN
  go_wp2_with fail
  (with_reducible refine HL.out.mono ?_)
  rintro e w2 ⟨v0, rfl, m, h9, hc, hb⟩
  have HB2 := Lib.hid (HB.out.trans hb)
  have hz2 : w.heap.size ≤ w2.heap.size := HB2.out.size
  have H9 := Lib.hid h9
  have h5 := h9.1.2.1
  have HS := Lib.hid (l18Order_c (n := m.length) (fun w' hb' => HK.out w' (HB2.out.trans hb')) hc hz2 (by omega))
  obtain ⟨a0, c0, rfl, -⟩ := (hc.out.headNew).tab.shape
  generalize hn : m.length = n at HS hc h5 ⊢
  clear hb HB HL hc h9 hn
  go_wp2_with fail
  (with_reducible refine HS.out.mono ?_)
  rintro e w3 ⟨vn, rfl, ps, ss, -, hc, hb⟩
  have HB3 := Lib.hid (HB2.out.trans hb)
  have hz3 : w.heap.size ≤ w3.heap.size := HB3.out.size
  have HO := Lib.hid (l1Once_i (z := 12) (fun w' hb' => HK.out w' (HB3.out.trans hb')) hc hz3 (by omega) (by omega))
  obtain ⟨na, nc, rfl, -⟩ := (hc.intsOf (List.mem_cons_self)).shape
  obtain ⟨ns, hns⟩ : ∃ ns, ns = nats ps := ⟨_, rfl⟩
  rw [← hns] at HO ⊢
  clear hc hb HS HB2 hz2 hns
  generalize hl : ns.length = nl at HO ⊢
  have Hl := Lib.hid hl
  clear hl
  go_wp2_with fail
  (with_reducible refine HO.out.mono ?_)
  rintro e w4 ⟨b, rfl, hc, hb, -⟩
  have HB4 := Lib.hid (HB3.out.trans hb)
  have hz4 : w.heap.size ≤ w4.heap.size := HB4.out.size
  have HC4 := Lib.hid hc
  clear hc hb HO HB3 hz3
  cases b with
  | false =>
    have HT := Lib.hid (HC4.out.tabOf (v := .slice a0 n c0) (m := m) (by simp))
    have HI := Lib.hid (HC4.out.intsOf (List.mem_cons_self))
    go_wp2
    go_ret2
    exact ⟨_, _, rfl, m, ns, H9.out, HT.out, HI.out, HB4.out⟩
  | true =>
    by_cases hnl : 0 < nl
    · have hnli : (0 : Int) < (nl : Int) := by omega
      have HD := Lib.hid (l1Below_i (z := 7) (fun w' hb' => HK.out w' (HB4.out.trans hb')) HC4.out hz4 (by omega) (by omega))
      go_wp2_with fail
      (with_reducible refine HD.out.mono ?_)
      rintro e w5 ⟨x, rfl, hx, hc, hb, -⟩
      have HB5 := Lib.hid (HB4.out.trans hb)
      obtain ⟨i0, z0, hi0, hs⟩ := hc
      obtain ⟨y0, hy0, -⟩ := at_lt (xs := ns) (k := 0) (by rw [Hl.out]; exact hnl)
      obtain ⟨nb, nc', hv, hlb, hbs, gx, gf, hst⟩ := hs.swap.intSet hy0
      rw [Hl.out] at hv
      simp only [Value.slice.injEq] at hv
      obtain ⟨rfl, -, rfl⟩ := hv
      have hS6 : ∀ y : Int, Cur w.heap.size (w5.setCell ⟨nb, 0, none⟩ (.int .i64 y)) w.heap.size (.slice a xs.length c) xs.length (Res.ints 3 (.slice (some ⟨nb, 0, none⟩) nl nc) (ns.set 0 y) :: (ss ++ [ResM (.slice a0 n c0) m])) := fun y => ⟨i0, z0, hi0, (hst y).swap⟩
      have HT := Lib.hid (fun y => (hS6 y).tabOf (v := .slice a0 n c0) (m := m) (by simp))
      have HI := Lib.hid (fun y => (hS6 y).intsOf (List.mem_cons_self))
      clear hb HD HB4 hs hst hy0 HC4 hS6 hi0
      go_wp2
      go_ret2
      exact ⟨_, _, rfl, m, _, H9.out, HT.out _, HI.out _, HB5.out.setCell (p := ⟨nb, 0, none⟩) hlb _⟩
    · have hnli : ¬ ((nl : Int) > 0) := by omega
      have HT := Lib.hid (HC4.out.tabOf (v := .slice a0 n c0) (m := m) (by simp))
      have HI := Lib.hid (HC4.out.intsOf (List.mem_cons_self))
      go_wp2
      go_ret2
      exact ⟨_, _, rfl, m, ns, H9.out, HT.out, HI.out, HB4.out⟩
set_option maxHeartbeats 4000000 in
set_option maxRecDepth 100000 in
theorem l18Two_c {w : World} {vc : Value} {xs : List Int} (h : BytR w vc xs) :
    Calls Try.prog 87 #[vc] w fun e w' => ∃ v vb : Value, e = .returned (.tuple #[v, vb]) ∧ ∃ m b : List (List Int), Bent9 m ∧ Tab w' v m ∧ Tab w' vb b ∧ Below w.heap.size w w' := by
  have HN := Lib.hid (l1New_c h)
  have HK := Lib.hid (fun w' (hb : Below w.heap.size w w') => BytR.frame _ _ _ _ h hb)
  obtain ⟨a, c, rfl, -⟩ := h.cellsB
  clear h
  go_enter Try.func87, Try.ntmps87
  go_wp2_with fail
  (with_reducible refine HN.out.mono ?_)
  rintro e w1 ⟨rfl, ⟨hh, hs⟩, hb⟩
  have HB := Lib.hid hb
  have HL := Lib.hid (l4Bent_c (cb := w.heap.size) (lo := w.heap.size) (rs := []) (K := .slice a xs.length c) (xs := xs) (w := w1) (fun w' hb' => HK.out w' (hb.trans hb')) ⟨0, hh, Nat.zero_le _, hs⟩ hb.size)
  clear hs hb HN
  go_wp2_with fail
  (with_reducible refine HL.out.mono ?_)
  rintro e w2 ⟨v0, rfl, m, h9, hc, hb⟩
  have HB2 := Lib.hid (HB.out.trans hb)
  have hz2 : w.heap.size ≤ w2.heap.size := HB2.out.size
  have H9 := Lib.hid h9
  have HS := Lib.hid (l18Split_c (fun w' hb' => HK.out w' (HB2.out.trans hb')) hc hz2 (v := v0) (m := m) (by simp))
  obtain ⟨a0, c0, rfl, -⟩ := (hc.out.headNew).tab.shape
  generalize hn : m.length = n at HS ⊢
  clear hb HB HL hc h9 hn
  go_wp2_with fail
  (with_reducible refine HS.out.mono ?_)
  rintro e w3 ⟨vb, rfl, b, ss, hm, hc, hb⟩
  replace hm : ResM vb b ∈ _ := hm
  have HB3 := Lib.hid (HB2.out.trans hb)
  have HIs := Lib.hid (spec_IsMatrix_c (hc.tabOf hm))
  obtain ⟨ba, bc, rfl, -⟩ := (hc.tabOf hm).shape
  have HC3 := Lib.hid hc
  have HM := Lib.hid hm
  clear hc hb hm HS HB2 hz2
  have Hlast := Lib.hid (fun (wE : World) (hcE : Cur w.heap.size wE w.heap.size (.slice a xs.length c) xs.length (ss ++ [ResM (.slice a0 n c0) m])) (hbE : Below w.heap.size w wE) => l4Bent_c (fun w' hb => HK.out w' (hbE.trans hb)) hcE hbE.size)
  cases him : isMat b with
  | false =>
    rw [him] at HIs
    clear him HM
    generalize b.length = bn at *
    go_wp2_with fail
    (with_reducible refine HIs.out.mono ?_)
    rintro e w9 ⟨rfl, hw9⟩
    rw [← hw9]
    clear hw9 w9
    go_wp2_with fail
    (with_reducible refine (Hlast.out _ HC3.out HB3.out).mono ?_)
    rintro e w4 ⟨v4, rfl, m4, -, hc, hb⟩
    have HB4 := Lib.hid (HB3.out.trans hb)
    have HT := Lib.hid (hc.tabOf (v := .slice a0 n c0) (m := m) (by simp))
    have HT4 := Lib.hid (hc.tabOf (v := v4) (m := m4) (by simp))
    clear hc hb HC3 HB3 Hlast
    go_wp2
    go_ret2
    exact ⟨_, _, rfl, m, m4, H9.out, HT.out, HT4.out, HB4.out⟩
  | true =>
    rw [him] at HIs
    have hsq := isMat_sq him
    have hz3 : w.heap.size ≤ w3.heap.size := HB3.out.size
    have HO := Lib.hid (l1Once_i (z := 4) (fun w' hb' => HK.out w' (HB3.out.trans hb')) HC3.out hz3 (by omega) (by omega))
    have Hsq := Lib.hid hsq
    clear him hsq
    generalize hbn : b.length = bn at HIs HM ⊢
    have Hbn := Lib.hid hbn
    clear hbn
    go_wp2_with fail
    (with_reducible refine HIs.out.mono ?_)
    rintro e w9 ⟨rfl, hw9⟩
    rw [← hw9]
    clear hw9 w9
    go_wp2_with fail
    (with_reducible refine HO.out.mono ?_)
    rintro e w4 ⟨q, rfl, hc, hb, -⟩
    have HB4 := Lib.hid (HB3.out.trans hb)
    have HC4 := Lib.hid hc
    clear hc hb HC3 HB3 HO hz3
    cases q with
    | true =>
      go_wp2_with fail
      (with_reducible refine (Hlast.out _ HC4.out HB4.out).mono ?_)
      rintro e w5 ⟨v4, rfl, m4, -, hc, hb⟩
      have HB5 := Lib.hid (HB4.out.trans hb)
      have HT := Lib.hid (hc.tabOf (v := .slice a0 n c0) (m := m) (by simp))
      have HT4 := Lib.hid (hc.tabOf (v := v4) (m := m4) (by simp))
      clear hc hb HC4 HB4 Hlast
      go_wp2
      go_ret2
      exact ⟨_, _, rfl, m, m4, H9.out, HT.out, HT4.out, HB5.out⟩
    | false =>
      have hz4 : w.heap.size ≤ w4.heap.size := HB4.out.size
      have HOr := Lib.hid (l18Order_c (n := bn) (fun w' hb' => HK.out w' (HB4.out.trans hb')) HC4.out hz4 (by have := Hsq.out.2.2; rw [Hbn.out] at this; exact this))
      go_wp2_with fail
      (with_reducible refine HOr.out.mono ?_)
      rintro e w5 ⟨vp, rfl, ps, s2, hps, hc, hb⟩
      have HB5 := Lib.hid (HB4.out.trans hb)
      have hz5 : w.heap.size ≤ w5.heap.size := HB5.out.size
      have HR := Lib.hid (l18Rename_c (n := bn) (hc.tabOf (List.mem_cons_of_mem _ (List.mem_append_right _ HM.out))) (by have := Hsq.out.1; rw [Hbn.out] at this; exact this) (hc.intsOf (List.mem_cons_self)) hps.1 (fun i hi => by
        have e : ps.getD i 0 = ps[i]'(by omega) := by simp [List.getD, show i < ps.length by omega]
        rw [e]
        exact hps.2 _ (List.getElem_mem _)) (by have := Hsq.out.2.1; rw [Hbn.out] at this; omega) (by have := Hsq.out.2.2; rw [Hbn.out] at this; exact this))
      have HC5 := Lib.hid hc
      obtain ⟨pa, pc, rfl, -⟩ := (hc.intsOf (List.mem_cons_self)).shape
      clear hc hb hps HC4 HB4 HOr hz4
      go_wp2_with fail
      (with_reducible refine HR.out.mono ?_)
      rintro e w6 ⟨v6, rfl, hn6, hb6⟩
      have HC6 := Lib.hid (HC5.out.new (OTab.kept 3 33).held hb6 hz5 hn6)
      have HT := Lib.hid (HC6.out.tabOf (v := .slice a0 n c0) (m := m) (by simp))
      have HT6 := Lib.hid hn6.tab
      have HB6 := Lib.hid (HB5.out.trans (hb6.mono hz5))
      clear hn6 hb6 HR HC5 HC6 HB5
      go_wp2
      go_ret2
      exact ⟨_, _, rfl, m, _, H9.out, HT.out, HT6.out, HB6.out⟩
set_option maxHeartbeats 1000000 in
theorem DrawAreOneSided_c {w : World} {vc : Value} {xs : List Int} (h : BytR w vc xs) :
    Calls Try.prog 16 #[vc] w fun e w' => ∃ v vb : Value, e = .returned (.tuple #[v, vb]) ∧ ∃ m b : List (List Int), Bent9 m ∧ Tab w' v m ∧ Tab w' vb b ∧ Below w.heap.size w w' := by
  have HN := Lib.hid (l18Two_c h)
  obtain ⟨a, c, rfl, -⟩ := h.cellsB
  clear h
  go_enter Try.func16, Try.ntmps16
  go_wp2_with fail
  (with_reducible refine HN.out.mono ?_)
  rintro e w1 ⟨v, vb, rfl, m, b, h9, ht, htb, hb⟩
  have H9 := Lib.hid h9
  have HT := Lib.hid ht
  have HTb := Lib.hid htb
  have HB := Lib.hid hb
  clear h9 ht htb hb HN
  go_wp2
  go_ret2
  exact ⟨v, vb, rfl, m, b, H9.out, HT.out, HTb.out, HB.out⟩
set_option maxHeartbeats 1000000 in
theorem DrawSameAwayFromZero_c {w : World} {vc : Value} {xs : List Int} (h : BytR w vc xs) :
    Calls Try.prog 39 #[vc] w fun e w' => ∃ v vb : Value, e = .returned (.tuple #[v, vb]) ∧ ∃ m b : List (List Int), Bent9 m ∧ Tab w' v m ∧ Tab w' vb b ∧ Below w.heap.size w w' := by
  have HN := Lib.hid (l18Two_c h)
  obtain ⟨a, c, rfl, -⟩ := h.cellsB
  clear h
  go_enter Try.func39, Try.ntmps39
  go_wp2_with fail
  (with_reducible refine HN.out.mono ?_)
  rintro e w1 ⟨v, vb, rfl, m, b, h9, ht, htb, hb⟩
  have H9 := Lib.hid h9
  have HT := Lib.hid ht
  have HTb := Lib.hid htb
  have HB := Lib.hid hb
  clear h9 ht htb hb HN
  go_wp2
  go_ret2
  exact ⟨v, vb, rfl, m, b, H9.out, HT.out, HTb.out, HB.out⟩
/-- The trace, at any table. -/
theorem TraceOf_t {w : World} {va : Value} {m : List (List Int)} (h1 : Tab w va m) :
    Calls Try.prog 30 #[va] w fun e w' => e = .returned (.int .i64 (trV m)) ∧ w = w' := by
  cases hm : isMat m with
  | true =>
    have e : trV m = trF m m.length := by
      unfold trV
      rw [if_pos hm]
      have key : ∀ k, sumN k (fun k => ent m k k) = trF m k := by
        intro k
        induction k with
        | zero => rfl
        | succ k ih => rw [sumN, ih]; rfl
      exact key _
    rw [e]
    exact TraceOf_c h1 hm
  | false =>
    have e : trV m = -1 := by unfold trV; rw [hm]; rfl
    have HIs := Lib.hid (spec_IsMatrix_c h1)
    rw [hm] at HIs
    rw [e]
    obtain ⟨a, c, rfl, -⟩ := h1.shape
    clear h1 e hm
    go_enter Try.func30, Try.ntmps30
    go_wp2_with fail
    (with_reducible refine HIs.out.mono ?_)
    rintro e w9 ⟨rfl, hw9⟩
    rw [← hw9]
    clear hw9 w9
    go_wp2
    go_ret
    exact ⟨rfl, rfl⟩
end Go.Proofs.Ytlkgkfgpnnahdaa
end

section
/-
  A graph renamed is alike the graph; renamed graphs joined are alike.
-/
namespace Go.Proofs.Ytlkgkfgpnnahdaa
open Go.RowKit Go.Deep Go.Sd
theorem ent_setE {n : Nat} {m : Mx} (h : Sq n m) {i j : Nat} (hi : i < n) (hj : j < n) (y : Int) (k l : Nat) : ent (m.set i ((m.getD i []).set j y)) k l = if k = i ∧ l = j then y else ent m k l := by
  have hr := h.row hi
  have hl : i < m.length := by have := h.1; omega
  unfold ent
  by_cases e : k = i
  · subst e
    rw [show (m.set k ((m.getD k []).set j y)).getD k [] = (m.getD k []).set j y by simp [List.getD, hl]]
    have h2 := hr.2
    generalize m.getD k [] = r at h2 ⊢
    by_cases e2 : l = j
    · subst e2
      rw [if_pos ⟨rfl, rfl⟩]
      simp [List.getD, show l < r.length by omega]
    · rw [if_neg fun h => e2 h.2]
      simp [List.getD, List.getElem?_set_ne (show j ≠ l from fun h => e2 h.symm)]
  · rw [if_neg fun h => e h.1]
    simp [List.getD, List.getElem?_set_ne (show i ≠ k from fun h => e h.symm)]
theorem renJ_ent {m : Mx} {ps : List Nat} {n : Nat} {q : Nat → Nat} (hi : Inv n (fun i => ps.getD i 0) q) {out : Mx} (h : Sq n out) {i : Nat} (hin : i < n) : ∀ (j : Nat), j ≤ n → ∀ A B, A < n → B < n →
    ent (renJ m ps out i j) A B = if q A = i ∧ q B < j then ent m i (q B) else ent out A B
  | 0, _, A, B, _, _ => by rw [if_neg (by omega)]; rfl
  | j + 1, hj, A, B, hA, hB => by
    have hs := renJ_sq (m := m) h (hi.1 i hin).1 j
    show ent ((renJ m ps out i j).set (ps.getD i 0) (((renJ m ps out i j).getD (ps.getD i 0) []).set (ps.getD j 0) (ent m i j))) A B = _
    rw [ent_setE hs (hi.1 i hin).1 (hi.1 j (by omega)).1, renJ_ent hi h hin j (by omega) A B hA hB]
    have hA' : A = ps.getD i 0 ↔ q A = i := ⟨fun e => by rw [e]; exact (hi.1 i hin).2, fun e => by rw [← e]; exact (hi.2 A hA).2.symm⟩
    have hB' : B = ps.getD j 0 ↔ q B = j := ⟨fun e => by rw [e]; exact (hi.1 j (by omega)).2, fun e => by rw [← e]; exact (hi.2 B hB).2.symm⟩
    by_cases e1 : q A = i
    · by_cases e2 : q B = j
      · rw [if_pos ⟨hA'.2 e1, hB'.2 e2⟩, if_pos ⟨e1, by omega⟩, e2]
      · rw [if_neg fun h => e2 (hB'.1 h.2)]
        by_cases e3 : q B < j
        · rw [if_pos ⟨e1, e3⟩, if_pos ⟨e1, by omega⟩]
        · rw [if_neg fun h => e3 h.2, if_neg fun h => e3 (by omega)]
    · rw [if_neg fun h => e1 (hA'.1 h.1), if_neg fun h => e1 h.1, if_neg fun h => e1 h.1]
theorem renI_ent {m : Mx} {ps : List Nat} {n : Nat} {q : Nat → Nat} (hi : Inv n (fun i => ps.getD i 0) q) : ∀ (i : Nat), i ≤ n → ∀ A B, A < n → B < n → q A < i → ent (renI m ps n i) A B = ent m (q A) (q B)
  | 0, _, A, B, _, _, h => by omega
  | i + 1, hin, A, B, hA, hB, h => by
    show ent (renJ m ps (renI m ps n i) i n) A B = _
    rw [renJ_ent hi (renI_sq (fun i hi' => (hi.1 i hi').1) i (by omega)) (by omega) n (Nat.le_refl _) A B hA hB]
    by_cases e : q A = i
    · rw [if_pos ⟨e, (hi.2 B hB).1⟩, e]
    · rw [if_neg fun h => e h.1]
      exact renI_ent hi i (by omega) A B hA hB (by omega)
theorem namesL_inj {n : Nat} : ∀ {xs seen : List Int}, namesL n xs seen = true → (∀ x, x ∈ xs → x ∉ seen) ∧ xs.Nodup
  | [], _, _ => ⟨fun x hx => by simp at hx, List.nodup_nil⟩
  | y :: ys, seen, h => by
    unfold namesL at h
    split at h
    · rename_i hy
      have h1 := namesL_inj h
      have h2 : y ∉ seen := by have := hy.2.2; simpa using this
      refine ⟨fun x hx => ?_, List.nodup_cons.2 ⟨fun hm => h1.1 y hm (by simp), h1.2⟩⟩
      rcases List.mem_cons.1 hx with rfl | hx
      · exact h2
      · exact fun hs => h1.1 x hx (List.mem_cons_of_mem _ hs)
    · cases h
theorem ren_alk {m : Mx} {xs : List Int} (h : renOk m xs = true) : isMat m = true ∧ isMat (renV m xs) = true ∧ Alk m.length m (renV m xs).length (renV m xs) := by
  have h' := h
  unfold renOk at h
  rw [Bool.and_eq_true, Bool.and_eq_true, decide_eq_true_eq] at h
  obtain ⟨hm, hn, hl⟩ := h
  have hs := isMat_sq hm
  have hr := namesL_range hn
  have hnd := (namesL_inj hn).2
  obtain ⟨ps, hps⟩ : ∃ ps, ps = xs.map Int.toNat := ⟨_, rfl⟩
  have hlt : ∀ i, i < m.length → ps.getD i 0 < m.length := fun i hi => by
    rw [hps]
    exact (nats_toNat hr).2 i (by omega)
  have hat : ∀ i, i < m.length → ∃ x, xs[i]? = some x ∧ ps.getD i 0 = x.toNat ∧ 0 ≤ x := fun i hi => by
    obtain ⟨x, hx, -⟩ := at_lt (xs := xs) (k := i) (by omega)
    exact ⟨x, hx, by rw [hps]; simp [List.getD, hx], (hr x (List.mem_of_getElem? hx)).1⟩
  obtain ⟨q, hq⟩ := inj_inv (f := fun i => ps.getD i 0) hlt (fun i j hi hj e => by
    have e' : ps.getD i 0 = ps.getD j 0 := e
    obtain ⟨x, hx, ex, hx0⟩ := hat i hi
    obtain ⟨y, hy, ey, hy0⟩ := hat j hj
    have hxy : x = y := by omega
    subst hxy
    exact (List.getElem?_inj (by omega) hnd).1 (hx.trans hy.symm))
  have hv : renV m xs = renI m ps m.length m.length := by unfold renV; rw [if_pos h', hps]
  have hsq : Sq m.length (renV m xs) := by rw [hv]; exact renI_sq hlt m.length (Nat.le_refl _)
  have he : ∀ A B, A < m.length → B < m.length → ent (renV m xs) A B = ent m (q A) (q B) := fun A B hA hB => by
    rw [hv]
    exact renI_ent hq m.length (Nat.le_refl _) A B hA hB (hq.2 A hA).1
  refine ⟨hm, ?_, hsq.1.symm, fun i => ps.getD i 0, q, hq, fun A B hA hB => ?_⟩
  · refine isMat_mk9 hsq hs.2.1 hs.2.2 fun A B hA hB => ?_
    rw [he A B hA hB]
    exact isMat_ent hs.1 hm (hq.2 A hA).1 (hq.2 B hB).1
  · rw [he _ _ (hq.1 A hA).1 (hq.1 B hB).1, (hq.1 A hA).2, (hq.1 B hB).2]
theorem joins_law1 {c : Mx} {xs : List Int} (h9 : Bent9 c) (h : renOk c xs = true) (h6 : c.length ≤ 6) : alikeM c (renV c xs) = true ∧ alikeM (joinAllV c) (joinAllV (renV c xs)) = true := by
  obtain ⟨hm, hr, hk⟩ := ren_alk h
  exact ⟨alikeM_iff.2 ⟨hm, hr, h6, hk⟩, joinAll_alike hm hr h6 (h9.bdd hm) hk⟩
end Go.Proofs.Ytlkgkfgpnnahdaa
end

section
/-
  JoinIn, both sides.
-/
namespace Go.Proofs.Ytlkgkfgpnnahdaa
open Go.RowKit Go.Deep Go.Sd

def joinInOk (m : List (List Int)) (i j : Int) : Bool := joinOk (turnV m) i j
def joinInV (m : List (List Int)) (i j : Int) : List (List Int) := if joinOk (turnV m) i j = true then turnT (joinV (turnV m) i j) (joinV (turnV m) i j).length else []
theorem joinOk_sq {m : List (List Int)} {i j : Int} (h : joinOk m i j = true) : ∃ n, Sq n (joinV m i j) ∧ 0 < n ∧ n ≤ 9 := by
  have hs := joinV_sq h
  unfold joinOk at h
  simp only [Bool.and_eq_true] at h
  have h3 := (isMat_sq h.2).2.1
  rw [show (joinT m i.toNat j.toNat m.length).length = m.length - 1 from tabOf_len _ _ _] at h3
  exact ⟨_, hs.1, by omega, by omega⟩
theorem joinInV_bd (m : List (List Int)) (i j : Int) : (joinInV m i j).length ≤ 9 ∧ ∀ x, x ∈ joinInV m i j → x.length ≤ 9 := by
  unfold joinInV
  by_cases h : joinOk (turnV m) i j = true
  · rw [if_pos h]
    obtain ⟨n, hs, h0, h9⟩ := joinOk_sq h
    rw [hs.1]
    exact turnT_bd h9
  · rw [if_neg h]
    exact ⟨by simp, fun x hx => by cases hx⟩

set_option maxHeartbeats 400000 in
theorem impl_JoinIn_c {w : World} {va : Value} {m : List (List Int)} {i j : Int} (h1 : Tab w va m) :
    Calls Try.prog 14 #[va, .int .i64 i, .int .i64 j] w (Makes2 (OTab 3 33) w (joinInV m i j) (joinInOk m i j)) := by
  have Ht := Lib.hid (impl_TurnMatrix_c h1)
  obtain ⟨aa, ac, rfl, _, _, _⟩ := h1.shape


  have HO := Lib.hid (show joinInOk m i j = joinOk (turnV m) i j from rfl)
  have HV := Lib.hid (show joinInV m i j = if joinOk (turnV m) i j = true then turnT (joinV (turnV m) i j) (joinV (turnV m) i j).length else [] from rfl)
  have Hl := Lib.hid (fun w1 v1 (h : Tab w1 v1 (turnV m)) => impl_JoinOut_c (i := i) (j := j) h)
  have Hs := Lib.hid (fun h : joinOk (turnV m) i j = true => joinOk_sq h)
  have Hr := Lib.hid (fun (n : Nat) w1 v1 (h : Tab w1 v1 (joinV (turnV m) i j)) (hs : Sq n (joinV (turnV m) i j)) (h0 : 0 < n) (h9 : n ≤ 9) => turned_c h hs h0 h9)
  clear h1
  generalize joinInOk m i j = ok at HO ⊢
  generalize joinInV m i j = rv at HV ⊢
  generalize joinOk (turnV m) i j = b at *
  generalize joinV (turnV m) i j = t at *
  cases b with
  | false =>
    have HV2 := Lib.hid (show rv = [] from HV.out)
    go_enter Try.func14, Try.ntmps14
    go_wp2_with fail
    refine Ht.out.mono ?_
    rintro e w1 ⟨v1, rfl, hn1, hb1⟩
    go_wp2_with fail
    refine (Hl.out w1 v1 hn1.tab).mono ?_
    rintro e w2 ⟨v2, rfl, hn2, hb2⟩
    have Hb2 := Lib.hid (hb1.trans (hb2.mono hb1.size))
    clear hn1 hb1 hn2 hb2
    go_wp2
    go_ret2
    exact ⟨_, by rw [HO.out]; rfl, by rw [HV2.out]; exact New.nil _ _, Hb2.out⟩
  | true =>
    obtain ⟨n, hs, hn0, hn9⟩ := Hs.out rfl
    have HV2 := Lib.hid (show rv = turnT t n from by rw [HV.out, if_pos rfl, hs.1])
    have Hr2 := Lib.hid (fun w1 v1 (h : Tab w1 v1 t) => Hr.out n w1 v1 h hs hn0 hn9)
    clear hs hn0 hn9 Hr Hs HV
    go_enter Try.func14, Try.ntmps14
    go_wp2_with fail
    refine Ht.out.mono ?_
    rintro e w1 ⟨v1, rfl, hn1, hb1⟩
    go_wp2_with fail
    refine (Hl.out w1 v1 hn1.tab).mono ?_
    rintro e w2 ⟨v2, rfl, hn2, hb2⟩
    have Hb2 := Lib.hid (hb1.trans (hb2.mono hb1.size))
    have Hc := Lib.hid (Hr2.out w2 v2 hn2.tab)
    clear hn1 hb1 hn2 hb2 Hr2 Hl
    go_wp2_with fail
    refine Hc.out.mono ?_
    rintro e w3 ⟨v3, rfl, hn3, hb3⟩
    have Hn3 := Lib.hid (hn3.mono Hb2.out.size)
    have Hb3 := Lib.hid (Hb2.out.trans (hb3.mono Hb2.out.size))
    clear hn3 hb3
    go_wp2
    go_ret2
    exact ⟨_, by rw [HO.out]; rfl, by rw [HV2.out]; exact Hn3.out, Hb3.out⟩
set_option maxHeartbeats 400000 in
theorem spec_JoinIn_c {w : World} {va : Value} {m : List (List Int)} {i j : Int} (h1 : Tab w va m) :
    Calls Try.prog 15 #[va, .int .i64 i, .int .i64 j] w (Makes2 (OTab 3 33) w (joinInV m i j) (joinInOk m i j)) := by
  have Ht := Lib.hid (spec_TurnMatrix_c h1)
  obtain ⟨aa, ac, rfl, _, _, _⟩ := h1.shape


  have HO := Lib.hid (show joinInOk m i j = joinOk (turnV m) i j from rfl)
  have HV := Lib.hid (show joinInV m i j = if joinOk (turnV m) i j = true then turnT (joinV (turnV m) i j) (joinV (turnV m) i j).length else [] from rfl)
  have Hl := Lib.hid (fun w1 v1 (h : Tab w1 v1 (turnV m)) => spec_JoinOut_c (i := i) (j := j) h)
  have Hs := Lib.hid (fun h : joinOk (turnV m) i j = true => joinOk_sq h)
  have Hr := Lib.hid (fun (n : Nat) w1 v1 (h : Tab w1 v1 (joinV (turnV m) i j)) (hs : Sq n (joinV (turnV m) i j)) (h0 : 0 < n) (h9 : n ≤ 9) => l4Turn_c h hs h0 h9)
  clear h1
  generalize joinInOk m i j = ok at HO ⊢
  generalize joinInV m i j = rv at HV ⊢
  generalize joinOk (turnV m) i j = b at *
  generalize joinV (turnV m) i j = t at *
  cases b with
  | false =>
    have HV2 := Lib.hid (show rv = [] from HV.out)
    go_enter Try.func15, Try.ntmps15
    go_wp2_with fail
    refine Ht.out.mono ?_
    rintro e w1 ⟨v1, rfl, hn1, hb1⟩
    go_wp2_with fail
    refine (Hl.out w1 v1 hn1.tab).mono ?_
    rintro e w2 ⟨v2, rfl, hn2, hb2⟩
    have Hb2 := Lib.hid (hb1.trans (hb2.mono hb1.size))
    clear hn1 hb1 hn2 hb2
    go_wp2
    go_ret2
    exact ⟨_, by rw [HO.out]; rfl, by rw [HV2.out]; exact New.empty _ Hb2.out.size, Hb2.out.alloc Hb2.out.size _⟩
  | true =>
    obtain ⟨n, hs, hn0, hn9⟩ := Hs.out rfl
    have HV2 := Lib.hid (show rv = turnT t n from by rw [HV.out, if_pos rfl, hs.1])
    have Hr2 := Lib.hid (fun w1 v1 (h : Tab w1 v1 t) => Hr.out n w1 v1 h hs hn0 hn9)
    clear hs hn0 hn9 Hr Hs HV
    go_enter Try.func15, Try.ntmps15
    go_wp2_with fail
    refine Ht.out.mono ?_
    rintro e w1 ⟨v1, rfl, hn1, hb1⟩
    go_wp2_with fail
    refine (Hl.out w1 v1 hn1.tab).mono ?_
    rintro e w2 ⟨v2, rfl, hn2, hb2⟩
    have Hb2 := Lib.hid (hb1.trans (hb2.mono hb1.size))
    have Hc := Lib.hid (Hr2.out w2 v2 hn2.tab)
    clear hn1 hb1 hn2 hb2 Hr2 Hl
    go_wp2_with fail
    refine Hc.out.mono ?_
    rintro e w3 ⟨v3, rfl, hn3, hb3⟩
    have Hn3 := Lib.hid (hn3.mono Hb2.out.size)
    have Hb3 := Lib.hid (Hb2.out.trans (hb3.mono Hb2.out.size))
    clear hn3 hb3
    go_wp2
    go_ret2
    exact ⟨_, by rw [HO.out]; rfl, by rw [HV2.out]; exact Hn3.out, Hb3.out⟩
end Go.Proofs.Ytlkgkfgpnnahdaa
end

section
/-
  AreAlike, the program's and the reference's; the law that they agree.
-/
namespace Go.Proofs.Ytlkgkfgpnnahdaa
open Go.RowKit Go.Deep Go.Sd

set_option maxHeartbeats 400000 in
theorem impl_AreAlike_c {w : World} {va vb : Value} {a b : List (List Int)} (h1 : Tab w va a) (h2 : Tab w vb b) :
    Calls Try.prog 24 #[va, vb] w fun e w' => e = .returned (.bool (alikeM a b)) ∧ Below w.heap.size w w' := by
  obtain ⟨aa, ac, rfl, _, _, _⟩ := h1.shape
  obtain ⟨ba, bc, rfl, _, _, _⟩ := h2.shape
  cases ha : isMat a with
  | false =>
    have H := Lib.hid (show alikeM a b = false from by unfold alikeM; rw [ha]; rfl)
    have Hc := Lib.hid (impl_IsMatrix_c h1)
    rw [ha] at Hc
    clear ha h1 h2
    go_enter Try.func24, Try.ntmps24
    go_wp2_with (go_at_call 76; refine Hc.out.mono ?_; rintro e w' ⟨rfl, rfl⟩)
    go_ret
    exact ⟨by rw [H.out]; rfl, Below.refl _ _⟩
  | true =>
    cases hb : isMat b with
    | false =>
      have H := Lib.hid (show alikeM a b = false from by unfold alikeM; rw [hb]; simp)
      have Hc := Lib.hid (impl_IsMatrix_c h1)
      have Hd := Lib.hid (impl_IsMatrix_c h2)
      rw [ha] at Hc
      rw [hb] at Hd
      clear ha hb h1 h2
      go_enter Try.func24, Try.ntmps24
      go_wp2_with fail
      refine Hc.out.mono ?_
      rintro e w' ⟨rfl, rfl⟩
      go_wp2_with fail
      refine Hd.out.mono ?_
      rintro e w' ⟨rfl, rfl⟩
      go_wp2
      go_ret
      exact ⟨by rw [H.out]; rfl, Below.refl _ _⟩
    | true =>
      have Hc := Lib.hid (impl_IsMatrix_c h1)
      have Hd := Lib.hid (impl_IsMatrix_c h2)
      have sa := isMat_sq ha
      have sb := isMat_sq hb
      rw [ha] at Hc
      rw [hb] at Hd
      by_cases hl : a.length = b.length
      · by_cases h6 : a.length ≤ 6
        · have H := Lib.hid (show alikeM a b = fitM a b a.length a.length [] from by unfold alikeM; rw [ha, hb]; simp [hl]; intro h; omega)
          have Hf := Lib.hid (fits_c a b a.length sa.1 (hl ▸ sb.1) (by omega) (by omega) a.length [] w _ _ (.slice none 0 0) (by simp) (by simp) h1 h2 ⟨[], ⟨by simp, none, 0, rfl, by simp, by simp, by simp, Or.inl rfl⟩, by simp [nats], by simp⟩)
          have t1 : ((a.length : Int) == (b.length : Int)) = true := by simp [hl]
          clear ha hb h1 h2 hl sa sb
          go_enter Try.func24, Try.ntmps24
          go_wp2_with fail
          refine Hc.out.mono ?_
          rintro e w' ⟨rfl, rfl⟩
          go_wp2_with fail
          refine Hd.out.mono ?_
          rintro e w' ⟨rfl, rfl⟩
          go_wp2_with fail
          refine Hf.out.mono ?_
          rintro e w' ⟨rfl, hb1⟩
          go_wp2
          go_ret
          exact ⟨by rw [H.out]; rfl, hb1⟩
        · have H := Lib.hid (show alikeM a b = false from by unfold alikeM; simp [h6])
          have t1 : ((a.length : Int) == (b.length : Int)) = true := by simp [hl]
          clear ha hb h1 h2 hl sa sb
          go_enter Try.func24, Try.ntmps24
          go_wp2_with fail
          refine Hc.out.mono ?_
          rintro e w' ⟨rfl, rfl⟩
          go_wp2_with fail
          refine Hd.out.mono ?_
          rintro e w' ⟨rfl, rfl⟩
          go_wp2
          go_ret
          exact ⟨by rw [H.out]; rfl, Below.refl _ _⟩
      · have H := Lib.hid (show alikeM a b = false from by unfold alikeM; simp [hl])
        have t1 : ((a.length : Int) == (b.length : Int)) = false := by simp; omega
        clear ha hb h1 h2 sa sb
        go_enter Try.func24, Try.ntmps24
        go_wp2_with fail
        refine Hc.out.mono ?_
        rintro e w' ⟨rfl, rfl⟩
        go_wp2_with fail
        refine Hd.out.mono ?_
        rintro e w' ⟨rfl, rfl⟩
        go_wp2
        go_ret
        exact ⟨by rw [H.out]; rfl, Below.refl _ _⟩

set_option maxHeartbeats 400000 in
theorem spec_AreAlike_c {w : World} {va vb : Value} {a b : List (List Int)} (h1 : Tab w va a) (h2 : Tab w vb b) :
    Calls Try.prog 25 #[va, vb] w fun e w' => e = .returned (.bool (alikeM a b)) ∧ Below w.heap.size w w' := by
  obtain ⟨aa, ac, rfl, _, _, _⟩ := h1.shape
  obtain ⟨ba, bc, rfl, _, _, _⟩ := h2.shape
  cases ha : isMat a with
  | false =>
    have H := Lib.hid (show alikeM a b = false from by unfold alikeM; rw [ha]; rfl)
    have Hc := Lib.hid (spec_IsMatrix_c h1)
    rw [ha] at Hc
    clear ha h1 h2
    go_enter Try.func25, Try.ntmps25
    go_wp2_with (go_at_call 28; refine Hc.out.mono ?_; rintro e w' ⟨rfl, rfl⟩)
    go_ret
    exact ⟨by rw [H.out]; rfl, Below.refl _ _⟩
  | true =>
    cases hb : isMat b with
    | false =>
      have H := Lib.hid (show alikeM a b = false from by unfold alikeM; rw [hb]; simp)
      have Hc := Lib.hid (spec_IsMatrix_c h1)
      have Hd := Lib.hid (spec_IsMatrix_c h2)
      rw [ha] at Hc
      rw [hb] at Hd
      clear ha hb h1 h2
      go_enter Try.func25, Try.ntmps25
      go_wp2_with fail
      refine Hc.out.mono ?_
      rintro e w' ⟨rfl, rfl⟩
      go_wp2_with fail
      refine Hd.out.mono ?_
      rintro e w' ⟨rfl, rfl⟩
      go_wp2
      go_ret
      exact ⟨by rw [H.out]; rfl, Below.refl _ _⟩
    | true =>
      have Hc := Lib.hid (spec_IsMatrix_c h1)
      have Hd := Lib.hid (spec_IsMatrix_c h2)
      have sa := isMat_sq ha
      have sb := isMat_sq hb
      rw [ha] at Hc
      rw [hb] at Hd
      by_cases hl : a.length = b.length
      · by_cases h6 : a.length ≤ 6
        · have H := Lib.hid (show alikeM a b = fitM a b a.length a.length [] from by unfold alikeM; rw [ha, hb]; simp [hl]; intro h; omega)
          have hal : Below w.heap.size w (w.alloc (.cells #[] 3)) := (Below.refl _ _).alloc (Nat.le_refl _) _
          have Hf := Lib.hid (l18Match_c a b a.length sa.1 (hl ▸ sb.1) (by omega) (by omega) a.length [] (w.alloc (.cells #[] 3)) _ _ (.slice (some ⟨w.heap.size, 0, none⟩) 0 0) (by simp) (by simp) (Tab.frame _ _ _ _ h1 hal) (Tab.frame _ _ _ _ h2 hal) (New.empty (lo := 0) w (Nat.zero_le _)).ints)
          have t1 : ((a.length : Int) == (b.length : Int)) = true := by simp [hl]
          clear ha hb h1 h2 hl sa sb hal
          go_enter Try.func25, Try.ntmps25
          go_wp2_with fail
          refine Hc.out.mono ?_
          rintro e w' ⟨rfl, rfl⟩
          go_wp2_with fail
          refine Hd.out.mono ?_
          rintro e w' ⟨rfl, rfl⟩
          go_wp2_with fail
          refine Hf.out.mono ?_
          rintro e w' ⟨rfl, hb1⟩
          go_wp2
          go_ret
          exact ⟨by rw [H.out]; rfl, ((Below.refl _ _).alloc (Nat.le_refl _) _).trans (hb1.mono (by simp))⟩
        · have H := Lib.hid (show alikeM a b = false from by unfold alikeM; simp [h6])
          have t1 : ((a.length : Int) == (b.length : Int)) = true := by simp [hl]
          clear ha hb h1 h2 hl sa sb
          go_enter Try.func25, Try.ntmps25
          go_wp2_with fail
          refine Hc.out.mono ?_
          rintro e w' ⟨rfl, rfl⟩
          go_wp2_with fail
          refine Hd.out.mono ?_
          rintro e w' ⟨rfl, rfl⟩
          go_wp2
          go_ret
          exact ⟨by rw [H.out]; rfl, Below.refl _ _⟩
      · have H := Lib.hid (show alikeM a b = false from by unfold alikeM; simp [hl])
        have t1 : ((a.length : Int) == (b.length : Int)) = false := by simp; omega
        clear ha hb h1 h2 sa sb
        go_enter Try.func25, Try.ntmps25
        go_wp2_with fail
        refine Hc.out.mono ?_
        rintro e w' ⟨rfl, rfl⟩
        go_wp2_with fail
        refine Hd.out.mono ?_
        rintro e w' ⟨rfl, rfl⟩
        go_wp2
        go_ret
        exact ⟨by rw [H.out]; rfl, Below.refl _ _⟩

end Go.Proofs.Ytlkgkfgpnnahdaa
end

section
/-
  AreOneSided, both sides.
-/
namespace Go.Proofs.Ytlkgkfgpnnahdaa
open Go.RowKit Go.Deep Go.Sd

def oneM (a b : List (List Int)) : Bool := alikeM (joinAllV a) (joinAllV b)
theorem oneM_a {a b : List (List Int)} (h : isMat a = false) : oneM a b = false := by
  have e : joinAllV a = [] := by unfold joinAllV; rw [if_neg (by rw [h]; simp)]
  unfold oneM alikeM
  rw [e]
  rfl
theorem oneM_b {a b : List (List Int)} (h : isMat b = false) : oneM a b = false := by
  have e : joinAllV b = [] := by unfold joinAllV; rw [if_neg (by rw [h]; simp)]
  unfold oneM alikeM
  rw [e, show isMat [] = false from rfl]
  simp

set_option maxHeartbeats 400000 in
theorem impl_AreOneSided_c {w : World} {va vb : Value} {a b : List (List Int)} (h1 : Tab w va a) (h2 : Tab w vb b) :
    Calls Try.prog 22 #[va, vb] w fun e w' => e = .returned (.bool (oneM a b)) ∧ Below w.heap.size w w' := by
  have Hc := Lib.hid (impl_IsMatrix_c h1)
  have Hd := Lib.hid (impl_IsMatrix_c h2)
  have Ha := Lib.hid (impl_JoinAll_c h1)
  have Hb := Lib.hid (fun w1 (hb : Below w.heap.size w w1) => impl_JoinAll_c (Tab.frame _ _ _ _ h2 hb))
  cases ha : isMat a with
  | false =>
    have H := Lib.hid (oneM_a (b := b) ha)
    rw [ha] at Hc
    clear ha h1 h2 Ha Hb Hd
    go_enter Try.func22, Try.ntmps22
    go_wp2_with (go_at_call 76; refine Hc.out.mono ?_; rintro e w' ⟨rfl, rfl⟩)
    go_ret
    exact ⟨by rw [H.out]; rfl, Below.refl _ _⟩
  | true =>
    rw [ha] at Hc
    cases hb : isMat b with
    | false =>
      have H := Lib.hid (oneM_b (a := a) hb)
      rw [hb] at Hd
      clear ha hb h1 h2 Ha Hb
      go_enter Try.func22, Try.ntmps22
      go_wp2_with fail
      refine Hc.out.mono ?_
      rintro e w' ⟨rfl, rfl⟩
      go_wp2_with (go_at_call 76; refine Hd.out.mono ?_; rintro e w' ⟨rfl, rfl⟩)
      go_ret
      exact ⟨by rw [H.out]; rfl, Below.refl _ _⟩
    | true =>
      rw [hb] at Hd
      have H := Lib.hid (show oneM a b = alikeM (joinAllV a) (joinAllV b) from rfl)
      have Hl := Lib.hid (fun w1 v1 v2 (h1 : Tab w1 v1 (joinAllV a)) (h2 : Tab w1 v2 (joinAllV b)) => impl_AreAlike_c h1 h2)
      clear ha hb h1 h2
      generalize oneM a b = T at H ⊢
      generalize joinAllV a = ja at *
      generalize joinAllV b = jb at *
      go_enter Try.func22, Try.ntmps22
      go_wp2_with fail
      refine Hc.out.mono ?_
      rintro e w' ⟨rfl, rfl⟩
      go_wp2_with fail
      refine Hd.out.mono ?_
      rintro e w' ⟨rfl, rfl⟩
      go_wp2_with fail
      refine Ha.out.mono ?_
      rintro e w1 ⟨v1, rfl, hn1, hb1⟩
      go_wp2_with fail
      refine (Hb.out w1 hb1).mono ?_
      rintro e w2 ⟨v2, rfl, hn2, hb2⟩
      have hz := hb1.size
      have Hb2 := Lib.hid (hb1.trans (hb2.mono hz))
      have h3 := Hl.out w2 v1 v2 (Tab.frame _ _ _ _ hn1.tab hb2) hn2.tab
      have Hl2 := Lib.hid h3
      clear hn1 hb1 hn2 hb2 h3 Hl
      go_wp2_with fail
      refine Hl2.out.mono ?_
      rintro e w3 ⟨rfl, hb3⟩
      have Hb3 := Lib.hid (Hb2.out.trans (hb3.mono Hb2.out.size))
      clear hb3
      go_wp2
      go_ret
      exact ⟨by rw [H.out]; rfl, Hb3.out⟩
set_option maxHeartbeats 400000 in
theorem spec_AreOneSided_c {w : World} {va vb : Value} {a b : List (List Int)} (h1 : Tab w va a) (h2 : Tab w vb b) :
    Calls Try.prog 23 #[va, vb] w fun e w' => e = .returned (.bool (oneM a b)) ∧ Below w.heap.size w w' := by
  have Ha := Lib.hid (spec_JoinAll_c h1)
  have Hb := Lib.hid (fun w1 (hb : Below w.heap.size w w1) => spec_JoinAll_c (Tab.frame _ _ _ _ h2 hb))
  have H := Lib.hid (show oneM a b = alikeM (joinAllV a) (joinAllV b) from rfl)
  have Hl := Lib.hid (fun w1 v1 v2 (h1 : Tab w1 v1 (joinAllV a)) (h2 : Tab w1 v2 (joinAllV b)) => spec_AreAlike_c h1 h2)
  clear h1 h2
  generalize oneM a b = T at H ⊢
  generalize joinAllV a = ja at *
  generalize joinAllV b = jb at *
  go_enter Try.func23, Try.ntmps23
  go_wp2_with fail
  refine Ha.out.mono ?_
  rintro e w1 ⟨v1, rfl, hn1, hb1⟩
  go_wp2_with fail
  refine (Hb.out w1 hb1).mono ?_
  rintro e w2 ⟨v2, rfl, hn2, hb2⟩
  have hz := hb1.size
  have Hb2 := Lib.hid (hb1.trans (hb2.mono hz))
  have h3 := Hl.out w2 v1 v2 (Tab.frame _ _ _ _ hn1.tab hb2) hn2.tab
  have Hl2 := Lib.hid h3
  clear hn1 hb1 hn2 hb2 h3 Hl
  go_wp2_with fail
  refine Hl2.out.mono ?_
  rintro e w3 ⟨rfl, hb3⟩
  have Hb3 := Lib.hid (Hb2.out.trans (hb3.mono Hb2.out.size))
  clear hb3
  go_wp2
  go_ret
  exact ⟨by rw [H.out]; rfl, Hb3.out⟩
end Go.Proofs.Ytlkgkfgpnnahdaa
end

section
/-
  How large a renamed matrix is.
-/
namespace Go.Proofs.Ytlkgkfgpnnahdaa
open Go.RowKit Go.Deep Go.Sd
theorem renV_bd (m : List (List Int)) (xs : List Int) : (renV m xs).length ≤ 9 ∧ ∀ x, x ∈ renV m xs → x.length ≤ 9 := by
  unfold renV
  split
  · rename_i h
    unfold renOk at h
    simp only [Bool.and_eq_true, decide_eq_true_eq] at h
    have h1 := isMat_sq h.1
    have h2 := (nats_toNat (namesL_range h.2.1)).2
    have h3 := renI_sq (m := m) (n := m.length) (fun i hi => h2 i (by omega)) m.length (Nat.le_refl _)
    exact ⟨by rw [h3.1]; omega, fun x hx => by rw [h3.2 x hx]; omega⟩
  · simp
end Go.Proofs.Ytlkgkfgpnnahdaa
end

section
/-
  The laws' comparisons of rows and tables.
-/
namespace Go.Proofs.Ytlkgkfgpnnahdaa
open Go.RowKit Go.Deep Go.Sd

set_option maxHeartbeats 400000 in
theorem sameInts_c {w : World} {v1 v2 : Value} {xs ys : List Int} (h1 : Ints w v1 xs) (h2 : Ints w v2 ys) :
    Calls Try.prog 96 #[v1, v2] w (Reads w (.bool (decide (xs = ys)))) := by
  have hlen1 := h1.len
  have hlen2 := h2.len
  obtain ⟨a1, c1, rfl, _, _, hc1⟩ := h1.shape
  obtain ⟨a2, c2, rfl, _, _, hc2⟩ := h2.shape
  clear h1 h2
  by_cases hl : xs.length = ys.length
  · have H0 := Lib.hid (show decide (xs = ys) = eqLoop (xs.drop 0) (ys.drop 0) from (eqLoop_iff xs ys hl).symm)
    have hl1 : ((ys.length : Int) != ys.length) = false := by simp
    have hl2 := Lib.hid hl
    obtain ⟨n, hn⟩ : ∃ n, n = xs.length := ⟨_, rfl⟩
    rw [← hl, ← hn]
    have hnb : n ≤ 9223372036854775807 := by omega
    have hl3 := Lib.hid hn
    clear hl hn
    go_enter Try.func96, Try.ntmps96
    go_wp2
    go_loopg [5] n (fun g i wr => ∃ (k : Nat), i = .int .i64 k ∧ k + g = n ∧ Hid (decide (xs = ys) = eqLoop (xs.drop k) (ys.drop k)) ∧ Drawn w wr)
    case atStart => exact ⟨0, rfl, by omega, H0, Drawn.refl _⟩
    case round =>
      obtain ⟨k, rfl, hk, H, hdr⟩ := hrel
      by_cases hlt : k < n
      · obtain ⟨b1, o1, rfl, _, hx1⟩ := hc1 (by have := hl3.out; omega)
        obtain ⟨b2, o2, rfl, _, hx2⟩ := hc2 (by have := hl3.out; have := hl2.out; omega)
        obtain ⟨x, hx, hdx⟩ := at_lt (xs := xs) (k := k) (by have := hl3.out; omega)
        obtain ⟨y, hy, hdy⟩ := at_lt (xs := ys) (k := k) (by have := hl3.out; have := hl2.out; omega)
        obtain ⟨u1, hu1, rfl⟩ := hx1 k x hx
        obtain ⟨u2, hu2, rfl⟩ := hx2 k y hy
        rw [← hdr.cell] at hu1 hu2
        have H1 := Lib.hid (show decide (xs = ys) = if x = y then eqLoop (xs.drop (k + 1)) (ys.drop (k + 1)) else false from by rw [H.out, hdx, hdy]; rfl)
        clear H hx hdx hy hdy hx1 hx2 hc1 hc2 H0
        by_cases hxy : x = y
        · have H2 := Lib.hid (show decide (xs = ys) = eqLoop (xs.drop (k + 1)) (ys.drop (k + 1)) from by rw [H1.out, if_pos hxy])
          have hd : (x != y) = false := by simp [hxy]
          have hi1 : (k : Int) < (n : Int) := by omega
          clear hxy H1
          go_wp2
          go_quiet (fail)
          go_wp2
          go_roundg (n - (k + 1))
          case measure => omega
          case rel => exact ⟨k + 1, by go_num, by omega, H2, hdr.drewN _⟩
        · have H2 := Lib.hid (show decide (xs = ys) = false from by rw [H1.out, if_neg hxy])
          have hd : (x != y) = true := by simp [hxy]
          have hi1 : (k : Int) < (n : Int) := by omega
          clear hxy H1
          go_wp2
          go_quiet (fail)
          go_wp2
          go_ret
          exact ⟨by rw [H2.out]; rfl, hdr.drewN _⟩
      · have H1 := Lib.hid (show decide (xs = ys) = true from by rw [H.out, drop_len (by have := hl3.out; omega)]; rfl)
        clear H
        go_wp2
        go_ret
        exact ⟨by rw [H1.out]; rfl, hdr⟩
  · have H := Lib.hid (show decide (xs = ys) = false from by simp; intro h; exact hl (by rw [h]))
    have hl1 : ((xs.length : Int) != ys.length) = true := by simp; omega
    go_enter Try.func96, Try.ntmps96
    go_wp2
    go_ret
    exact ⟨by rw [H.out]; rfl, Drawn.refl _⟩
set_option maxHeartbeats 400000 in
theorem sameLists_c {w : World} {v1 v2 : Value} {xs ys : List (List Int)} (h1 : Tab w v1 xs) (h2 : Tab w v2 ys) :
    Calls Try.prog 20 #[v1, v2] w (Reads w (.bool (decide (xs = ys)))) := by
  have hlen1 := h1.len
  have hlen2 := h2.len
  obtain ⟨a1, c1, rfl, _, _, hc1⟩ := h1.shape
  obtain ⟨a2, c2, rfl, _, _, hc2⟩ := h2.shape
  clear h1 h2
  by_cases hl : xs.length = ys.length
  · have H0 := Lib.hid (show decide (xs = ys) = eqLoopT (xs.drop 0) (ys.drop 0) from (eqLoopT_iff xs ys hl).symm)
    have hl2 := Lib.hid hl
    obtain ⟨n, hn⟩ : ∃ n, n = xs.length := ⟨_, rfl⟩
    rw [← hl, ← hn]
    have hnb : n ≤ 9223372036854775807 := by omega
    have hl3 := Lib.hid hn
    clear hl hn
    go_enter Try.func20, Try.ntmps20
    go_wp2
    go_loopg [5] n (fun g i wr => ∃ (k : Nat), i = .int .i64 k ∧ k + g = n ∧ Hid (decide (xs = ys) = eqLoopT (xs.drop k) (ys.drop k)) ∧ Drawn w wr)
    case atStart => exact ⟨0, rfl, by omega, H0, Drawn.refl _⟩
    case round =>
      obtain ⟨k, rfl, hk, H, hdr⟩ := hrel
      by_cases hlt : k < n
      · obtain ⟨b1, o1, rfl, _, hx1⟩ := hc1 (by have := hl3.out; omega)
        obtain ⟨b2, o2, rfl, _, hx2⟩ := hc2 (by have := hl3.out; have := hl2.out; omega)
        obtain ⟨x, hx, hdx⟩ := at_lt (xs := xs) (k := k) (by have := hl3.out; omega)
        obtain ⟨y, hy, hdy⟩ := at_lt (xs := ys) (k := k) (by have := hl3.out; have := hl2.out; omega)
        obtain ⟨u1, hu1, hr1⟩ := hx1 k x hx
        obtain ⟨u2, hu2, hr2⟩ := hx2 k y hy
        rw [← hdr.cell] at hu1 hu2
        have H1 := Lib.hid (show decide (xs = ys) = if x = y then eqLoopT (xs.drop (k + 1)) (ys.drop (k + 1)) else false from by rw [H.out, hdx, hdy]; rfl)
        have hi1 : (k : Int) < (n : Int) := by omega
        have Hc := Lib.hid (fun n => Reads.quiet (sameInts_c ((hdr.read Ints.frame hr1).dn n) ((hdr.read Ints.frame hr2).dn n)))
        clear H hx hdx hy hdy hx1 hx2 hc1 hc2 H0 hr1 hr2
        by_cases hxy : x = y
        · have H2 := Lib.hid (show decide (xs = ys) = eqLoopT (xs.drop (k + 1)) (ys.drop (k + 1)) from by rw [H1.out, if_pos hxy])
          have hd : decide (x = y) = true := by simp [hxy]
          rw [hd] at Hc
          clear hxy H1 hd
          go_wp2
          go_quiet ((go_at_call 96; exact Hc.out _))
          go_wp2
          go_roundg (n - (k + 1))
          case measure => omega
          case rel => exact ⟨k + 1, by go_num, by omega, H2, hdr.drewN _⟩
        · have H2 := Lib.hid (show decide (xs = ys) = false from by rw [H1.out, if_neg hxy])
          have hd : decide (x = y) = false := by simp [hxy]
          rw [hd] at Hc
          clear hxy H1 hd
          go_wp2
          go_quiet ((go_at_call 96; exact Hc.out _))
          go_wp2
          go_ret
          exact ⟨by rw [H2.out]; rfl, hdr.drewN _⟩
      · have H1 := Lib.hid (show decide (xs = ys) = true from by rw [H.out, drop_len (by have := hl3.out; omega)]; rfl)
        clear H
        go_wp2
        go_ret
        exact ⟨by rw [H1.out]; rfl, hdr⟩
  · have H := Lib.hid (show decide (xs = ys) = false from by simp; intro h; exact hl (by rw [h]))
    have hl1 : ((xs.length : Int) != ys.length) = true := by simp; omega
    go_enter Try.func20, Try.ntmps20
    go_wp2
    go_ret
    exact ⟨by rw [H.out]; rfl, Drawn.refl _⟩

end Go.Proofs.Ytlkgkfgpnnahdaa
end

section
/-
  A slice of bytes that came in, opened.
-/
namespace Go.Sd
open Go.ChangeShapes Go.WideShapes Go.ChangeAt Go.RowKit Go.Deep
section
variable {H : Type} {enc : TypeId × Value → H} {P : Program} {W : World} {base : Nat}
theorem open_Bytes {t q : TypeId} (ht : P.underlying t = some (.slice q)) (hq : P.underlying q = some (.int .u8)) (cq : P.cellsOf q = 1) {v : Value} {d : DataW H} {p : List MemPlace}
    (hv : Value.okWide P W .any base t v) (h : DataW.Trod enc P W 0 (fun _ => true) true t v d p) : ∃ xs, BytR W v xs ∧ True := by
  obtain ⟨a, len, cap, rfl⟩ := okWide_slice ht hv
  obtain ⟨fuel, hf⟩ := h
  have h := hf
  simp only [Value.cells] at h
  rcases open_ints ht hq cq h with ⟨hcs, _⟩ | ⟨a', l, c, zs, hcs, _, hl, hm, hz, _, hcell, hwz⟩
  · simp at hcs
    obtain ⟨rfl, rfl, rfl⟩ := hcs
    exact ⟨[], ⟨[], Sl.mk' rfl (by simp) (by simp) (by simp) (by simp), rfl, by simp⟩, trivial⟩
  · simp at hcs
    obtain ⟨rfl, rfl, rfl⟩ := hcs
    simp only [if_true] at hz
    have hm' : cap ≤ 9223372036854775807 := hm
    refine ⟨zs.take len, ⟨(zs.take len).map (Value.int .u8), Sl.mk' (by simp; omega) hl hm' ?_ (by simp), by simp, ?_⟩, trivial⟩
    · intro a'' ha i u hu
      cases ha
      rw [List.getElem?_map, Option.map_eq_some_iff] at hu
      obtain ⟨z, hz1, rfl⟩ := hu
      have hi : i < (zs.take len).length := (List.getElem?_eq_some_iff.1 hz1).1
      rw [List.length_take] at hi
      rw [List.getElem?_take, if_pos (by omega)] at hz1
      have := hcell i (by omega)
      rw [List.getD, hz1] at this
      simpa using this
    · intro i u z hu hz1
      rw [List.getElem?_map, hz1] at hu
      simp at hu
      exact hu.symm
end
end Go.Sd
end

section
/-
  Inputs that are too long.
-/
namespace Go.Proofs.Ytlkgkfgpnnahdaa
open Go.RowKit Go.Deep Go.Sd
set_option linter.unusedSimpArgs false
set_option maxHeartbeats 1000000 in
theorem big_c {w : World} {a : Option Addr} {n c : Nat} (hn : n ≤ 9223372036854775807) :
    Calls Try.prog 7 #[.slice a n c] w fun e w' => e = .returned (.bool (decide (1048576 < n))) ∧ w = w' := by
  have hd : decide ((1048576 : Int) < (n : Int)) = decide (1048576 < n) := decide_eq_decide.2 (by omega)
  generalize decide (1048576 < n) = D at hd ⊢
  go_enter Try.func7, Try.ntmps7
  go_wp2
  go_ret
  exact ⟨by rw [← hd]; rfl, rfl⟩
end Go.Proofs.Ytlkgkfgpnnahdaa
end
