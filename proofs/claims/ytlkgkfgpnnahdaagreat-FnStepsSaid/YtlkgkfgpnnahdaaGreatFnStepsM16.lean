/-
  Texts of this claim joined: laws for its walks, contracts of the functions that the law reaches.
-/
import Derived.Test.YtlkgkfgpnnahdaaGreatFnStepsM7
import Derived.Test.YtlkgkfgpnnahdaaGreatFnStepsM12
import Derived.Test.YtlkgkfgpnnahdaaGreatFnStepsM10
import Derived.Test.YtlkgkfgpnnahdaaGreatFnStepsM1
import Derived.OwnWalk
import Derived.Test.YtlkgkfgpnnahdaaGreatFnStepsM15
import Derived.Test.YtlkgkfgpnnahdaaGreatFnStepsM5
import Derived.Test.YtlkgkfgpnnahdaaGreatRows
import Derived.Test.YtlkgkfgpnnahdaaGreatFnStepsM3
import Derived.Test.YtlkgkfgpnnahdaaGreatFnStepsM2
import Derived.Test.YtlkgkfgpnnahdaaGreatFnStepsM13
import Derived.Test.YtlkgkfgpnnahdaaGreatFnStepsM4
section
/-
  The draw of linked matrices.
-/
namespace Go.Sd
open Go.RowKit Go.Deep
theorem New.ofTwo {α : Type} {e : TypeId} {R : OwnRel α} (hR : Kept R) {lo : Nat} {w w2 : World} {u1 u2 : Value} {x1 x2 : α} (h1 : New R lo w u1 x1) (h2 : New R w.heap.size w2 u2 x2) (hb : Below w.heap.size w w2) (hlo : lo ≤ w.heap.size) :
    New (OwnOf e R) lo (w2.alloc (.cells #[u1, u2] e)) (.slice (some ⟨w2.heap.size, 0, none⟩) 2 2) [x1, x2] := by
  obtain ⟨F, hF, hn, hge⟩ := h1
  obtain ⟨G, hG, hm, hgg⟩ := h2
  have hlt := hR.lt _ _ _ _ hF
  have hlt2 := hR.lt _ _ _ _ hG
  have hF2 := hR.keep _ _ _ _ _ hF fun b hb' => hb.block b (hlt b hb')
  have hz := hb.size
  refine ⟨w2.heap.size :: (F ++ G), ⟨[u1, u2], [F, G], ⟨by simp, .inr ⟨w2.heap.size, 2, #[u1, u2], rfl, Nat.zero_le _, heap_alloc_new w2 _, Nat.le_refl _, by simp [maxLen], by simp, by simp⟩⟩, rfl, ?_, by simp [Value.ownBlock]⟩, List.nodup_cons.2 ⟨fun hm' => ?_, List.nodup_append.2 ⟨hn, hm, fun a ha b hb' e => ?_⟩⟩, fun b hb' => ?_⟩
  · intro i u' x' H hu hx hH
    have kp := fun b (hb' : b < w2.heap.size) => ((Below.refl w2.heap.size w2).alloc (Nat.le_refl _) (.cells #[u1, u2] e)).block b hb'
    match i with
    | 0 =>
      simp at hu hx hH
      subst hu hx hH
      exact hR.keep _ _ _ _ _ hF2 fun b hb' => kp b (by have := hlt b hb'; omega)
    | 1 =>
      simp at hu hx hH
      subst hu hx hH
      exact hR.keep _ _ _ _ _ hG fun b hb' => kp b (hlt2 b hb')
    | i + 2 => simp at hu
  · rcases List.mem_append.1 hm' with h | h
    · have := hlt _ h; omega
    · have := hlt2 _ h; omega
  · subst e
    have := hlt a ha
    have := hgg a hb'
    omega
  · rcases List.mem_cons.1 hb' with rfl | hb'
    · omega
    · rcases List.mem_append.1 hb' with h | h
      · exact hge b h
      · have := hgg b h; omega
theorem New.twoInts {e : TypeId} (w : World) (x y : Int) : New (OInts e) w.heap.size (w.alloc (.cells #[.int .i64 x, .int .i64 y] e)) (.slice (some ⟨w.heap.size, 0, none⟩) 2 2) [x, y] :=
  New.ofTwo (w := w) (w2 := w) OIntR.kept ⟨[], ⟨rfl, rfl⟩, by simp [Fresh]⟩ ⟨[], ⟨rfl, rfl⟩, by simp [Fresh]⟩ (Below.refl _ _) (Nat.le_refl _)
end Go.Sd
namespace Go.Proofs.YtlkgkfgpnnahdaaGreat
open Go.RowKit Go.Deep Go.Sd
set_option linter.unusedSimpArgs false
set_option maxHeartbeats 1000000 in
set_option maxRecDepth 100000 in
theorem l1Below_g {lo : Nat} {w : World} {cb : Nat} {K : Value} {xs : List Int} {rs : List Res} {N : Nat} (hK : ∀ w', Below lo w w' → BytR w' K xs) (hc : Cur lo w cb K xs.length rs) (hlo : lo ≤ w.heap.size) (hN : 1 ≤ N) (hN2 : N ≤ 9223372036854775807) :
    Calls Tryz.prog 42 #[.pointer (some ⟨cb, 0, none⟩), .int .i64 N] w (DrawsN lo w cb K xs.length rs N) := by
  by_cases hs : N ≤ 256
  · exact l1Below_c hK hc hlo hN hs
  have HK := Lib.hid hK
  have HC := Lib.hid hc
  have HB := Lib.hid (fun (wz : World) (hb : Below lo w wz) (hc : Cur lo wz cb K xs.length rs) => l1Byte_c (fun w' hb' => HK.out w' (hb.trans hb')) hc (Nat.le_trans hlo hb.size))
  have HB0 := Lib.hid (Below.refl lo w)
  have HO0 := Lib.hid (Off.refl [cb] w)
  have h0 : ¬ ((N : Int) ≤ 0) := by omega
  have h1 : ¬ ((N : Int) ≤ 256) := by omega
  have h2 : (0 : Int) < (N : Int) := by omega
  have h3 : ¬ ((N : Int) = 0) := by omega
  clear hK hc
  go_enter Tryz.func42, Tryz.ntmps42
  go_wp2_with fail
  (with_reducible refine (HB.out _ HB0.out HC.out).mono ?_)
  rintro e w1 ⟨x1, rfl, hx1, hc, hb, ho⟩
  have HC1 := Lib.hid hc
  have HB1 := Lib.hid (HB0.out.trans hb)
  have HO1 := Lib.hid (HO0.out.trans ho)
  clear hc hb ho
  go_wp2_with fail
  (with_reducible refine (HB.out _ HB1.out HC1.out).mono ?_)
  rintro e w2 ⟨x2, rfl, hx2, hc, hb, ho⟩
  have HC2 := Lib.hid hc
  have HB2 := Lib.hid (HB1.out.trans hb)
  have HO2 := Lib.hid (HO1.out.trans ho)
  clear hc hb ho
  go_wp2_with fail
  (with_reducible refine (HB.out _ HB2.out HC2.out).mono ?_)
  rintro e w3 ⟨x3, rfl, hx3, hc, hb, ho⟩
  have HC3 := Lib.hid hc
  have HB3 := Lib.hid (HB2.out.trans hb)
  have HO3 := Lib.hid (HO2.out.trans ho)
  clear hc hb ho
  go_wp2_with fail
  (with_reducible refine (HB.out _ HB3.out HC3.out).mono ?_)
  rintro e w4 ⟨x4, rfl, hx4, hc, hb, ho⟩
  have HC4 := Lib.hid hc
  have HB4 := Lib.hid (HB3.out.trans hb)
  have HO4 := Lib.hid (HO3.out.trans ho)
  clear hc hb ho
  obtain ⟨T, hT⟩ : ∃ T : Nat, T = x1 * 16777216 + x2 * 65536 + x3 * 256 + x4 := ⟨_, rfl⟩
  have hTi : (x1 : Int) * 16777216 + (x2 : Int) * 65536 + (x3 : Int) * 256 + (x4 : Int) = (T : Int) := by omega
  have hmod : (T : Int) % (N : Int) = ((T % N : Nat) : Int) := by omega
  have hlt : T % N < N := Nat.mod_lt _ (by omega)
  have HM := Lib.hid hmod
  clear hmod hT
  go_wp2
  go_ret
  exact ⟨T % N, by rw [← HM.out]; rfl, hlt, HC4.out, HB4.out, HO4.out⟩
/-- Two tables. -/
def TwoQ (w' : World) (v vb : Value) : Prop := ∃ a b : List (List Int), Tab w' v a ∧ Tab w' vb b
set_option maxHeartbeats 4000000 in
set_option maxRecDepth 100000 in
theorem DrawAreLinked_c {w : World} {vc : Value} {xs : List Int} (h : BytR w vc xs) :
    Calls Tryz.prog 14 #[vc] w fun e w' => ∃ v vb : Value, e = .returned (.tuple #[v, vb]) ∧ TwoQ w' v vb ∧ Below w.heap.size w w' := by
  have HN := Lib.hid (l1New_c h)
  have HK := Lib.hid (fun w' (hb : Below w.heap.size w w') => BytR.frame _ _ _ _ h hb)
  obtain ⟨a, c, rfl, -⟩ := h.cellsB
  clear h
  have Hdr := Lib.hid (fun (wz : World) (rs : List Res) (hb : Below w.heap.size w wz) (hc : Cur w.heap.size wz w.heap.size (.slice a xs.length c) xs.length rs) => (show Calls Tryz.prog 41 #[.pointer (some ⟨w.heap.size, 0, none⟩), .int .i64 2] wz _ from l4Draw_c (most := 2) (lo := w.heap.size) (cb := w.heap.size) (rs := rs) (K := .slice a xs.length c) (xs := xs) (fun w' hb' => HK.out w' (hb.trans hb')) hc hb.size (by omega) (by omega)))
  have Hon := Lib.hid (fun (wz : World) (rs : List Res) (hb : Below w.heap.size w wz) (hc : Cur w.heap.size wz w.heap.size (.slice a xs.length c) xs.length rs) => l1Once_i (z := 2) (lo := w.heap.size) (cb := w.heap.size) (rs := rs) (K := .slice a xs.length c) (xs := xs) (fun w' hb' => HK.out w' (hb.trans hb')) hc hb.size (by decide) (by decide))
  have Hbe := Lib.hid (fun (wz : World) (rs : List Res) (hb : Below w.heap.size w wz) (hc : Cur w.heap.size wz w.heap.size (.slice a xs.length c) xs.length rs) (N : Nat) (h1 : 1 ≤ N) (h2 : N ≤ 9223372036854775807) => l1Below_g (N := N) (lo := w.heap.size) (cb := w.heap.size) (rs := rs) (K := .slice a xs.length c) (xs := xs) (fun w' hb' => HK.out w' (hb.trans hb')) hc hb.size h1 h2)
  clear HK
  go_enter Tryz.func14, Tryz.ntmps14
  go_wp2_with fail
  (with_reducible refine HN.out.mono ?_)
  rintro e w1 ⟨rfl, ⟨hh, hs⟩, hb⟩
  have HB1 := Lib.hid hb
  have HC1 := Lib.hid (show Cur w.heap.size w1 w.heap.size (.slice a xs.length c) xs.length [] from ⟨0, hh, Nat.zero_le _, hs⟩)
  clear hs hb HN
  go_wp2_with fail
  (with_reducible refine (Hdr.out _ _ HB1.out HC1.out).mono ?_)
  rintro e w2 ⟨va, rfl, ma, -, hc, hb⟩
  have HB := Lib.hid (HB1.out.trans hb)
  have HC := Lib.hid hc
  obtain ⟨a1, c1, rfl, -⟩ := (hc.tabOf (v := va) (m := ma) (by simp)).shape
  obtain ⟨n1, hn1⟩ : ∃ n, n = ma.length := ⟨_, rfl⟩
  rw [← hn1] at HC ⊢
  clear hc hb HB1 HC1 hn1
  by_cases h2 : n1 ≤ 2
  · have h2i : ¬ (2 : Int) < (n1 : Int) := by omega
    have HS := Lib.hid (spec_StepsFrom_c (HC.out.tabOf (v := .slice a1 n1 c1) (m := ma) (by simp)))
    go_wp2_with fail
    (with_reducible refine HS.out.mono ?_)
    rintro e w4 ⟨vl, rfl, hn, hb⟩
    have HC4 := Lib.hid (HC.out.new (OTabs.kept 3 46 24).held hb HB.out.size hn)
    have HB4 := Lib.hid (HB.out.trans (hb.mono HB.out.size))
    have hlen := hn.tabs.len
    obtain ⟨a2, c2, rfl, -⟩ := hn.tabs.shape
    generalize stepsV _ = L at HC4 hlen ⊢
    obtain ⟨N, hN⟩ : ∃ N, N = L.length := ⟨_, rfl⟩
    have HN := Lib.hid hN
    rw [← hN] at HC4 hlen ⊢
    clear hn hb HS HC HB hN
    by_cases h0 : 0 < N
    · have h0i : (0 : Int) < (N : Int) := by omega
      go_wp2_with fail
      (with_reducible refine (Hon.out _ _ HB4.out HC4.out).mono ?_)
      rintro e w5 ⟨q, rfl, hc, hb, -⟩
      have HB5 := Lib.hid (HB4.out.trans hb)
      have HC5 := Lib.hid hc
      clear hc hb HC4 HB4
      cases q with
      | false =>
        go_wp2_with fail
        (with_reducible refine (Hdr.out _ _ HB5.out HC5.out).mono ?_)
        rintro e w6 ⟨vb, rfl, mb, -, hc, hb⟩
        have HF := Lib.hid (show TwoQ w6 (.slice a1 n1 c1) vb from ⟨_, _, hc.tabOf (v := .slice a1 n1 c1) (m := ma) (by simp), hc.tabOf (v := vb) (m := mb) (by simp)⟩)
        have HB6 := Lib.hid (HB5.out.trans hb)
        clear hc hb HB5 HC5
        go_wp2
        go_ret2
        exact ⟨_, _, rfl, HF.out, HB6.out⟩
      | true =>
        go_wp2_with fail
        (with_reducible refine (Hbe.out _ _ HB5.out HC5.out N (by omega) hlen).mono ?_)
        rintro e w6 ⟨x, rfl, hx, hc, hb, -⟩
        have HB6 := Lib.hid (HB5.out.trans hb)
        have hl : Tabs w6 (.slice a2 N c2) L := by
          obtain ⟨G, hG, -⟩ := hc.out.get (r := Res.of (OTabs 3 46 24) (OTabs.kept 3 46 24).held (.slice a2 N c2) L) (by simp)
          exact OTabs.reads hG
        have hta := hc.tabOf (v := .slice a1 n1 c1) (m := ma) (by simp)
        obtain ⟨a3, c3, e3, -, -, hcell⟩ := hl.shape
        simp only [Value.slice.injEq] at e3
        obtain ⟨rfl, -, rfl⟩ := e3
        obtain ⟨b3, o3, rfl, -, hat⟩ := hcell (by rw [← HN.out]; exact h0)
        obtain ⟨mb, hmb, -⟩ := at_lt (xs := L) (k := x) (by rw [← HN.out]; exact hx)
        obtain ⟨u, hu, htu⟩ := hat x mb hmb
        obtain ⟨a4, c4, rfl, -⟩ := htu.shape
        have hxi : (x : Int) < (N : Int) := by omega
        have HTA := Lib.hid hta
        have HTU := Lib.hid htu
        have HJ := Lib.hid (spec_JoinAll_c htu)
        obtain ⟨n4, hn4⟩ : ∃ n, n = mb.length := ⟨_, rfl⟩
        rw [← hn4] at HTU HJ hu
        clear hn4 hl hta htu hc hb HB5 HC5 hmb hat hcell
        by_cases h4 : n4 ≤ 2
        · have h4i : (n4 : Int) ≤ 2 := by omega
          have HF := Lib.hid (show TwoQ w6 (.slice a1 n1 c1) (.slice a4 n4 c4) from ⟨_, _, HTA.out, HTU.out⟩)
          go_wp2
          go_ret2
          exact ⟨_, _, rfl, HF.out, HB6.out⟩
        · have h4i : ¬ (n4 : Int) ≤ 2 := by omega
          go_wp2_with fail
          (with_reducible refine HJ.out.mono ?_)
          rintro e w7 ⟨vb, rfl, hn, hb⟩
          have HF := Lib.hid (show TwoQ w7 (.slice a1 n1 c1) vb from ⟨_, _, Tab.frame _ _ _ _ HTA.out hb, hn.tab⟩)
          have HB7 := Lib.hid (HB6.out.trans (hb.mono HB6.out.size))
          clear hn hb
          go_wp2
          go_ret2
          exact ⟨_, _, rfl, HF.out, HB7.out⟩
    · have h0i : ¬ (0 : Int) < (N : Int) := by omega
      go_wp2_with fail
      (with_reducible refine (Hdr.out _ _ HB4.out HC4.out).mono ?_)
      rintro e w6 ⟨vb, rfl, mb, -, hc, hb⟩
      have HF := Lib.hid (show TwoQ w6 (.slice a1 n1 c1) vb from ⟨_, _, hc.tabOf (v := .slice a1 n1 c1) (m := ma) (by simp), hc.tabOf (v := vb) (m := mb) (by simp)⟩)
      have HB6 := Lib.hid (HB4.out.trans hb)
      clear hc hb HB4 HC4
      go_wp2
      go_ret2
      exact ⟨_, _, rfl, HF.out, HB6.out⟩
  · have h2i : (2 : Int) < (n1 : Int) := by omega
    obtain ⟨u1, e1⟩ : ∃ x, x = w2.alloc (.cells #[.int .i64 1, .int .i64 1] 3) := ⟨_, rfl⟩
    obtain ⟨u2, e2⟩ : ∃ x, x = u1.alloc (.cells #[.int .i64 1, .int .i64 0] 3) := ⟨_, rfl⟩
    obtain ⟨u3, e3⟩ : ∃ x, x = u2.alloc (.cells #[.slice (some ⟨w2.heap.size, 0, none⟩) 2 2, .slice (some ⟨u1.heap.size, 0, none⟩) 2 2] 46) := ⟨_, rfl⟩
    have hb1 : Below w2.heap.size w2 u1 := by rw [e1]; exact (Below.refl _ _).alloc (Nat.le_refl _) _
    have hb2 : Below u1.heap.size u1 u2 := by rw [e2]; exact (Below.refl _ _).alloc (Nat.le_refl _) _
    have hb3 : Below u2.heap.size u2 u3 := by rw [e3]; exact (Below.refl _ _).alloc (Nat.le_refl _) _
    have hl1 : New (OInts 3) w2.heap.size u1 (.slice (some ⟨w2.heap.size, 0, none⟩) 2 2) [1, 1] := by rw [e1]; exact New.twoInts _ _ _
    have hl2 : New (OInts 3) u1.heap.size u2 (.slice (some ⟨u1.heap.size, 0, none⟩) 2 2) [1, 0] := by rw [e2]; exact New.twoInts _ _ _
    have hl3 : New (OTab 3 46) w2.heap.size u3 (.slice (some ⟨u2.heap.size, 0, none⟩) 2 2) [[1, 1], [1, 0]] := by rw [e3]; exact New.ofTwo (OInts.kept 3) hl1 hl2 hb2 hb1.size
    have hb13 : Below w2.heap.size w2 u3 := hb1.trans ((hb2.trans (hb3.mono hb2.size)).mono hb1.size)
    have HC' := Lib.hid (HC.out.new (OTab.kept 3 46).held hb13 HB.out.size hl3)
    have HB' := Lib.hid (HB.out.trans (hb13.mono HB.out.size))
    have e1s := e1.symm
    have e2s := e2.symm
    have e3s := e3.symm
    clear hb1 hb2 hb3 hl1 hl2 hl3 hb13 e1 e2 e3 HC HB
    go_upto_region 5 with fail
    clear e1s e2s e3s
    rename Hid (Cur _ u3 _ _ _ _) => HC
    rename Hid (Below _ w u3) => HB
    have HS := Lib.hid (spec_StepsFrom_c (HC.out.tabOf (v := .slice (some ⟨u2.heap.size, 0, none⟩) 2 2) (m := [[1, 1], [1, 0]]) (by simp)))
    go_wp2_with fail
    (with_reducible refine HS.out.mono ?_)
    rintro e w4 ⟨vl, rfl, hn, hb⟩
    have HC4 := Lib.hid (HC.out.new (OTabs.kept 3 46 24).held hb HB.out.size hn)
    have HB4 := Lib.hid (HB.out.trans (hb.mono HB.out.size))
    have hlen := hn.tabs.len
    obtain ⟨a2, c2, rfl, -⟩ := hn.tabs.shape
    generalize stepsV _ = L at HC4 hlen ⊢
    obtain ⟨N, hN⟩ : ∃ N, N = L.length := ⟨_, rfl⟩
    have HN := Lib.hid hN
    rw [← hN] at HC4 hlen ⊢
    clear hn hb HS HC HB hN
    by_cases h0 : 0 < N
    · have h0i : (0 : Int) < (N : Int) := by omega
      go_wp2_with fail
      (with_reducible refine (Hon.out _ _ HB4.out HC4.out).mono ?_)
      rintro e w5 ⟨q, rfl, hc, hb, -⟩
      have HB5 := Lib.hid (HB4.out.trans hb)
      have HC5 := Lib.hid hc
      clear hc hb HC4 HB4
      cases q with
      | false =>
        go_wp2_with fail
        (with_reducible refine (Hdr.out _ _ HB5.out HC5.out).mono ?_)
        rintro e w6 ⟨vb, rfl, mb, -, hc, hb⟩
        have HF := Lib.hid (show TwoQ w6 (.slice (some ⟨u2.heap.size, 0, none⟩) 2 2) vb from ⟨_, _, hc.tabOf (v := .slice (some ⟨u2.heap.size, 0, none⟩) 2 2) (m := [[1, 1], [1, 0]]) (by simp), hc.tabOf (v := vb) (m := mb) (by simp)⟩)
        have HB6 := Lib.hid (HB5.out.trans hb)
        clear hc hb HB5 HC5
        go_wp2
        go_ret2
        exact ⟨_, _, rfl, HF.out, HB6.out⟩
      | true =>
        go_wp2_with fail
        (with_reducible refine (Hbe.out _ _ HB5.out HC5.out N (by omega) hlen).mono ?_)
        rintro e w6 ⟨x, rfl, hx, hc, hb, -⟩
        have HB6 := Lib.hid (HB5.out.trans hb)
        have hl : Tabs w6 (.slice a2 N c2) L := by
          obtain ⟨G, hG, -⟩ := hc.out.get (r := Res.of (OTabs 3 46 24) (OTabs.kept 3 46 24).held (.slice a2 N c2) L) (by simp)
          exact OTabs.reads hG
        have hta := hc.tabOf (v := .slice (some ⟨u2.heap.size, 0, none⟩) 2 2) (m := [[1, 1], [1, 0]]) (by simp)
        obtain ⟨a3, c3, e3, -, -, hcell⟩ := hl.shape
        simp only [Value.slice.injEq] at e3
        obtain ⟨rfl, -, rfl⟩ := e3
        obtain ⟨b3, o3, rfl, -, hat⟩ := hcell (by rw [← HN.out]; exact h0)
        obtain ⟨mb, hmb, -⟩ := at_lt (xs := L) (k := x) (by rw [← HN.out]; exact hx)
        obtain ⟨u, hu, htu⟩ := hat x mb hmb
        obtain ⟨a4, c4, rfl, -⟩ := htu.shape
        have hxi : (x : Int) < (N : Int) := by omega
        have HTA := Lib.hid hta
        have HTU := Lib.hid htu
        have HJ := Lib.hid (spec_JoinAll_c htu)
        obtain ⟨n4, hn4⟩ : ∃ n, n = mb.length := ⟨_, rfl⟩
        rw [← hn4] at HTU HJ hu
        clear hn4 hl hta htu hc hb HB5 HC5 hmb hat hcell
        by_cases h4 : n4 ≤ 2
        · have h4i : (n4 : Int) ≤ 2 := by omega
          have HF := Lib.hid (show TwoQ w6 (.slice (some ⟨u2.heap.size, 0, none⟩) 2 2) (.slice a4 n4 c4) from ⟨_, _, HTA.out, HTU.out⟩)
          go_wp2
          go_ret2
          exact ⟨_, _, rfl, HF.out, HB6.out⟩
        · have h4i : ¬ (n4 : Int) ≤ 2 := by omega
          go_wp2_with fail
          (with_reducible refine HJ.out.mono ?_)
          rintro e w7 ⟨vb, rfl, hn, hb⟩
          have HF := Lib.hid (show TwoQ w7 (.slice (some ⟨u2.heap.size, 0, none⟩) 2 2) vb from ⟨_, _, Tab.frame _ _ _ _ HTA.out hb, hn.tab⟩)
          have HB7 := Lib.hid (HB6.out.trans (hb.mono HB6.out.size))
          clear hn hb
          go_wp2
          go_ret2
          exact ⟨_, _, rfl, HF.out, HB7.out⟩
    · have h0i : ¬ (0 : Int) < (N : Int) := by omega
      go_wp2_with fail
      (with_reducible refine (Hdr.out _ _ HB4.out HC4.out).mono ?_)
      rintro e w6 ⟨vb, rfl, mb, -, hc, hb⟩
      have HF := Lib.hid (show TwoQ w6 (.slice (some ⟨u2.heap.size, 0, none⟩) 2 2) vb from ⟨_, _, hc.tabOf (v := .slice (some ⟨u2.heap.size, 0, none⟩) 2 2) (m := [[1, 1], [1, 0]]) (by simp), hc.tabOf (v := vb) (m := mb) (by simp)⟩)
      have HB6 := Lib.hid (HB4.out.trans hb)
      clear hc hb HB4 HC4
      go_wp2
      go_ret2
      exact ⟨_, _, rfl, HF.out, HB6.out⟩
end Go.Proofs.YtlkgkfgpnnahdaaGreat
end

section
/-
  Matrices as functions: products, powers, traces; lags keep the traces of great powers.
-/
namespace Go.Sd
theorem sumN_mul (n : Nat) (c : Int) (f : Nat → Int) : sumN n (fun i => c * f i) = c * sumN n f := by
  induction n with
  | zero => simp [sumN]
  | succ n ih => rw [sumN, sumN, ih, Int.mul_add]
theorem sumN_mulr (n : Nat) (c : Int) (f : Nat → Int) : sumN n (fun i => f i * c) = sumN n f * c := by
  induction n with
  | zero => simp [sumN]
  | succ n ih => rw [sumN, sumN, ih, Int.add_mul]
abbrev MF := Nat → Nat → Int
/-- The product over a middle of k. -/
def mulF (k : Nat) (A B : MF) : MF := fun i j => sumN k fun x => A i x * B x j
def trF (n : Nat) (A : MF) : Int := sumN n fun i => A i i
theorem mulF_assoc (k l : Nat) (A B C : MF) : mulF l (mulF k A B) C = mulF k A (mulF l B C) := by
  funext i j
  show sumN l (fun x => sumN k (fun y => A i y * B y x) * C x j) = sumN k (fun y => A i y * sumN l (fun x => B y x * C x j))
  rw [show sumN l (fun x => sumN k (fun y => A i y * B y x) * C x j) = sumN l (fun x => sumN k (fun y => A i y * B y x * C x j)) from sumN_congr fun x _ => (sumN_mulr k (C x j) fun y => A i y * B y x).symm,
    show sumN k (fun y => A i y * sumN l (fun x => B y x * C x j)) = sumN k (fun y => sumN l (fun x => A i y * B y x * C x j)) from sumN_congr fun y _ => by rw [← sumN_mul l (A i y) fun x => B y x * C x j]; exact sumN_congr fun x _ => (Int.mul_assoc _ _ _).symm]
  exact sumN_comm l k fun x y => A i y * B y x * C x j
theorem trF_comm (n k : Nat) (A B : MF) : trF n (mulF k A B) = trF k (mulF n B A) := by
  show sumN n (fun i => sumN k (fun x => A i x * B x i)) = sumN k (fun x => sumN n (fun i => B x i * A i x))
  rw [sumN_comm n k fun i x => A i x * B x i]
  exact sumN_congr fun x _ => sumN_congr fun i _ => Int.mul_comm _ _
/-- Equal where it counts. -/
def EqF (n k : Nat) (A B : MF) : Prop := ∀ i j, i < n → j < k → A i j = B i j
theorem EqF.mul {n k m : Nat} {A A' B B' : MF} (h1 : EqF n k A A') (h2 : EqF k m B B') : EqF n m (mulF k A B) (mulF k A' B') := fun i j hi hj => sumN_congr fun x hx => by rw [h1 i x hi hx, h2 x j hx hj]
theorem EqF.tr {n : Nat} {A B : MF} (h : EqF n n A B) : trF n A = trF n B := sumN_congr fun i hi => h i i hi hi
theorem EqF.refl (n k : Nat) (A : MF) : EqF n k A A := fun _ _ _ _ => rfl
theorem EqF.symm {n k : Nat} {A B : MF} (h : EqF n k A B) : EqF n k B A := fun i j hi hj => (h i j hi hj).symm
theorem EqF.trans {n k : Nat} {A B C : MF} (h : EqF n k A B) (g : EqF n k B C) : EqF n k A C := fun i j hi hj => (h i j hi hj).trans (g i j hi hj)
/-- Powers; the power 0 is the unit. -/
def powF (n : Nat) (A : MF) : Nat → MF
  | 0 => fun i j => if i = j then 1 else 0
  | m + 1 => mulF n (powF n A m) A
theorem mulF_one {n k : Nat} (A : MF) : EqF n k (mulF k A fun i j => if i = j then 1 else 0) A := fun i j _ hj => by
  show sumN k (fun x => A i x * if x = j then 1 else 0) = A i j
  rw [← sumN_one hj fun _ => A i j]
  refine sumN_congr fun x _ => ?_
  by_cases e : x = j
  · rw [if_pos e, if_pos e.symm, e, Int.mul_one]
  · rw [if_neg e, if_neg fun h => e h.symm, Int.mul_zero]
theorem one_mulF {n k : Nat} (A : MF) : EqF n k (mulF n (fun i j => if i = j then 1 else 0) A) A := fun i j hi _ => by
  show sumN n (fun x => (if i = x then 1 else 0) * A x j) = A i j
  rw [← sumN_one hi fun x => A x j]
  refine sumN_congr fun x _ => ?_
  by_cases e : i = x
  · rw [if_pos e, if_pos e, Int.one_mul]
  · rw [if_neg e, if_neg e, Int.zero_mul]
theorem powF_add {n : Nat} (A : MF) (a : Nat) : ∀ b, EqF n n (powF n A (a + b)) (mulF n (powF n A a) (powF n A b))
  | 0 => (mulF_one _).symm
  | b + 1 => by
    show EqF n n (mulF n (powF n A (a + b)) A) (mulF n (powF n A a) (mulF n (powF n A b) A))
    rw [← mulF_assoc]
    exact (powF_add A a b).mul (EqF.refl _ _ _)
/-- A R = R B gives A^m R = R B^m. -/
theorem pow_inter {n k : Nat} {A R B : MF} (h : EqF n k (mulF n A R) (mulF k R B)) : ∀ m, EqF n k (mulF n (powF n A m) R) (mulF k R (powF k B m))
  | 0 => (one_mulF R).trans (mulF_one R).symm
  | m + 1 => by
    show EqF n k (mulF n (mulF n (powF n A m) A) R) (mulF k R (mulF k (powF k B m) B))
    have e1 : mulF n (mulF n (powF n A m) A) R = mulF n (powF n A m) (mulF n A R) := mulF_assoc _ _ _ _ _
    have e2 : mulF k R (mulF k (powF k B m) B) = mulF k (mulF k R (powF k B m)) B := (mulF_assoc _ _ _ _ _).symm
    have e3 : mulF n (powF n A m) (mulF k R B) = mulF k (mulF n (powF n A m) R) B := (mulF_assoc _ _ _ _ _).symm
    rw [e1, e2]
    refine ((EqF.refl n n _).mul h).trans ?_
    rw [e3]
    exact (pow_inter h m).mul (EqF.refl _ _ _)
/-- A lag keeps the traces of powers from its length on. -/
theorem lag_tr {n k l : Nat} {A B R S : MF} (h1 : EqF n k (mulF n A R) (mulF k R B)) (hA : EqF n n (powF n A l) (mulF k R S)) (hB : EqF k k (powF k B l) (mulF n S R)) (m : Nat) :
    trF n (powF n A (m + l)) = trF k (powF k B (m + l)) := by
  rw [(powF_add A m l).tr, (powF_add B m l).tr]
  have e1 : trF n (mulF n (powF n A m) (powF n A l)) = trF n (mulF k (mulF n (powF n A m) R) S) := by
    rw [mulF_assoc]
    exact ((EqF.refl n n _).mul hA).tr
  have e2 : trF n (mulF k (mulF n (powF n A m) R) S) = trF n (mulF k (mulF k R (powF k B m)) S) := ((pow_inter h1 m).mul (EqF.refl k n S)).tr
  have e3 : trF n (mulF k (mulF k R (powF k B m)) S) = trF k (mulF k (powF k B m) (mulF n S R)) := by
    rw [mulF_assoc, trF_comm, mulF_assoc]
  have e4 : trF k (mulF k (powF k B m) (mulF n S R)) = trF k (mulF k (powF k B m) (powF k B l)) := ((EqF.refl k k _).mul hB.symm).tr
  rw [e1, e2, e3, e4]
end Go.Sd
end

section
/-
  Series of integers: products; power sums that agree from some place on belong to one polynomial.
-/
namespace Go.Sd
/-- The product of two series. -/
def conv (f g : Nat → Int) : Nat → Int := fun m => sumN (m + 1) fun i => f i * g (m - i)
theorem conv_comm (f g : Nat → Int) : conv f g = conv g f := by
  funext m
  have h : Inv (m + 1) (fun i => m - i) (fun i => m - i) := ⟨fun i hi => ⟨by show m - i < m + 1; omega, by show m - (m - i) = i; omega⟩, fun i hi => ⟨by show m - i < m + 1; omega, by show m - (m - i) = i; omega⟩⟩
  show sumN (m + 1) (fun i => f i * g (m - i)) = sumN (m + 1) (fun i => g i * f (m - i))
  rw [← sumN_perm h fun i => g i * f (m - i)]
  exact sumN_congr fun i hi => by
    show f i * g (m - i) = g (m - i) * f (m - (m - i))
    rw [show m - (m - i) = i by omega, Int.mul_comm]
theorem sumN_shift (i : Nat) (F : Nat → Int) : ∀ K, sumN (i + K) (fun x => if i ≤ x then F (x - i) else 0) = sumN K F
  | 0 => sumN_zero fun x hx => if_neg (by omega)
  | K + 1 => by
    show sumN (i + K) (fun x => if i ≤ x then F (x - i) else 0) + (if i ≤ i + K then F (i + K - i) else 0) = _
    rw [sumN_shift i F K, sumN, if_pos (by omega), show i + K - i = K by omega]
theorem conv_assoc (f g h : Nat → Int) : conv (conv f g) h = conv f (conv g h) := by
  funext m
  show sumN (m + 1) (fun x => sumN (x + 1) (fun i => f i * g (x - i)) * h (m - x)) = sumN (m + 1) (fun i => f i * sumN (m - i + 1) (fun y => g y * h (m - i - y)))
  have e1 : ∀ x, x < m + 1 → sumN (x + 1) (fun i => f i * g (x - i)) * h (m - x) = sumN (m + 1) (fun i => if i ≤ x then f i * (g (x - i) * h (m - x)) else 0) := fun x hx => by
    rw [← sumN_mulr]
    have h2 : ∀ K, sumN (x + 1 + K) (fun i => if i ≤ x then f i * (g (x - i) * h (m - x)) else 0) = sumN (x + 1) (fun i => f i * g (x - i) * h (m - x)) := by
      intro K
      induction K with
      | zero => exact sumN_congr fun i hi => by rw [if_pos (by omega), Int.mul_assoc]
      | succ K ih =>
        show sumN (x + 1 + K) (fun i => if i ≤ x then f i * (g (x - i) * h (m - x)) else 0) + (if x + 1 + K ≤ x then f (x + 1 + K) * (g (x - (x + 1 + K)) * h (m - x)) else 0) = _
        rw [ih, if_neg (by omega), Int.add_zero]
    have h3 := h2 (m - x)
    rw [show x + 1 + (m - x) = m + 1 by omega] at h3
    exact h3.symm
  rw [sumN_congr e1, sumN_comm (m + 1) (m + 1) fun x i => if i ≤ x then f i * (g (x - i) * h (m - x)) else 0]
  refine sumN_congr fun i hi => ?_
  have h4 := sumN_shift i (fun y => g y * h (m - i - y)) (m - i + 1)
  rw [show i + (m - i + 1) = m + 1 by omega] at h4
  rw [← h4, ← sumN_mul]
  refine sumN_congr fun x hx => ?_
  by_cases e : i ≤ x
  · rw [if_pos e, if_pos e, show m - i - (x - i) = m - x by omega]
  · rw [if_neg e, if_neg e, Int.mul_zero]
/-- t times the derivative. -/
def der (f : Nat → Int) : Nat → Int := fun m => m * f m
/-- The greatest place that is not nought. -/
theorem top_of {f : Nat → Int} : ∀ {n : Nat}, (∀ m, n < m → f m = 0) → (∀ m, f m = 0) ∨ ∃ a, a ≤ n ∧ f a ≠ 0 ∧ ∀ m, a < m → f m = 0
  | 0, h => by
    by_cases e : f 0 = 0
    · exact Or.inl fun m => by cases m with
        | zero => exact e
        | succ m => exact h _ (by omega)
    · exact Or.inr ⟨0, Nat.le_refl _, e, h⟩
  | n + 1, h => by
    by_cases e : f (n + 1) = 0
    · rcases top_of (n := n) fun m hm => by
        by_cases e2 : m = n + 1
        · rw [e2]; exact e
        · exact h m (by omega) with h1 | ⟨a, h1, h2⟩
      · exact Or.inl h1
      · exact Or.inr ⟨a, by omega, h2⟩
    · exact Or.inr ⟨n + 1, Nat.le_refl _, e, h⟩
theorem conv_top {f g : Nat → Int} {a b : Nat} (ha : ∀ m, a < m → f m = 0) (hb : ∀ m, b < m → g m = 0) : conv f g (a + b) = f a * g b ∧ ∀ m, a + b < m → conv f g m = 0 := by
  constructor
  · show sumN (a + b + 1) (fun i => f i * g (a + b - i)) = _
    rw [show f a * g b = f a * g (a + b - a) by rw [show a + b - a = b by omega], ← sumN_one (show a < a + b + 1 by omega) fun i => f i * g (a + b - i)]
    refine sumN_congr fun i hi => ?_
    by_cases e : a = i
    · rw [if_pos e]
    · rw [if_neg e]
      rcases Nat.lt_or_ge a i with h | h
      · rw [ha i h, Int.zero_mul]
      · rw [hb _ (by omega), Int.mul_zero]
  · intro m hm
    refine sumN_zero fun i hi => ?_
    rcases Nat.lt_or_ge a i with h | h
    · rw [ha i h, Int.zero_mul]
    · rw [hb _ (by omega), Int.mul_zero]
end Go.Sd
end

section
/-
  Two polynomials with constant term 1 whose power sums agree from some place on are the same.
-/
namespace Go.Sd
theorem conv_sub (f g h : Nat → Int) (m : Nat) : conv f (fun x => g x - h x) m = conv f g m - conv f h m := by
  show sumN (m + 1) (fun i => f i * (g (m - i) - h (m - i))) = _
  rw [sumN_congr (g := fun i => f i * g (m - i) - f i * h (m - i)) fun i _ => Int.mul_sub _ _ _]
  exact sumN_sub (m + 1) (fun i => f i * g (m - i)) fun i => f i * h (m - i)
theorem conv_neg (f g : Nat → Int) (m : Nat) : conv f (fun x => -g x) m = -conv f g m := by
  have h := conv_sub f (fun _ => 0) g m
  have h0 : conv f (fun _ => 0) m = 0 := sumN_zero fun i _ => Int.mul_zero _
  rw [h0] at h
  rw [show (fun x => -g x) = (fun x => 0 - g x) from funext fun x => by omega, h]
  omega
theorem newton_unique {P Q p q : Nat → Int} {n k l : Nat} (hP0 : P 0 = 1) (hQ0 : Q 0 = 1) (hP : ∀ m, n < m → P m = 0) (hQ : ∀ m, k < m → Q m = 0) (hNP : ∀ m, der P m + conv P p m = 0) (hNQ : ∀ m, der Q m + conv Q q m = 0)
    (p0 : p 0 = 0) (q0 : q 0 = 0) (hl : ∀ m, l < m → p m = q m) : ∀ m, P m = Q m := by
  have hpq : ∀ m, p m = q m := by
    rcases top_of (f := fun m => p m - q m) (n := l) (fun m hm => by show p m - q m = 0; rw [hl m hm]; omega) with h | ⟨d, hd1, hd2, hd3⟩
    · intro m
      have := h m
      omega
    · exfalso
      have hd0 : d ≠ 0 := fun e => hd2 (by rw [e]; show p 0 - q 0 = 0; omega)
      rcases top_of hP with h | ⟨a, ha1, ha2, ha3⟩
      · have := h 0; omega
      rcases top_of hQ with h | ⟨b, hb1, hb2, hb3⟩
      · have := h 0; omega
      have hD1 : der P = fun m => -conv P p m := funext fun m => by have := hNP m; omega
      have hD2 : der Q = fun m => -conv Q q m := funext fun m => by have := hNQ m; omega
      have e1 : conv Q (der P) (a + b + d) = -conv (conv P Q) p (a + b + d) := by
        rw [hD1, conv_neg, show conv Q (fun m => conv P p m) = conv Q (conv P p) from rfl, ← conv_assoc, conv_comm Q P]
      have e2 : conv P (der Q) (a + b + d) = -conv (conv P Q) q (a + b + d) := by
        rw [hD2, conv_neg, show conv P (fun m => conv Q q m) = conv P (conv Q q) from rfl, ← conv_assoc]
      have e3 : conv Q (der P) (a + b + d) = 0 := (conv_top hb3 (a := b) (b := a) (g := der P) fun m hm => by show (m : Int) * P m = 0; rw [ha3 m hm, Int.mul_zero]).2 _ (by omega)
      have e4 : conv P (der Q) (a + b + d) = 0 := (conv_top ha3 (a := a) (b := b) (g := der Q) fun m hm => by show (m : Int) * Q m = 0; rw [hb3 m hm, Int.mul_zero]).2 _ (by omega)
      have hPQ := conv_top ha3 hb3
      have e5 := (conv_top (f := conv P Q) (g := fun m => p m - q m) hPQ.2 hd3).1
      rw [conv_sub, hPQ.1] at e5
      have e6 : P a * Q b * (p d - q d) = 0 := by
        have : (fun m => p m - q m) d = p d - q d := rfl
        omega
      rcases Int.mul_eq_zero.1 e6 with h | h
      · rcases Int.mul_eq_zero.1 h with h | h
        · exact ha2 h
        · exact hb2 h
      · exact hd2 h
  have hp : p = q := funext hpq
  subst hp
  intro m
  induction m using Nat.strongRecOn with
  | ind m ih =>
    cases m with
    | zero => rw [hP0, hQ0]
    | succ m =>
      have h1 := hNP (m + 1)
      have h2 := hNQ (m + 1)
      have e1 : conv P p (m + 1) = conv Q p (m + 1) := by
        show sumN (m + 1 + 1) (fun i => P i * p (m + 1 - i)) = sumN (m + 1 + 1) (fun i => Q i * p (m + 1 - i))
        refine sumN_congr fun i hi => ?_
        by_cases e : i = m + 1
        · rw [e, Nat.sub_self, p0, Int.mul_zero, Int.mul_zero]
        · rw [ih i (by omega)]
      have h3 : ((m + 1 : Nat) : Int) * P (m + 1) = ((m + 1 : Nat) : Int) * Q (m + 1) := by
        have a1 : der P (m + 1) = ((m + 1 : Nat) : Int) * P (m + 1) := rfl
        have a2 : der Q (m + 1) = ((m + 1 : Nat) : Int) * Q (m + 1) := rfl
        omega
      exact Int.eq_of_mul_eq_mul_left (by omega) h3
end Go.Sd
end

section
/-
  Newton's identities for four rows, and the traces of the greater powers (Cayley and Hamilton).
-/
namespace Go.Sd
/-- A minor of three rows and three columns. -/
def M3 (A : MF) (i j k a b c : Nat) : Int := A i a * (A j b * A k c - A j c * A k b) - A i b * (A j a * A k c - A j c * A k a) + A i c * (A j a * A k b - A j b * A k a)
def D2 (A : MF) (i j : Nat) : Int := A i i * A j j - A i j * A j i
def D4 (A : MF) : Int := A 0 0 * M3 A 1 2 3 1 2 3 - A 0 1 * M3 A 1 2 3 0 2 3 + A 0 2 * M3 A 1 2 3 0 1 3 - A 0 3 * M3 A 1 2 3 0 1 2
/-- The coefficients of the turned polynomial of four rows. -/
def cfs (A : MF) : Nat → Int
  | 0 => 1
  | 1 => -(A 0 0 + A 1 1 + A 2 2 + A 3 3)
  | 2 => D2 A 0 1 + D2 A 0 2 + D2 A 0 3 + D2 A 1 2 + D2 A 1 3 + D2 A 2 3
  | 3 => -(M3 A 0 1 2 0 1 2 + M3 A 0 1 3 0 1 3 + M3 A 0 2 3 0 2 3 + M3 A 1 2 3 1 2 3)
  | 4 => D4 A
  | _ => 0
/-- The power sums. -/
def pws (A : MF) (m : Nat) : Int := if m = 0 then 0 else trF 4 (powF 4 A m)
theorem mul4 (A B : MF) (i j : Nat) : mulF 4 A B i j = A i 0 * B 0 j + A i 1 * B 1 j + A i 2 * B 2 j + A i 3 * B 3 j := by
  simp only [mulF, sumN]; omega
theorem tr4 (A : MF) : trF 4 A = A 0 0 + A 1 1 + A 2 2 + A 3 3 := by
  simp only [trF, sumN]; omega
theorem pow1 (A : MF) : EqF 4 4 (powF 4 A 1) A := one_mulF A
set_option maxRecDepth 100000 in
set_option maxHeartbeats 0 in
theorem newt2 (A : MF) : 2 * cfs A 2 + trF 4 (mulF 4 A A) + cfs A 1 * trF 4 A = 0 := by
  simp only [cfs, D2, tr4, mul4]
  grind
set_option maxRecDepth 100000 in
set_option maxHeartbeats 0 in
theorem newt3 (A : MF) : 3 * cfs A 3 + trF 4 (mulF 4 (mulF 4 A A) A) + cfs A 1 * trF 4 (mulF 4 A A) + cfs A 2 * trF 4 A = 0 := by
  simp only [cfs, D2, M3, tr4, mul4]
  grind
/-- The third step by Horner: the adjoint, turned in its sign. -/
def hor (A : MF) : MF := fun i j => mulF 4 (mulF 4 A A) A i j + cfs A 1 * mulF 4 A A i j + cfs A 2 * A i j + if i = j then cfs A 3 else 0
def adj4 (A : MF) : MF
  | 0, 0 => M3 A 1 2 3 1 2 3
  | 0, 1 => -(M3 A 0 2 3 1 2 3)
  | 0, 2 => M3 A 0 1 3 1 2 3
  | 0, 3 => -(M3 A 0 1 2 1 2 3)
  | 1, 0 => -(M3 A 1 2 3 0 2 3)
  | 1, 1 => M3 A 0 2 3 0 2 3
  | 1, 2 => -(M3 A 0 1 3 0 2 3)
  | 1, 3 => M3 A 0 1 2 0 2 3
  | 2, 0 => M3 A 1 2 3 0 1 3
  | 2, 1 => -(M3 A 0 2 3 0 1 3)
  | 2, 2 => M3 A 0 1 3 0 1 3
  | 2, 3 => -(M3 A 0 1 2 0 1 3)
  | 3, 0 => -(M3 A 1 2 3 0 1 2)
  | 3, 1 => M3 A 0 2 3 0 1 2
  | 3, 2 => -(M3 A 0 1 3 0 1 2)
  | 3, 3 => M3 A 0 1 2 0 1 2
  | _, _ => 0
theorem four {P : Nat → Prop} (h0 : P 0) (h1 : P 1) (h2 : P 2) (h3 : P 3) : ∀ i, i < 4 → P i
  | 0, _ => h0
  | 1, _ => h1
  | 2, _ => h2
  | 3, _ => h3
  | _ + 4, h => absurd h (by omega)
set_option maxRecDepth 100000 in
set_option maxHeartbeats 0 in
theorem hor_adj (A : MF) : EqF 4 4 (hor A) (fun i j => -(adj4 A i j)) := by
  refine fun i j hi hj => four (P := fun i => hor A i j = -(adj4 A i j)) (four (P := fun j => hor A 0 j = -(adj4 A 0 j)) ?_ ?_ ?_ ?_ j hj) (four (P := fun j => hor A 1 j = -(adj4 A 1 j)) ?_ ?_ ?_ ?_ j hj) (four (P := fun j => hor A 2 j = -(adj4 A 2 j)) ?_ ?_ ?_ ?_ j hj) (four (P := fun j => hor A 3 j = -(adj4 A 3 j)) ?_ ?_ ?_ ?_ j hj) i hi
  all_goals (simp [hor, adj4, cfs, D2, M3, mul4]; try grind)
set_option maxRecDepth 100000 in
set_option maxHeartbeats 0 in
theorem adj_det (A : MF) : EqF 4 4 (mulF 4 (adj4 A) A) (fun i j => if i = j then D4 A else 0) := by
  refine fun i j hi hj => four (P := fun i => mulF 4 (adj4 A) A i j = if i = j then D4 A else 0) (four (P := fun j => mulF 4 (adj4 A) A 0 j = if 0 = j then D4 A else 0) ?_ ?_ ?_ ?_ j hj) (four (P := fun j => mulF 4 (adj4 A) A 1 j = if 1 = j then D4 A else 0) ?_ ?_ ?_ ?_ j hj) (four (P := fun j => mulF 4 (adj4 A) A 2 j = if 2 = j then D4 A else 0) ?_ ?_ ?_ ?_ j hj) (four (P := fun j => mulF 4 (adj4 A) A 3 j = if 3 = j then D4 A else 0) ?_ ?_ ?_ ?_ j hj) i hi
  all_goals (simp [adj4, D4, M3, mul4]; try grind)
/-- Cayley and Hamilton. -/
theorem cay (A : MF) (i j : Nat) (hi : i < 4) (hj : j < 4) : powF 4 A 4 i j + cfs A 1 * powF 4 A 3 i j + cfs A 2 * powF 4 A 2 i j + cfs A 3 * powF 4 A 1 i j + cfs A 4 * powF 4 A 0 i j = 0 := by
  have e1 : EqF 4 4 (powF 4 A 1) A := one_mulF A
  have e2 : EqF 4 4 (powF 4 A 2) (mulF 4 A A) := e1.mul (EqF.refl _ _ _)
  have e3 : EqF 4 4 (powF 4 A 3) (mulF 4 (mulF 4 A A) A) := e2.mul (EqF.refl _ _ _)
  have h1 : EqF 4 4 (mulF 4 (hor A) A) (mulF 4 (fun i j => -(adj4 A i j)) A) := (hor_adj A).mul (EqF.refl _ _ _)
  have h2 : mulF 4 (adj4 A) A i j = if i = j then D4 A else 0 := adj_det A i j hi hj
  have h3 := h1 i j hi hj
  rw [mul4] at h2
  rw [mul4 (fun i j => -(adj4 A i j))] at h3
  have h4 : mulF 4 (hor A) A i j = powF 4 A 4 i j + cfs A 1 * powF 4 A 3 i j + cfs A 2 * powF 4 A 2 i j + cfs A 3 * powF 4 A 1 i j := by
    show _ = mulF 4 (powF 4 A 3) A i j + cfs A 1 * mulF 4 (powF 4 A 2) A i j + _ + _
    rw [e2 i j hi hj, e1 i j hi hj, ((e3.mul (EqF.refl 4 4 A)) i j hi hj), ((e2.mul (EqF.refl 4 4 A)) i j hi hj)]
    have hI : EqF 4 4 (mulF 4 (fun i j => if i = j then (1 : Int) else 0) A) A := one_mulF A
    have h5 := hI i j hi hj
    simp only [hor, mul4] at h5 ⊢
    grind
  have h6 : cfs A 4 * powF 4 A 0 i j = if i = j then D4 A else 0 := by
    show D4 A * (if i = j then 1 else 0) = _
    by_cases e : i = j
    · rw [if_pos e, if_pos e, Int.mul_one]
    · rw [if_neg e, if_neg e, Int.mul_zero]
  rw [h6, ← h2, ← h4, h3]
  grind
/-- The traces of the greater powers. -/
theorem tr_rec (A : MF) (m : Nat) : trF 4 (powF 4 A (m + 4)) + cfs A 1 * trF 4 (powF 4 A (m + 3)) + cfs A 2 * trF 4 (powF 4 A (m + 2)) + cfs A 3 * trF 4 (powF 4 A (m + 1)) + cfs A 4 * trF 4 (powF 4 A m) = 0 := by
  have h : ∀ k, trF 4 (powF 4 A (m + k)) = sumN 4 fun i => sumN 4 fun x => powF 4 A m i x * powF 4 A k x i := fun k => (powF_add A m k).tr
  rw [h 4, h 3, h 2, h 1]
  have h0 := h 0
  rw [Nat.add_zero] at h0
  rw [h0]
  have key : ∀ (a b c d : Int) (F0 F1 F2 F3 F4 : Nat → Nat → Int), (∀ i x, i < 4 → x < 4 → F4 i x + a * F3 i x + b * F2 i x + c * F1 i x + d * F0 i x = 0) →
      (sumN 4 fun i => sumN 4 fun x => F4 i x) + a * (sumN 4 fun i => sumN 4 fun x => F3 i x) + b * (sumN 4 fun i => sumN 4 fun x => F2 i x) + c * (sumN 4 fun i => sumN 4 fun x => F1 i x) + d * (sumN 4 fun i => sumN 4 fun x => F0 i x) = 0 := by
    intro a b c d F0 F1 F2 F3 F4 hF
    have lin : ∀ (n : Nat) (G0 G1 G2 G3 G4 : Nat → Int), sumN n G4 + a * sumN n G3 + b * sumN n G2 + c * sumN n G1 + d * sumN n G0 = sumN n fun i => G4 i + a * G3 i + b * G2 i + c * G1 i + d * G0 i := by
      intro n G0 G1 G2 G3 G4
      rw [← sumN_mul, ← sumN_mul, ← sumN_mul, ← sumN_mul, ← sumN_add, ← sumN_add, ← sumN_add, ← sumN_add]
    rw [lin]
    refine sumN_zero fun i hi => ?_
    rw [lin]
    exact sumN_zero fun x hx => hF i x hi hx
  refine key _ _ _ _ (fun i x => powF 4 A m i x * powF 4 A 0 x i) (fun i x => powF 4 A m i x * powF 4 A 1 x i) (fun i x => powF 4 A m i x * powF 4 A 2 x i) (fun i x => powF 4 A m i x * powF 4 A 3 x i) (fun i x => powF 4 A m i x * powF 4 A 4 x i) fun i x hi hx => ?_
  have hc := cay A x i hx hi
  have : powF 4 A m i x * (powF 4 A 4 x i + cfs A 1 * powF 4 A 3 x i + cfs A 2 * powF 4 A 2 x i + cfs A 3 * powF 4 A 1 x i + cfs A 4 * powF 4 A 0 x i) = 0 := by rw [hc, Int.mul_zero]
  grind
/-- Newton's identities, all of them. -/
theorem newt4 (A : MF) : 4 * cfs A 4 + trF 4 (powF 4 A 4) + cfs A 1 * trF 4 (powF 4 A 3) + cfs A 2 * trF 4 (powF 4 A 2) + cfs A 3 * trF 4 (powF 4 A 1) = 0 := by
  have h := tr_rec A 0
  simp only [Nat.zero_add] at h
  have e : trF 4 (powF 4 A 0) = 4 := by rw [tr4]; rfl
  rw [e] at h
  omega
theorem newt_all (A : MF) (m : Nat) : der (cfs A) m + conv (cfs A) (pws A) m = 0 := by
  have e1 : EqF 4 4 (powF 4 A 1) A := one_mulF A
  have e2 : EqF 4 4 (powF 4 A 2) (mulF 4 A A) := e1.mul (EqF.refl _ _ _)
  have e3 : EqF 4 4 (powF 4 A 3) (mulF 4 (mulF 4 A A) A) := e2.mul (EqF.refl _ _ _)
  have p0 : pws A 0 = 0 := rfl
  have c0 : cfs A 0 = 1 := rfl
  have hp : ∀ k, k ≠ 0 → pws A k = trF 4 (powF 4 A k) := fun k hk => if_neg hk
  match m with
  | 0 => show (0 : Int) * cfs A 0 + sumN 1 _ = 0; simp [sumN, p0]
  | 1 =>
    have h1 := e1.tr
    rw [tr4 A] at h1
    show (1 : Int) * cfs A 1 + sumN 2 (fun i => cfs A i * pws A (1 - i)) = 0
    simp only [sumN, Nat.sub_zero, Nat.sub_self, p0, c0]
    rw [hp 1 (by omega), h1]
    simp only [cfs]
    omega
  | 2 =>
    have h := newt2 A
    rw [← e2.tr, ← e1.tr] at h
    show (2 : Int) * cfs A 2 + sumN 3 (fun i => cfs A i * pws A (2 - i)) = 0
    simp only [sumN, Nat.sub_zero, Nat.sub_self, Nat.reduceSub, p0, c0]
    rw [hp 1 (by omega), hp 2 (by omega)]
    omega
  | 3 =>
    have h := newt3 A
    rw [← e3.tr, ← e2.tr, ← e1.tr] at h
    show (3 : Int) * cfs A 3 + sumN 4 (fun i => cfs A i * pws A (3 - i)) = 0
    simp only [sumN, Nat.sub_zero, Nat.sub_self, Nat.reduceSub, p0, c0]
    rw [hp 1 (by omega), hp 2 (by omega), hp 3 (by omega)]
    omega
  | 4 =>
    have h := newt4 A
    show (4 : Int) * cfs A 4 + sumN 5 (fun i => cfs A i * pws A (4 - i)) = 0
    simp only [sumN, Nat.sub_zero, Nat.sub_self, Nat.reduceSub, p0, c0]
    rw [hp 1 (by omega), hp 2 (by omega), hp 3 (by omega), hp 4 (by omega)]
    omega
  | m + 5 =>
    have h := tr_rec A (m + 1)
    have hz : ∀ i, cfs A (i + 5) = 0 := fun i => rfl
    have hs : ∀ K, sumN (K + 5) (fun i => cfs A i * pws A (m + 5 - i)) = sumN 5 (fun i => cfs A i * pws A (m + 5 - i)) := by
      intro K
      induction K with
      | zero => rw [Nat.zero_add]
      | succ K ih =>
        rw [show K + 1 + 5 = (K + 5) + 1 by omega, sumN, ih, hz, Int.zero_mul, Int.add_zero]
    show ((m + 5 : Nat) : Int) * cfs A (m + 5) + sumN (m + 5 + 1) (fun i => cfs A i * pws A (m + 5 - i)) = 0
    rw [hz, Int.mul_zero, show m + 5 + 1 = (m + 1) + 5 by omega, hs]
    simp only [sumN, Nat.sub_zero, c0]
    rw [hp (m + 5) (by omega), hp (m + 5 - 1) (by omega), hp (m + 5 - 2) (by omega), hp (m + 5 - 3) (by omega), hp (m + 5 - 4) (by omega)]
    rw [show m + 5 - 1 = m + 4 by omega, show m + 5 - 2 = m + 3 by omega, show m + 5 - 3 = m + 2 by omega, show m + 5 - 4 = m + 1 by omega]
    rw [show m + 1 + 4 = m + 5 by omega, show m + 1 + 3 = m + 4 by omega, show m + 1 + 2 = m + 3 by omega, show m + 1 + 1 = m + 2 by omega] at h
    omega
/-- Two matrices of at most four rows whose greater powers have the same traces have the same coefficients. -/
theorem cfs_same {A B : MF} {l : Nat} (h : ∀ m, l < m → trF 4 (powF 4 A m) = trF 4 (powF 4 B m)) : ∀ m, cfs A m = cfs B m := by
  have hz : ∀ (A : MF) m, 4 < m → cfs A m = 0 := fun A m hm => by
    obtain ⟨k, rfl⟩ : ∃ k, m = k + 5 := ⟨m - 5, by omega⟩
    rfl
  exact newton_unique (n := 4) (k := 4) (l := l) rfl rfl (hz A) (hz B) (newt_all A) (newt_all B) rfl rfl fun m hm => by
    unfold pws
    by_cases e : m = 0
    · rw [if_pos e, if_pos e]
    · rw [if_neg e, if_neg e, h m hm]
end Go.Sd
end

section
/-
  The turned polynomial of a small matrix by the coefficients of four rows; equal traces of greater powers give equal turned polynomials.
-/
namespace Go.Sd
/-- A matrix of n rows, filled up with zeros. -/
def padF (n : Nat) (A : MF) : MF := fun i j => if i < n ∧ j < n then A i j else 0
theorem sumN_long {n N : Nat} (h : n ≤ N) {f : Nat → Int} (hz : ∀ i, n ≤ i → i < N → f i = 0) : sumN N f = sumN n f := by
  induction N with
  | zero => rw [show n = 0 by omega]
  | succ N ih =>
    by_cases e : n = N + 1
    · rw [e]
    · rw [sumN, hz N (by omega) (by omega), ih (by omega) fun i h1 h2 => hz i h1 (by omega), Int.add_zero]
theorem pow_pad {n N : Nat} (h : n ≤ N) (A : MF) : ∀ m, ∀ i j, i < N → powF N (padF n A) (m + 1) i j = if i < n ∧ j < n then powF n A (m + 1) i j else 0
  | 0, i, j, hi => by
    have h1 : powF N (padF n A) 1 i j = padF n A i j := one_mulF (n := N) (k := j + 1) (padF n A) i j hi (by omega)
    show powF N (padF n A) 1 i j = if i < n ∧ j < n then powF n A 1 i j else 0
    rw [h1]
    unfold padF
    by_cases e : i < n ∧ j < n
    · rw [if_pos e, if_pos e]
      exact (one_mulF (n := n) (k := n) A i j e.1 e.2).symm
    · rw [if_neg e, if_neg e]
  | m + 1, i, j, hi => by
    show sumN N (fun x => powF N (padF n A) (m + 1) i x * padF n A x j) = if i < n ∧ j < n then sumN n (fun x => powF n A (m + 1) i x * A x j) else 0
    have e1 : ∀ x, x < N → powF N (padF n A) (m + 1) i x * padF n A x j = (if i < n ∧ x < n then powF n A (m + 1) i x else 0) * padF n A x j := fun x _ => by rw [pow_pad h A m i x hi]
    rw [sumN_congr e1, sumN_long h fun x hx _ => by rw [if_neg (by omega), Int.zero_mul]]
    by_cases e : i < n ∧ j < n
    · rw [if_pos e]
      refine sumN_congr fun x hx => ?_
      unfold padF
      rw [if_pos ⟨e.1, hx⟩, if_pos ⟨hx, e.2⟩]
    · rw [if_neg e]
      refine sumN_zero fun x hx => ?_
      unfold padF
      by_cases e2 : i < n
      · rw [if_neg (c := x < n ∧ j < n) (by omega), Int.mul_zero]
      · rw [if_neg (c := i < n ∧ x < n) (by omega), Int.zero_mul]
theorem tr_pad {n N : Nat} (h : n ≤ N) (A : MF) (m : Nat) : trF N (powF N (padF n A) (m + 1)) = trF n (powF n A (m + 1)) := by
  show sumN N (fun i => powF N (padF n A) (m + 1) i i) = sumN n (fun i => powF n A (m + 1) i i)
  have e1 : ∀ i, i < N → powF N (padF n A) (m + 1) i i = if i < n ∧ i < n then powF n A (m + 1) i i else 0 := fun i hi => pow_pad h A m i i hi
  rw [sumN_congr e1, sumN_long h fun i hi _ => by rw [if_neg (by omega)]]
  exact sumN_congr fun i hi => by rw [if_pos ⟨hi, hi⟩]
end Go.Sd
namespace Go.Proofs.YtlkgkfgpnnahdaaGreat
open Go.RowKit Go.Deep Go.Sd
/-- A determinant by its entries. -/
def dF : Nat → MF → Int
  | 0, _ => 1
  | g + 1, A => sumN (g + 1) fun j => sgn j * A 0 j * dF g (fun a b => A (a + 1) (skip j b))
theorem dF_congr : ∀ {g : Nat} {A B : MF}, EqF g g A B → dF g A = dF g B
  | 0, _, _, _ => rfl
  | g + 1, A, B, h => sumN_congr fun j hj => by
    rw [h 0 j (by omega) hj, dF_congr (g := g) (A := fun a b => A (a + 1) (skip j b)) (B := fun a b => B (a + 1) (skip j b)) fun a b ha hb => h _ _ (by omega) (skip_lt (n := g + 1) (by omega))]
theorem detSum_sum (t : List (List Int)) (f : Nat → Int) : ∀ n, detSum t f n = sumN n fun j => sgn j * ent t 0 j * f j
  | 0 => rfl
  | n + 1 => by
    unfold detSum
    rw [sumN, detSum_sum t f n]
    by_cases h : ent t 0 n ≠ 0
    · rw [if_pos h]
    · have h0 : ent t 0 n = 0 := Classical.not_not.1 h
      rw [if_neg h, h0, Int.mul_zero, Int.zero_mul, Int.add_zero]
theorem detR_dF : ∀ (g : Nat) (t : List (List Int)), detR g t = dF g (ent t)
  | 0, _ => rfl
  | g + 1, t => by
    unfold detR dF
    rw [detSum_sum]
    refine sumN_congr fun j hj => ?_
    rw [detR_dF g]
    congr 1
    refine dF_congr fun a b ha hb => ?_
    show ent (tabOf (g + 1 - 1) (g + 1 - 1) fun k l => ent t (skip 0 k) (skip j l)) a b = ent t (a + 1) (skip j b)
    rw [ent_tabOf (by omega) (by omega)]
    unfold skip
    rw [if_neg (by omega)]
theorem detP_dF (m : List (List Int)) (l : List Int) : detP m l = dF l.length (fun a b => ent m (l.getD a 0).toNat (l.getD b 0).toNat) := by
  unfold detP
  rw [detR_dF]
  exact dF_congr fun a b ha hb => ent_tabOf ha hb
theorem subL1 : subL 0 1 = [] ∧ subL 1 1 = [0] := by decide +kernel
theorem subL2 : subL 0 2 = [] ∧ subL 1 2 = [0] ∧ subL 2 2 = [1] ∧ subL 3 2 = [0, 1] := by decide +kernel
theorem subL3 : subL 0 3 = [] ∧ subL 1 3 = [0] ∧ subL 2 3 = [1] ∧ subL 3 3 = [0, 1] ∧ subL 4 3 = [2] ∧ subL 5 3 = [0, 2] ∧ subL 6 3 = [1, 2] ∧ subL 7 3 = [0, 1, 2] := by decide +kernel
theorem subL4 : subL 0 4 = [] ∧ subL 1 4 = [0] ∧ subL 2 4 = [1] ∧ subL 3 4 = [0, 1] ∧ subL 4 4 = [2] ∧ subL 5 4 = [0, 2] ∧ subL 6 4 = [1, 2] ∧ subL 7 4 = [0, 1, 2] ∧
    subL 8 4 = [3] ∧ subL 9 4 = [0, 3] ∧ subL 10 4 = [1, 3] ∧ subL 11 4 = [0, 1, 3] ∧ subL 12 4 = [2, 3] ∧ subL 13 4 = [0, 2, 3] ∧ subL 14 4 = [1, 2, 3] ∧ subL 15 4 = [0, 1, 2, 3] := by decide +kernel
/-- The coefficient by four rows. -/
def coefP (m : List (List Int)) (k : Nat) : Int := if k ≤ m.length then coef m m.length k else 0
set_option maxRecDepth 100000 in
set_option maxHeartbeats 0 in
theorem coef_one (m : List (List Int)) : coef m 1 0 = cfs (padF 1 (ent m)) 0 ∧ coef m 1 1 = cfs (padF 1 (ent m)) 1 ∧ cfs (padF 1 (ent m)) 2 = 0 ∧ cfs (padF 1 (ent m)) 3 = 0 ∧ cfs (padF 1 (ent m)) 4 = 0 := by
  obtain ⟨h0, h1⟩ := subL1
  refine ⟨?_, ?_, ?_, ?_, ?_⟩
  all_goals simp [coef, minS, h0, h1, detP_dF, dF, sumN, sgn, skip, cfs, D2, M3, D4, padF]
set_option maxRecDepth 100000 in
set_option maxHeartbeats 0 in
theorem coef_two (m : List (List Int)) : coef m 2 0 = cfs (padF 2 (ent m)) 0 ∧ coef m 2 1 = cfs (padF 2 (ent m)) 1 ∧ coef m 2 2 = cfs (padF 2 (ent m)) 2 ∧ cfs (padF 2 (ent m)) 3 = 0 ∧ cfs (padF 2 (ent m)) 4 = 0 := by
  obtain ⟨h0, h1, h2, h3⟩ := subL2
  refine ⟨?_, ?_, ?_, ?_, ?_⟩
  all_goals (simp [coef, minS, h0, h1, h2, h3, detP_dF, dF, sumN, sgn, skip, cfs, D2, M3, D4, padF]; try grind)
set_option maxRecDepth 100000 in
set_option maxHeartbeats 0 in
theorem coef_three (m : List (List Int)) : coef m 3 0 = cfs (padF 3 (ent m)) 0 ∧ coef m 3 1 = cfs (padF 3 (ent m)) 1 ∧ coef m 3 2 = cfs (padF 3 (ent m)) 2 ∧ coef m 3 3 = cfs (padF 3 (ent m)) 3 ∧ cfs (padF 3 (ent m)) 4 = 0 := by
  obtain ⟨h0, h1, h2, h3, h4, h5, h6, h7⟩ := subL3
  refine ⟨?_, ?_, ?_, ?_, ?_⟩
  all_goals (simp [coef, minS, h0, h1, h2, h3, h4, h5, h6, h7, detP_dF, dF, sumN, sgn, skip, cfs, D2, M3, D4, padF]; try grind)
set_option maxRecDepth 100000 in
set_option maxHeartbeats 0 in
theorem coef_four (m : List (List Int)) : coef m 4 0 = cfs (padF 4 (ent m)) 0 ∧ coef m 4 1 = cfs (padF 4 (ent m)) 1 ∧ coef m 4 2 = cfs (padF 4 (ent m)) 2 ∧ coef m 4 3 = cfs (padF 4 (ent m)) 3 ∧ coef m 4 4 = cfs (padF 4 (ent m)) 4 := by
  obtain ⟨h0, h1, h2, h3, h4, h5, h6, h7, h8, h9, ha, hb, hc, hd, he, hf⟩ := subL4
  refine ⟨?_, ?_, ?_, ?_, ?_⟩
  all_goals (simp [coef, minS, h0, h1, h2, h3, h4, h5, h6, h7, h8, h9, ha, hb, hc, hd, he, hf, detP_dF, dF, sumN, sgn, skip, cfs, D2, M3, D4, padF]; try grind)
theorem coefP_cfs (m : List (List Int)) (h1 : 1 ≤ m.length) (h4 : m.length ≤ 4) (k : Nat) : coefP m k = cfs (padF m.length (ent m)) k := by
  unfold coefP
  generalize m.length = n at h1 h4
  by_cases hk : 4 < k
  · obtain ⟨j, rfl⟩ : ∃ j, k = j + 5 := ⟨k - 5, by omega⟩
    rw [if_neg (by omega)]
    rfl
  match n, h1, h4 with
  | 1, _, _ =>
    obtain ⟨a0, a1, a2, a3, a4⟩ := coef_one m
    match k, hk with
    | 0, _ => rw [if_pos (by omega)]; exact a0
    | 1, _ => rw [if_pos (by omega)]; exact a1
    | 2, _ => rw [if_neg (by omega)]; exact a2.symm
    | 3, _ => rw [if_neg (by omega)]; exact a3.symm
    | 4, _ => rw [if_neg (by omega)]; exact a4.symm
    | k + 5, h => exact absurd (show 4 < k + 5 by omega) h
  | 2, _, _ =>
    obtain ⟨a0, a1, a2, a3, a4⟩ := coef_two m
    match k, hk with
    | 0, _ => rw [if_pos (by omega)]; exact a0
    | 1, _ => rw [if_pos (by omega)]; exact a1
    | 2, _ => rw [if_pos (by omega)]; exact a2
    | 3, _ => rw [if_neg (by omega)]; exact a3.symm
    | 4, _ => rw [if_neg (by omega)]; exact a4.symm
    | k + 5, h => exact absurd (show 4 < k + 5 by omega) h
  | 3, _, _ =>
    obtain ⟨a0, a1, a2, a3, a4⟩ := coef_three m
    match k, hk with
    | 0, _ => rw [if_pos (by omega)]; exact a0
    | 1, _ => rw [if_pos (by omega)]; exact a1
    | 2, _ => rw [if_pos (by omega)]; exact a2
    | 3, _ => rw [if_pos (by omega)]; exact a3
    | 4, _ => rw [if_neg (by omega)]; exact a4.symm
    | k + 5, h => exact absurd (show 4 < k + 5 by omega) h
  | 4, _, _ =>
    obtain ⟨a0, a1, a2, a3, a4⟩ := coef_four m
    match k, hk with
    | 0, _ => rw [if_pos (by omega)]; exact a0
    | 1, _ => rw [if_pos (by omega)]; exact a1
    | 2, _ => rw [if_pos (by omega)]; exact a2
    | 3, _ => rw [if_pos (by omega)]; exact a3
    | 4, _ => rw [if_pos (by omega)]; exact a4
    | k + 5, h => exact absurd (show 4 < k + 5 by omega) h
  | n + 5, _, h => exact absurd h (by omega)
/-! Lists that agree but for zeros at the end. -/
theorem cutN_zero (p : List Int) : ∀ n k, cutN p n ≤ k → k < n → p.getD k 0 = 0
  | 0, _, _, h => absurd h (by omega)
  | n + 1, k, h1, h2 => by
    unfold cutN at h1
    split at h1
    · rename_i e
      by_cases hk : k = n
      · rw [hk]; exact e
      · exact cutN_zero p n k h1 (by omega)
    · omega
theorem cutN_last (p : List Int) : ∀ n, cutN p n = 0 ∨ p.getD (cutN p n - 1) 0 ≠ 0
  | 0 => Or.inl rfl
  | n + 1 => by
    unfold cutN
    split
    · exact cutN_last p n
    · rename_i h
      exact Or.inr (by rw [Nat.add_sub_cancel]; exact h)
theorem cutN_all (p : List Int) (k : Nat) (h : cutN p p.length ≤ k) : p.getD k 0 = 0 := by
  by_cases hk : k < p.length
  · exact cutN_zero p p.length k h hk
  · simp [List.getD, List.getElem?_eq_none (show p.length ≤ k by omega)]
theorem cutL_same {p q : List Int} (h : ∀ k, p.getD k 0 = q.getD k 0) : cutL p = cutL q := by
  have key : ∀ p q : List Int, (∀ k, p.getD k 0 = q.getD k 0) → cutN p p.length ≤ cutN q q.length := fun p q h => by
    rcases cutN_last p p.length with h1 | h1
    · omega
    · apply Classical.byContradiction
      intro hlt
      exact h1 (by rw [h, cutN_all q _ (by omega)])
  have e : cutN p p.length = cutN q q.length := Nat.le_antisymm (key p q h) (key q p fun k => (h k).symm)
  unfold cutL
  have h1 := cutN_le p p.length
  have h2 := cutN_le q q.length
  rw [← e] at h2 ⊢
  generalize cutN p p.length = c at h1 h2
  apply List.ext_getElem?
  intro k
  rw [List.getElem?_take, List.getElem?_take]
  by_cases hk : k < c
  · rw [if_pos hk, if_pos hk, getD_at (show k < p.length by omega), getD_at (show k < q.length by omega), h]
  · rw [if_neg hk, if_neg hk]
theorem coefs_atP (m : List (List Int)) (k : Nat) : (coefs m m.length).getD k 0 = coefP m k := by
  unfold coefs coefP
  by_cases h : k ≤ m.length
  · rw [if_pos h]
    simp [List.getD, show k < m.length + 1 by omega]
  · rw [if_neg h]
    simp [List.getD, show ¬ k < m.length + 1 by omega]
/-- The trace of a power. -/
def trP (a : List (List Int)) (m : Nat) : Int := Go.Sd.trF a.length (powF a.length (ent a) m)
/-- The greater powers have the same traces. -/
def SameTr (a b : List (List Int)) : Prop := ∃ l : Nat, ∀ m, l < m → trP a m = trP b m
theorem turned_same {a b : List (List Int)} (ha : smallM a = true) (hb : smallM b = true) (h : SameTr a b) : turnedP a = turnedP b := by
  obtain ⟨l, hl⟩ := h
  obtain ⟨ha1, ha4, -⟩ := smallM_sq ha
  obtain ⟨hb1, hb4, -⟩ := smallM_sq hb
  have ha0 := (isMat_sq ha1).2.1
  have hb0 := (isMat_sq hb1).2.1
  unfold turnedP
  rw [if_pos ha, if_pos hb]
  refine cutL_same fun k => ?_
  rw [coefs_atP, coefs_atP, coefP_cfs a ha0 ha4, coefP_cfs b hb0 hb4]
  refine cfs_same (l := l) (fun m hm => ?_) k
  obtain ⟨j, rfl⟩ : ∃ j, m = j + 1 := ⟨m - 1, by omega⟩
  rw [tr_pad ha4, tr_pad hb4]
  exact hl (j + 1) hm
end Go.Proofs.YtlkgkfgpnnahdaaGreat
end

section
/-
  IsLag, both sides.
-/
namespace Go.Proofs.YtlkgkfgpnnahdaaGreat
open Go.RowKit Go.Deep Go.Sd

def sameP (a b c d : List (List Int)) : Bool := ttOk a b && prodIs c d (ttV a b)
def lagM (a b : List (List Int)) (x : Tb × Tb) (n : Int) : Bool :=
  isMat a && (isMat b && (decide (1 ≤ n ∧ n ≤ 5) && (countM x.1 && (countM x.2 && (pwOk a n && (pwOk b n && (sameP a x.1 x.1 b && (sameP b x.2 x.2 a && (prodIs x.1 x.2 (pwV a n) && prodIs x.2 x.1 (pwV b n))))))))))

theorem lagM_spec (a b : List (List Int)) (x : Tb × Tb) (n : Int) : lagM a b x n = (isMat a && (isMat b && (countM x.1 && (countM x.2 && (decide (1 ≤ n ∧ n ≤ 5) && (ttOk a x.1 && (ttOk x.1 b && (ttOk x.2 a && (ttOk b x.2 && (ttOk x.1 x.2 && (ttOk x.2 x.1 && (pwOk a n && (pwOk b n && (decide (ttV a x.1 = ttV x.1 b) && (decide (ttV x.2 a = ttV b x.2) && (decide (ttV x.1 x.2 = pwV a n) && decide (ttV x.2 x.1 = pwV b n))))))))))))))))) := by
  unfold lagM sameP prodIs
  rw [show decide (ttV x.1 b = ttV a x.1) = decide (ttV a x.1 = ttV x.1 b) from decide_eq_decide.2 eq_comm]
  generalize isMat a = p1
  generalize isMat b = p2
  generalize countM x.1 = p3
  generalize countM x.2 = p4
  generalize decide (1 ≤ n ∧ n ≤ 5) = p5
  generalize pwOk a n = p6
  generalize pwOk b n = p7
  generalize ttOk a x.1 = p8
  generalize ttOk x.1 b = p9
  generalize ttOk x.2 a = pa
  generalize ttOk b x.2 = pb
  generalize ttOk x.1 x.2 = pc
  generalize ttOk x.2 x.1 = pd
  generalize decide (ttV a x.1 = ttV x.1 b) = pe
  generalize decide (ttV x.2 a = ttV b x.2) = pf
  generalize decide (ttV x.1 x.2 = pwV a n) = pg
  generalize decide (ttV x.2 x.1 = pwV b n) = ph
  ac_rfl

end Go.Proofs.YtlkgkfgpnnahdaaGreat
end

section
/-
  Alike: the search for a numbering finds one just where there is one.
-/
namespace Go.Proofs.YtlkgkfgpnnahdaaGreat
open Go.RowKit Go.Deep Go.Sd
theorem okL_iff {a b : Mx} {k p : Nat} : ∀ {ps : List Nat} {i : Nat}, okL a b k p ps i = true ↔ ∀ t q, ps[t]? = some q → q ≠ p ∧ ent a k (i + t) = ent b p q ∧ ent a (i + t) k = ent b q p
  | [], i => by simp [okL]
  | q :: qs, i => by
    unfold okL
    rw [Bool.and_eq_true, Bool.and_eq_true, Bool.and_eq_true, decide_eq_true_eq, decide_eq_true_eq, decide_eq_true_eq, okL_iff]
    constructor
    · rintro ⟨⟨⟨h1, h2⟩, h3⟩, h4⟩ t r ht
      cases t with
      | zero =>
        simp at ht
        subst ht
        exact ⟨h1, h2, h3⟩
      | succ t =>
        have := h4 t r (by simpa using ht)
        rw [show i + 1 + t = i + (t + 1) by omega] at this
        exact this
    · intro h
      have h0 := h 0 q rfl
      refine ⟨⟨⟨h0.1, h0.2.1⟩, h0.2.2⟩, fun t r ht => ?_⟩
      have := h (t + 1) r (by simpa using ht)
      rw [show i + (t + 1) = i + 1 + t by omega] at this
      exact this
theorem anyF_of {h : Nat → Bool} : ∀ {g p : Nat} {q : Nat}, p ≤ q → q < p + g → h q = true → anyF h g p = true
  | 0, _, _, h1, h2, _ => by omega
  | g + 1, p, q, h1, h2, h3 => by
    unfold anyF
    by_cases e : h p = true
    · rw [if_pos e]
    · rw [if_neg e]
      exact anyF_of (by by_cases e2 : q = p; · rw [e2] at h3; exact absurd h3 e
                        · omega) (by omega) h3
theorem anyF_get {h : Nat → Bool} : ∀ {g p : Nat}, anyF h g p = true → ∃ q, p ≤ q ∧ q < p + g ∧ h q = true
  | 0, _, h1 => by cases h1
  | g + 1, p, h1 => by
    unfold anyF at h1
    by_cases e : h p = true
    · exact ⟨p, Nat.le_refl _, by omega, e⟩
    · rw [if_neg e] at h1
      obtain ⟨q, h2, h3, h4⟩ := anyF_get h1
      exact ⟨q, by omega, by omega, h4⟩
theorem fitM_of {a b : Mx} {n : Nat} {p q : Nat → Nat} (hi : Inv n p q) (he : ∀ i j, i < n → j < n → ent a i j = ent b (p i) (p j)) : ∀ (f k : Nat), k + f = n → fitM a b n f ((List.range k).map p) = true
  | 0, _, _ => rfl
  | f + 1, k, hk => by
    unfold fitM
    refine anyF_of (q := p k) (Nat.zero_le _) (by have := (hi.1 k (by omega)).1; omega) ?_
    rw [Bool.and_eq_true]
    constructor
    · unfold okAt
      have hl : ((List.range k).map p).length = k := by simp
      rw [hl, Bool.and_eq_true]
      refine ⟨decide_eq_true (he k k (by omega) (by omega)), okL_iff.2 fun t r ht => ?_⟩
      have ht2 : t < k := by have := (List.getElem?_eq_some_iff.1 ht).1; omega
      have hr : r = p t := by rw [List.getElem?_map, List.getElem?_range ht2] at ht; exact (Option.some.inj ht).symm
      subst hr
      rw [Nat.zero_add]
      refine ⟨fun e => ?_, he k t (by omega) (by omega), he t k (by omega) (by omega)⟩
      have h1 := (hi.1 t (by omega)).2
      rw [e, (hi.1 k (by omega)).2] at h1
      omega
    · have h1 := fitM_of hi he f (k + 1) (by omega)
      rw [List.range_succ, List.map_append] at h1
      exact h1
theorem fitM_get {a b : Mx} {n : Nat} : ∀ (f : Nat) (ps : List Nat), fitM a b n f ps = true → ∃ qs : List Nat, qs.length = f ∧ ∀ t r, (ps ++ qs)[ps.length + t]? = some r → r < n ∧ okAt a b ((ps ++ qs).take (ps.length + t)) r = true
  | 0, ps, _ => ⟨[], rfl, fun t r h => by
      rw [List.append_nil] at h
      have := (List.getElem?_eq_some_iff.1 h).1
      omega⟩
  | f + 1, ps, h => by
    unfold fitM at h
    obtain ⟨p, _, h2, h3⟩ := anyF_get h
    rw [Bool.and_eq_true] at h3
    obtain ⟨qs, h4, h5⟩ := fitM_get f (ps ++ [p]) h3.2
    refine ⟨p :: qs, by simp [h4], fun t r ht => ?_⟩
    rw [show ps ++ p :: qs = (ps ++ [p]) ++ qs by simp] at ht ⊢
    cases t with
    | zero =>
      rw [Nat.add_zero, List.append_assoc, List.getElem?_append_right (Nat.le_refl _), Nat.sub_self] at ht
      have hr : p = r := by simpa using ht
      subst hr
      refine ⟨by omega, ?_⟩
      rw [Nat.add_zero, List.append_assoc, List.take_left]
      exact h3.1
    | succ t =>
      have h6 := h5 t r (by rw [List.length_append]; rw [show ps.length + [p].length + t = ps.length + (t + 1) by simp; omega]; exact ht)
      rw [List.length_append, show ps.length + [p].length + t = ps.length + (t + 1) by simp; omega] at h6
      exact h6
theorem alikeM_iff {a b : Mx} : alikeM a b = true ↔ isMat a = true ∧ isMat b = true ∧ a.length ≤ 6 ∧ Alk a.length a b.length b := by
  unfold alikeM
  simp only [Bool.and_eq_true, decide_eq_true_eq]
  constructor
  · rintro ⟨⟨⟨⟨h1, h2⟩, h3⟩, h4⟩, h5⟩
    refine ⟨h1, h2, h4, h3, ?_⟩
    obtain ⟨L, h6, h7⟩ := fitM_get a.length [] h5
    simp only [List.nil_append, List.length_nil, Nat.zero_add] at h7
    have hat : ∀ i, i < a.length → ∃ r, L[i]? = some r := fun i hi => ⟨L[i]'(by omega), List.getElem?_eq_getElem (by omega)⟩
    have hget : ∀ i r, L[i]? = some r → L.getD i 0 = r := fun i r h => by simp [List.getD, h]
    have hlt : ∀ i, i < a.length → L.getD i 0 < a.length := fun i hi => by
      obtain ⟨r, hr⟩ := hat i hi
      rw [hget i r hr]
      exact (h7 i r hr).1
    have hpair : ∀ i j, i < j → j < a.length → L.getD i 0 ≠ L.getD j 0 ∧ ent a j i = ent b (L.getD j 0) (L.getD i 0) ∧ ent a i j = ent b (L.getD i 0) (L.getD j 0) := fun i j hij hj => by
      obtain ⟨r, hr⟩ := hat j hj
      obtain ⟨s, hs⟩ := hat i (by omega)
      have h8 := (h7 j r hr).2
      unfold okAt at h8
      rw [Bool.and_eq_true] at h8
      have hl : (L.take j).length = j := by rw [List.length_take]; omega
      have h9 := okL_iff.1 h8.2 i s (by rw [List.getElem?_take, if_pos hij]; exact hs)
      rw [hl, Nat.zero_add] at h9
      rw [hget i s hs, hget j r hr]
      exact h9
    have hdiag : ∀ j, j < a.length → ent a j j = ent b (L.getD j 0) (L.getD j 0) := fun j hj => by
      obtain ⟨r, hr⟩ := hat j hj
      have h8 := (h7 j r hr).2
      unfold okAt at h8
      rw [Bool.and_eq_true] at h8
      have hl : (L.take j).length = j := by rw [List.length_take]; omega
      have h9 := of_decide_eq_true h8.1
      rw [hl] at h9
      rw [hget j r hr]
      exact h9
    obtain ⟨q, hq⟩ := inj_inv (f := fun i => L.getD i 0) hlt (fun i j hi hj e => by
      have e' : L.getD i 0 = L.getD j 0 := e
      rcases Nat.lt_trichotomy i j with h | h | h
      · exact absurd e' (hpair i j h hj).1
      · exact h
      · exact absurd e'.symm (hpair j i h hi).1)
    refine ⟨fun i => L.getD i 0, q, hq, fun A B hA hB => ?_⟩
    rcases Nat.lt_trichotomy A B with h | h | h
    · exact (hpair A B h hB).2.2
    · subst h; exact hdiag A hA
    · exact (hpair B A h hA).2.1
  · rintro ⟨h1, h2, h3, h4, p, q, hi, he⟩
    refine ⟨⟨⟨⟨h1, h2⟩, h4⟩, h3⟩, ?_⟩
    have := fitM_of hi he a.length 0 (by omega)
    simpa using this
end Go.Proofs.YtlkgkfgpnnahdaaGreat
end
