/-
  Texts of this claim joined: laws for its walks, contracts of the functions that the law reaches.
-/
import Derived.Test.YtcilgihmaaobeaaFnResolvedM18
import Derived.Test.YtcilgihmaaobeaaFnResolvedM7
import Derived.Test.YtcilgihmaaobeaaRows
import Derived.Test.YtcilgihmaaobeaaFnResolvedM1
import Derived.Test.YtcilgihmaaobeaaFnResolvedM2
import Derived.Test.YtcilgihmaaobeaaFnResolvedM3
import Derived.Test.YtcilgihmaaobeaaFnResolvedM4
import Derived.Test.YtcilgihmaaobeaaFnResolvedM9
import Derived.Test.YtcilgihmaaobeaaFnResolvedM10
import Derived.IntWalk
import Derived.Deep.RegionHeld3
import Derived.Deep.DeepCutAuto
import Derived.Test.YtcilgihmaaobeaaFnResolvedM15
set_option linter.unusedVariables false
set_option linter.unusedSimpArgs false
section
namespace Go.Proofs.Ytcilgihmaaobeaa
open Go.RowKit Go.Deep Go.Sd
set_option linter.unusedSimpArgs false
theorem OLab.slice {w : World} {v : Value} {x : Lb} {F : List Nat} (h : OLab w v x F) : ∃ a c, v = .agg #[.int .i64 x.1, .int .i64 x.2.1, .slice a x.2.2.length c] := by
  obtain ⟨va, rfl, h⟩ := h
  obtain ⟨-, a, c, rfl, -⟩ := h.reads
  exact ⟨a, c, rfl⟩
theorem Cur.labR {lo : Nat} {w : World} {cb : Nat} {K : Value} {n : Nat} {v : Value} {l : Lb} {rs : List Res} (h : Cur lo w cb K n (ResLb v l :: rs)) : LabR w v l := by
  obtain ⟨G, hG, -⟩ := h.out.head
  exact OLab.reads (show OLab w v l G from hG)
theorem Cur.labOf {lo : Nat} {w : World} {cb : Nat} {K : Value} {n : Nat} {v : Value} {l : Lb} {rs : List Res} (h : Cur lo w cb K n (ResLg v l :: rs)) (hlo : lo ≤ w.heap.size) : Cur lo w cb K n (ResLb v l :: rs) := h.conv hlo fun _ h => OLabG.lab h
theorem Cur.labSlice {lo : Nat} {w : World} {cb : Nat} {K : Value} {n : Nat} {v : Value} {l : Lb} {rs : List Res} (h : Cur lo w cb K n (ResLb v l :: rs)) : ∃ a c, v = .agg #[.int .i64 l.1, .int .i64 l.2.1, .slice a l.2.2.length c] := by
  obtain ⟨G, hG, -⟩ := h.out.head
  exact OLab.slice (show OLab w v l G from hG)
set_option maxHeartbeats 8000000 in
set_option maxRecDepth 100000 in
theorem l15Draw_c {lo : Nat} {w : World} {cb : Nat} {Kv : Value} {xs : List Int} {rs : List Res} (hK : ∀ w', Below lo w w' → BytR w' Kv xs) (hc : Cur lo w cb Kv xs.length rs) (hlo : lo ≤ w.heap.size) :
    Calls Try.prog 41 #[.pointer (some ⟨cb, 0, none⟩)] w fun e w' => ∃ (v : Value) (l : Lb), e = .returned v ∧ Cur lo w' cb Kv xs.length (ResLb v l :: rs) ∧ Below lo w w' := by
  have HK := Lib.hid hK
  have hcx := hc.box hlo [.int .i64 0, .int .i64 0, .slice none 0 0] 26
  obtain ⟨wA, eA⟩ : ∃ x, x = w.alloc (.cells #[.int .i64 0, .int .i64 0, .slice none 0 0] 26) := ⟨_, rfl⟩
  have hbA : Below w.heap.size w wA := by rw [eA]; exact (Below.refl _ _).alloc (Nat.le_refl _) _
  have HCA := Lib.hid (show Cur lo wA cb Kv xs.length (Res.box w.heap.size [.int .i64 0, .int .i64 0, .slice none 0 0] :: rs) from by rw [eA]; exact hcx)
  have HBA := Lib.hid (hbA.mono hlo)
  have hzA : lo ≤ wA.heap.size := Nat.le_trans hlo hbA.size
  have HD := Lib.hid (l14Bent_c (fun w' hb => HK.out w' (HBA.out.trans hb)) HCA.out hzA)
  have eAs := eA.symm
  clear hK hc hcx hbA eA
  go_enter Try.func41, Try.ntmps41
  go_wp2_with fail
  (with_reducible refine HD.out.mono ?_)
  rintro e w1 ⟨v, l, rfl, hln, hc, hb⟩
  have hz1 : lo ≤ w1.heap.size := Nat.le_trans hzA hb.size
  have hc1 := hc.labOf hz1
  obtain ⟨ya, yc, rfl⟩ := hc1.labSlice
  have HB1 := Lib.hid (HBA.out.trans hb)
  obtain ⟨w2, e2, hb2, c0, c1, c2, m2⟩ := boxA3_ex w1 26 (.int .i64 l.1) (.int .i64 l.2.1) (.slice ya l.2.2.length yc)
  have hcx := hc1.box hz1 [.int .i64 l.1, .int .i64 l.2.1, .slice ya l.2.2.length yc] 26
  rw [e2] at hcx
  have HB2 := Lib.hid (HB1.out.trans (hb2.mono hz1))
  have hz2 : lo ≤ w2.heap.size := Nat.le_trans hz1 hb2.size
  have HR := Lib.hid (spec_ResolveLabels_c hcx.rest.labR)
  generalize rslV l = x at HR
  generalize rslOk l = ok at HR
  have HC2 := Lib.hid hcx
  have HE2 := Lib.hid e2
  obtain ⟨l0, l1, la⟩ := l
  simp only at HC2 HR HE2 c0 c1 c2 ⊢
  obtain ⟨al, hal⟩ : ∃ n, n = la.length := ⟨_, rfl⟩
  simp only [← hal] at HC2 HR HE2 c2 ⊢
  clear hal hc hb hc1 hcx hb2 c0 c1 c2 m2 hln eAs HD HCA HBA HB1 e2
  go_wp2_with fail
  rw [HE2.out]
  (with_reducible refine HR.out.mono ?_)
  rintro e w3 ⟨vx, rfl, hn, hb⟩
  obtain ⟨sb, hsb⟩ : ∃ b, b = w1.heap.size := ⟨_, rfl⟩
  rw [← hsb] at HC2 ⊢
  have hz3 : lo ≤ w3.heap.size := Nat.le_trans hz2 hb.size
  have hc3 := HC2.out.new OLab.held hb hz2 hn
  have HB3 := Lib.hid (HB2.out.trans (hb.mono hz2))
  obtain ⟨za, zc, rfl⟩ := hc3.labSlice
  obtain ⟨x0, x1, xa⟩ := x
  obtain ⟨xl, hxl⟩ : ∃ n, n = xa.length := ⟨_, rfl⟩
  simp only [← hxl] at hc3 ⊢
  obtain ⟨w4, e4, hb4, c0, c1, c2, m4⟩ := boxA3_ex w3 26 (.int .i64 x0) (.int .i64 x1) (.slice za xl zc)
  have hcx := hc3.box hz3 [.int .i64 x0, .int .i64 x1, .slice za xl zc] 26
  rw [e4] at hcx
  have HC4 := Lib.hid hcx
  have HB4 := Lib.hid (HB3.out.trans (hb4.mono hz3))
  have hz4 : lo ≤ w4.heap.size := Nat.le_trans hz3 hb4.size
  have HE4 := Lib.hid e4
  clear hn hb hc3 hb4 hcx c0 c1 c2 m4 e4 hxl hsb HE2 HR HC2 HB2 HB3
  cases ok with
  | false =>
    have e4 := HE4.out
    obtain ⟨-, -, hcB⟩ := HC4.out.rest.rest.out.headBox
    have k0 := (hcB 0 _ rfl).1
    have k1 := (hcB 1 _ rfl).1
    have k2 := (hcB 2 _ rfl).1
    have hr := HC4.out.rest.rest.rest.perm2'
    clear hcB
    obtain ⟨-, -, hcr⟩ := hr.out.headBox
    have r0 := (hcr 0 _ rfl).1
    have f0 := (hcr 0 _ rfl).2
    have r1 := (hcr 1 _ rfl).1
    have f1 := (hcr 1 _ rfl).2
    have r2 := (hcr 2 _ rfl).1
    have f2 := (hcr 2 _ rfl).2
    have hs1 := hr.store hz4 (j := 0) rfl (.int .i64 l0)
    have hB1 := hr.storeBelow HB4.out 0 (.int .i64 l0)
    have hs2 := hs1.store (by simpa using hz4) (j := 1) rfl (.int .i64 l1)
    have hB2 := hs1.storeBelow hB1 1 (.int .i64 l1)
    have hs3 := hs2.store (by simpa using hz4) (j := 2) rfl (.slice ya al yc)
    have hB3 := hs2.storeBelow hB2 2 (.slice ya al yc)
    obtain ⟨-, -, hcs⟩ := hs3.out.headBox
    have S0 := Lib.hid (hcs 0 (.int .i64 l0) rfl).1
    have S1 := Lib.hid (hcs 1 (.int .i64 l1) rfl).1
    have S2 := Lib.hid (hcs 2 (.slice ya al yc) rfl).1
    have HC3 := Lib.hid hs3.rest
    have HB3 := Lib.hid hB3
    clear hcr hcs hs1 hs2 hs3 hB1 hB2 hB3
    clear hr HC4 HB4 HE4
    go_wp2_with fail
    refine bodyPost_ret (v := .agg #[.int .i64 l0, .int .i64 l1, .slice ya al yc]) (by simp [results, Try.results41, go_sem, S0.out, S1.out, S2.out]) rfl ?_
    exact ⟨_, (l0, l1, la), rfl, HC3.out, HB3.out⟩
  | true =>
    have HP := Lib.hid (l1Once_i (z := 3) (fun w' hb => HK.out w' (HB4.out.trans hb)) HC4.out hz4 (by omega) (by omega))
    have HE := HE4
    clear HE4
    go_wp2_with fail
    rw [HE.out]
    (with_reducible refine HP.out.mono ?_)
    rintro e w5 ⟨b, rfl, hc, hb, ho⟩
    obtain ⟨tb, htb⟩ : ∃ b, b = w3.heap.size := ⟨_, rfl⟩
    rw [← htb] at hc ⊢
    have HC5 := Lib.hid hc
    have HB5 := Lib.hid (HB4.out.trans hb)
    have hz5 : lo ≤ w5.heap.size := Nat.le_trans hz4 hb.size
    clear hc hb ho HP HE htb HC4 HB4
    cases b with
    | false =>
      obtain ⟨-, -, hcB⟩ := HC5.out.out.headBox
      have k0 := (hcB 0 _ rfl).1
      have k1 := (hcB 1 _ rfl).1
      have k2 := (hcB 2 _ rfl).1
      have hr := HC5.out.rest.perm2'.rest.perm2'.rest.perm2'
      clear hcB
      obtain ⟨-, -, hcr⟩ := hr.out.headBox
      have r0 := (hcr 0 _ rfl).1
      have f0 := (hcr 0 _ rfl).2
      have r1 := (hcr 1 _ rfl).1
      have f1 := (hcr 1 _ rfl).2
      have r2 := (hcr 2 _ rfl).1
      have f2 := (hcr 2 _ rfl).2
      have hs1 := hr.store hz5 (j := 0) rfl (.int .i64 x0)
      have hB1 := hr.storeBelow HB5.out 0 (.int .i64 x0)
      have hs2 := hs1.store (by simpa using hz5) (j := 1) rfl (.int .i64 x1)
      have hB2 := hs1.storeBelow hB1 1 (.int .i64 x1)
      have hs3 := hs2.store (by simpa using hz5) (j := 2) rfl (.slice za xl zc)
      have hB3 := hs2.storeBelow hB2 2 (.slice za xl zc)
      obtain ⟨-, -, hcs⟩ := hs3.out.headBox
      have S0 := Lib.hid (hcs 0 (.int .i64 x0) rfl).1
      have S1 := Lib.hid (hcs 1 (.int .i64 x1) rfl).1
      have S2 := Lib.hid (hcs 2 (.slice za xl zc) rfl).1
      have HC3 := Lib.hid hs3.rest
      have HB3 := Lib.hid hB3
      clear hcr hcs hs1 hs2 hs3 hB1 hB2 hB3
      clear hr HC5 HB5
      go_wp2_with fail
      refine bodyPost_ret (v := .agg #[.int .i64 x0, .int .i64 x1, .slice za xl zc]) (by simp [results, Try.results41, go_sem, S0.out, S1.out, S2.out]) rfl ?_
      exact ⟨_, (x0, x1, xa), rfl, HC3.out, HB3.out⟩
    | true =>
      obtain ⟨-, -, hcB⟩ := HC5.out.rest.rest.out.headBox
      have k0 := (hcB 0 _ rfl).1
      have k1 := (hcB 1 _ rfl).1
      have k2 := (hcB 2 _ rfl).1
      have hr := HC5.out.rest.rest.rest.perm2'
      clear hcB
      obtain ⟨-, -, hcr⟩ := hr.out.headBox
      have r0 := (hcr 0 _ rfl).1
      have f0 := (hcr 0 _ rfl).2
      have r1 := (hcr 1 _ rfl).1
      have f1 := (hcr 1 _ rfl).2
      have r2 := (hcr 2 _ rfl).1
      have f2 := (hcr 2 _ rfl).2
      have hs1 := hr.store hz5 (j := 0) rfl (.int .i64 l0)
      have hB1 := hr.storeBelow HB5.out 0 (.int .i64 l0)
      have hs2 := hs1.store (by simpa using hz5) (j := 1) rfl (.int .i64 l1)
      have hB2 := hs1.storeBelow hB1 1 (.int .i64 l1)
      have hs3 := hs2.store (by simpa using hz5) (j := 2) rfl (.slice ya al yc)
      have hB3 := hs2.storeBelow hB2 2 (.slice ya al yc)
      obtain ⟨-, -, hcs⟩ := hs3.out.headBox
      have S0 := Lib.hid (hcs 0 (.int .i64 l0) rfl).1
      have S1 := Lib.hid (hcs 1 (.int .i64 l1) rfl).1
      have S2 := Lib.hid (hcs 2 (.slice ya al yc) rfl).1
      have HC3 := Lib.hid hs3.rest
      have HB3 := Lib.hid hB3
      clear hcr hcs hs1 hs2 hs3 hB1 hB2 hB3
      clear hr HC5 HB5
      go_wp2_with fail
      refine bodyPost_ret (v := .agg #[.int .i64 l0, .int .i64 l1, .slice ya al yc]) (by simp [results, Try.results41, go_sem, S0.out, S1.out, S2.out]) rfl ?_
      exact ⟨_, (l0, l1, la), rfl, HC3.out, HB3.out⟩
end Go.Proofs.Ytcilgihmaaobeaa
end

section
namespace Go.Proofs.Ytcilgihmaaobeaa
open Go.RowKit Go.Deep Go.Sd
set_option linter.unusedSimpArgs false
set_option maxHeartbeats 2000000 in
set_option maxRecDepth 100000 in
theorem DrawResolveLabels_c {w : World} {vc : Value} {xs : List Int} (h : BytR w vc xs) :
    Calls Try.prog 6 #[vc] w fun e w' => ∃ (v : Value) (l : Lb), e = .returned v ∧ New OLab w.heap.size w' v l ∧ Below w.heap.size w w' := by
  obtain ⟨wA, eA, hA⟩ : ∃ x, x = w.alloc (.cells #[.int .i64 0, .int .i64 0, .slice none 0 0] 26) ∧ Below w.heap.size w x := ⟨_, rfl, (Below.refl _ _).alloc (Nat.le_refl _) _⟩
  have hA' : BytR wA vc xs := BytR.frame _ _ _ _ h hA
  have HN := Lib.hid (l1New_c hA')
  have HK := Lib.hid (fun w' (hb : Below wA.heap.size wA w') => BytR.frame _ _ _ _ hA' hb)
  obtain ⟨a, c, rfl, -⟩ := h.cellsB
  have R0 := Lib.hid (show wA.cell? ⟨w.heap.size, 0, none⟩ = some (.int .i64 0) from by rw [eA]; simp [go_sem])
  have R1 := Lib.hid (show wA.cell? ⟨w.heap.size, 1, none⟩ = some (.int .i64 0) from by rw [eA]; simp [go_sem])
  have R2 := Lib.hid (show wA.cell? ⟨w.heap.size, 2, none⟩ = some (.slice none 0 0) from by rw [eA]; simp [go_sem])
  have F0 := Lib.hid (show wA.frozen? ⟨w.heap.size, 0, none⟩ = false from by rw [eA]; simp [go_sem])
  have F1 := Lib.hid (show wA.frozen? ⟨w.heap.size, 1, none⟩ = false from by rw [eA]; simp [go_sem])
  have F2 := Lib.hid (show wA.frozen? ⟨w.heap.size, 2, none⟩ = false from by rw [eA]; simp [go_sem])
  have zA : w.heap.size < wA.heap.size := by rw [eA]; simp
  have HA := Lib.hid hA
  have eAs := eA.symm
  clear h hA hA' eA
  go_enter Try.func6, Try.ntmps6
  go_wp2_with fail
  (with_reducible refine HN.out.mono ?_)
  rintro e w1 ⟨rfl, ⟨hh, hs⟩, hb⟩
  have HC1 := Lib.hid (show Cur wA.heap.size w1 wA.heap.size (.slice a xs.length c) xs.length [] from ⟨0, hh, Nat.zero_le _, hs⟩)
  have HB1 := Lib.hid hb
  have hz1 := hb.size
  clear hs hb HN eAs
  have HL := Lib.hid (l14Bent_c (fun w' hb' => HK.out w' (HB1.out.trans hb')) HC1.out hz1)
  go_wp2_with fail
  (with_reducible refine HL.out.mono ?_)
  rintro e w2 ⟨v, l, rfl, hln, hc, hb⟩
  have hcl := hc.labOf (Nat.le_trans hz1 hb.size)
  obtain ⟨ya, yc, rfl⟩ := hcl.labSlice
  have Hn := Lib.hid hcl.out.headNew
  have HB2 := Lib.hid (HB1.out.trans hb)
  obtain ⟨al, hal⟩ : ∃ n, n = l.2.2.length := ⟨_, rfl⟩
  rw [← hal] at Hn ⊢
  clear hal hc hcl hb HL HC1 HB1 hz1
  replace R0 := (HB2.out.cell (p := ⟨w.heap.size, 0, none⟩) zA).trans R0.out
  replace F0 := (HB2.out.frozen (p := ⟨w.heap.size, 0, none⟩) zA).trans F0.out
  replace R1 := (HB2.out.cell (p := ⟨w.heap.size, 1, none⟩) zA).trans R1.out
  replace F1 := (HB2.out.frozen (p := ⟨w.heap.size, 1, none⟩) zA).trans F1.out
  replace R2 := (HB2.out.cell (p := ⟨w.heap.size, 2, none⟩) zA).trans R2.out
  replace F2 := (HB2.out.frozen (p := ⟨w.heap.size, 2, none⟩) zA).trans F2.out
  go_wp2_with fail
  have s0 := World.cell?_setCell_same w2 _ (.int .i64 l.1) R0
  have u1 := (World.cell?_setCell_other w2 ⟨w.heap.size, 0, none⟩ ⟨w.heap.size, 1, none⟩ (.int .i64 l.1) (by simp)).trans R1
  have s1 := World.cell?_setCell_same _ _ (.int .i64 l.2.1) u1
  have u2 := (World.cell?_setCell_other _ ⟨w.heap.size, 1, none⟩ ⟨w.heap.size, 2, none⟩ (.int .i64 l.2.1) (by simp)).trans ((World.cell?_setCell_other w2 ⟨w.heap.size, 0, none⟩ ⟨w.heap.size, 2, none⟩ (.int .i64 l.1) (by simp)).trans R2)
  have s2 := World.cell?_setCell_same _ _ (.slice ya al yc) u2
  have v1 := (World.cell?_setCell_other _ ⟨w.heap.size, 2, none⟩ ⟨w.heap.size, 1, none⟩ (.slice ya al yc) (by simp)).trans s1
  have v0 := (World.cell?_setCell_other _ ⟨w.heap.size, 2, none⟩ ⟨w.heap.size, 0, none⟩ (.slice ya al yc) (by simp)).trans ((World.cell?_setCell_other _ ⟨w.heap.size, 1, none⟩ ⟨w.heap.size, 0, none⟩ (.int .i64 l.2.1) (by simp)).trans s0)
  refine bodyPost_ret (v := .agg #[.int .i64 l.1, .int .i64 l.2.1, .slice ya al yc]) (by simp [results, Try.results6, go_sem, v0, v1, s2]) rfl ?_
  exact ⟨_, l, rfl, (New.storeLow OLab.held (New.storeLow OLab.held (New.storeLow OLab.held Hn.out (p := ⟨w.heap.size, 0, none⟩) zA (.int .i64 l.1)) (p := ⟨w.heap.size, 1, none⟩) zA (.int .i64 l.2.1)) (p := ⟨w.heap.size, 2, none⟩) zA (.slice ya al yc)).mono (Nat.le_of_lt zA), ((((HA.out.trans (HB2.out.mono (Nat.le_of_lt zA))).setCell (p := ⟨w.heap.size, 0, none⟩) (Nat.le_refl _) _).setCell (p := ⟨w.heap.size, 1, none⟩) (Nat.le_refl _) _).setCell (p := ⟨w.heap.size, 2, none⟩) (Nat.le_refl _) _)⟩
set_option maxHeartbeats 2000000 in
set_option maxRecDepth 100000 in
theorem DrawSmallestLabels_c {w : World} {vc : Value} {xs : List Int} (h : BytR w vc xs) :
    Calls Try.prog 9 #[vc] w fun e w' => ∃ (v : Value) (l : Lb), e = .returned v ∧ New OLab w.heap.size w' v l ∧ Below w.heap.size w w' := by
  obtain ⟨wA, eA, hA⟩ : ∃ x, x = w.alloc (.cells #[.int .i64 0, .int .i64 0, .slice none 0 0] 26) ∧ Below w.heap.size w x := ⟨_, rfl, (Below.refl _ _).alloc (Nat.le_refl _) _⟩
  have hA' : BytR wA vc xs := BytR.frame _ _ _ _ h hA
  have HN := Lib.hid (l1New_c hA')
  have HK := Lib.hid (fun w' (hb : Below wA.heap.size wA w') => BytR.frame _ _ _ _ hA' hb)
  obtain ⟨a, c, rfl, -⟩ := h.cellsB
  have R0 := Lib.hid (show wA.cell? ⟨w.heap.size, 0, none⟩ = some (.int .i64 0) from by rw [eA]; simp [go_sem])
  have R1 := Lib.hid (show wA.cell? ⟨w.heap.size, 1, none⟩ = some (.int .i64 0) from by rw [eA]; simp [go_sem])
  have R2 := Lib.hid (show wA.cell? ⟨w.heap.size, 2, none⟩ = some (.slice none 0 0) from by rw [eA]; simp [go_sem])
  have F0 := Lib.hid (show wA.frozen? ⟨w.heap.size, 0, none⟩ = false from by rw [eA]; simp [go_sem])
  have F1 := Lib.hid (show wA.frozen? ⟨w.heap.size, 1, none⟩ = false from by rw [eA]; simp [go_sem])
  have F2 := Lib.hid (show wA.frozen? ⟨w.heap.size, 2, none⟩ = false from by rw [eA]; simp [go_sem])
  have zA : w.heap.size < wA.heap.size := by rw [eA]; simp
  have HA := Lib.hid hA
  have eAs := eA.symm
  clear h hA hA' eA
  go_enter Try.func9, Try.ntmps9
  go_wp2_with fail
  (with_reducible refine HN.out.mono ?_)
  rintro e w1 ⟨rfl, ⟨hh, hs⟩, hb⟩
  have HC1 := Lib.hid (show Cur wA.heap.size w1 wA.heap.size (.slice a xs.length c) xs.length [] from ⟨0, hh, Nat.zero_le _, hs⟩)
  have HB1 := Lib.hid hb
  have hz1 := hb.size
  clear hs hb HN eAs
  have HL := Lib.hid (l15Draw_c (fun w' hb' => HK.out w' (HB1.out.trans hb')) HC1.out hz1)
  go_wp2_with fail
  (with_reducible refine HL.out.mono ?_)
  rintro e w2 ⟨v, l, rfl, hc, hb⟩
  have hcl := hc
  obtain ⟨ya, yc, rfl⟩ := hcl.labSlice
  have Hn := Lib.hid hcl.out.headNew
  have HB2 := Lib.hid (HB1.out.trans hb)
  obtain ⟨al, hal⟩ : ∃ n, n = l.2.2.length := ⟨_, rfl⟩
  rw [← hal] at Hn ⊢
  clear hal hc hcl hb HL HC1 HB1 hz1
  replace R0 := (HB2.out.cell (p := ⟨w.heap.size, 0, none⟩) zA).trans R0.out
  replace F0 := (HB2.out.frozen (p := ⟨w.heap.size, 0, none⟩) zA).trans F0.out
  replace R1 := (HB2.out.cell (p := ⟨w.heap.size, 1, none⟩) zA).trans R1.out
  replace F1 := (HB2.out.frozen (p := ⟨w.heap.size, 1, none⟩) zA).trans F1.out
  replace R2 := (HB2.out.cell (p := ⟨w.heap.size, 2, none⟩) zA).trans R2.out
  replace F2 := (HB2.out.frozen (p := ⟨w.heap.size, 2, none⟩) zA).trans F2.out
  go_wp2_with fail
  have s0 := World.cell?_setCell_same w2 _ (.int .i64 l.1) R0
  have u1 := (World.cell?_setCell_other w2 ⟨w.heap.size, 0, none⟩ ⟨w.heap.size, 1, none⟩ (.int .i64 l.1) (by simp)).trans R1
  have s1 := World.cell?_setCell_same _ _ (.int .i64 l.2.1) u1
  have u2 := (World.cell?_setCell_other _ ⟨w.heap.size, 1, none⟩ ⟨w.heap.size, 2, none⟩ (.int .i64 l.2.1) (by simp)).trans ((World.cell?_setCell_other w2 ⟨w.heap.size, 0, none⟩ ⟨w.heap.size, 2, none⟩ (.int .i64 l.1) (by simp)).trans R2)
  have s2 := World.cell?_setCell_same _ _ (.slice ya al yc) u2
  have v1 := (World.cell?_setCell_other _ ⟨w.heap.size, 2, none⟩ ⟨w.heap.size, 1, none⟩ (.slice ya al yc) (by simp)).trans s1
  have v0 := (World.cell?_setCell_other _ ⟨w.heap.size, 2, none⟩ ⟨w.heap.size, 0, none⟩ (.slice ya al yc) (by simp)).trans ((World.cell?_setCell_other _ ⟨w.heap.size, 1, none⟩ ⟨w.heap.size, 0, none⟩ (.int .i64 l.2.1) (by simp)).trans s0)
  refine bodyPost_ret (v := .agg #[.int .i64 l.1, .int .i64 l.2.1, .slice ya al yc]) (by simp [results, Try.results9, go_sem, v0, v1, s2]) rfl ?_
  exact ⟨_, l, rfl, (New.storeLow OLab.held (New.storeLow OLab.held (New.storeLow OLab.held Hn.out (p := ⟨w.heap.size, 0, none⟩) zA (.int .i64 l.1)) (p := ⟨w.heap.size, 1, none⟩) zA (.int .i64 l.2.1)) (p := ⟨w.heap.size, 2, none⟩) zA (.slice ya al yc)).mono (Nat.le_of_lt zA), ((((HA.out.trans (HB2.out.mono (Nat.le_of_lt zA))).setCell (p := ⟨w.heap.size, 0, none⟩) (Nat.le_refl _) _).setCell (p := ⟨w.heap.size, 1, none⟩) (Nat.le_refl _) _).setCell (p := ⟨w.heap.size, 2, none⟩) (Nat.le_refl _) _)⟩
end Go.Proofs.Ytcilgihmaaobeaa
end

section
namespace Go.Proofs.Ytcilgihmaaobeaa
open Go.RowKit Go.Deep Go.Sd
set_option linter.unusedSimpArgs false
theorem wordT_bytes {wd : List Nat} (hw : ∀ x, x ∈ wd → x < 3) : ∀ c, c ∈ (wordT wd).data.toList → 97 ≤ c.toNat ∧ c.toNat < 100 := by
  intro c hc
  have h1 : (wordT wd).data.toList = wd.map fun x => UInt8.ofNat (97 + x) := rfl
  rw [h1] at hc
  obtain ⟨x, hx, rfl⟩ := List.mem_map.1 hc
  have := hw x hx
  have e4 : (UInt8.ofNat (97 + x)).toNat = 97 + x := by simp; omega
  omega
end Go.Proofs.Ytcilgihmaaobeaa
end

section
namespace Go.Proofs.Ytcilgihmaaobeaa
open Go.RowKit Go.Deep Go.Sd
set_option linter.unusedSimpArgs false
theorem letB_of {N : Nat} (hN : N ≤ 3) : ∀ wd : List Nat, (∀ x, x ∈ wd → x < N) → letB (N : Int) (wd.map fun x => UInt8.ofNat (97 + x)) = true
  | [], _ => rfl
  | x :: wd, h => by
    have hx := h x (by simp)
    have e4 : (UInt8.ofNat (97 + x)).toNat = 97 + x := by simp; omega
    simp only [List.map_cons, letB]
    rw [e4, if_pos (by omega)]
    exact letB_of hN wd fun y hy => h y (List.mem_cons_of_mem _ hy)
theorem l1Bit_c (b : Bool) (w : World) : Calls Try.prog 47 #[.bool b] w fun e w' => e = .returned (.int .i64 (if b = true then 1 else 0)) ∧ w = w' := by
  cases b with
  | true =>
    go_enter Try.func47, Try.ntmps47
    go_wp2
    go_ret
    exact ⟨rfl, rfl⟩
  | false =>
    go_enter Try.func47, Try.ntmps47
    go_wp2
    go_ret
    exact ⟨rfl, rfl⟩
end Go.Proofs.Ytcilgihmaaobeaa
end

section
namespace Go.Proofs.Ytcilgihmaaobeaa
open Go.RowKit Go.Deep Go.Sd
set_option linter.unusedSimpArgs false
set_option maxHeartbeats 4000000 in
set_option maxRecDepth 100000 in
theorem DrawFollowWords_c {w : World} {vc : Value} {xs : List Int} (h : BytR w vc xs) :
    Calls Try.prog 13 #[vc] w fun e w' => ∃ (v : Value) (l : Lb) (p n : Int), e = .returned (.tuple #[v, .int .i64 p, .int .i64 n]) ∧ New OLab w.heap.size w' v l ∧ (-1 ≤ p ∧ p ≤ 4 ∧ 0 ≤ n ∧ n ≤ 4) ∧ Below w.heap.size w w' := by
  obtain ⟨wA, eA, hA⟩ : ∃ x, x = w.alloc (.cells #[.int .i64 0, .int .i64 0, .slice none 0 0] 26) ∧ Below w.heap.size w x := ⟨_, rfl, (Below.refl _ _).alloc (Nat.le_refl _) _⟩
  have hA' : BytR wA vc xs := BytR.frame _ _ _ _ h hA
  have HN := Lib.hid (l1New_c hA')
  have HK := Lib.hid (fun w' (hb : Below wA.heap.size wA w') => BytR.frame _ _ _ _ hA' hb)
  obtain ⟨a, c, rfl, -⟩ := h.cellsB
  have R0 := Lib.hid (show wA.cell? ⟨w.heap.size, 0, none⟩ = some (.int .i64 0) from by rw [eA]; simp [go_sem])
  have R1 := Lib.hid (show wA.cell? ⟨w.heap.size, 1, none⟩ = some (.int .i64 0) from by rw [eA]; simp [go_sem])
  have R2 := Lib.hid (show wA.cell? ⟨w.heap.size, 2, none⟩ = some (.slice none 0 0) from by rw [eA]; simp [go_sem])
  have F0 := Lib.hid (show wA.frozen? ⟨w.heap.size, 0, none⟩ = false from by rw [eA]; simp [go_sem])
  have F1 := Lib.hid (show wA.frozen? ⟨w.heap.size, 1, none⟩ = false from by rw [eA]; simp [go_sem])
  have F2 := Lib.hid (show wA.frozen? ⟨w.heap.size, 2, none⟩ = false from by rw [eA]; simp [go_sem])
  have zA : w.heap.size < wA.heap.size := by rw [eA]; simp
  have HA := Lib.hid hA
  have eAs := eA.symm
  clear h hA hA' eA
  go_enter Try.func13, Try.ntmps13
  go_wp2_with fail
  (with_reducible refine HN.out.mono ?_)
  rintro e w1 ⟨rfl, ⟨hh, hs⟩, hb⟩
  have HC1 := Lib.hid (show Cur wA.heap.size w1 wA.heap.size (.slice a xs.length c) xs.length [] from ⟨0, hh, Nat.zero_le _, hs⟩)
  have HB1 := Lib.hid hb
  have hz1 := hb.size
  clear hs hb HN eAs
  have HL := Lib.hid (l15Draw_c (fun w' hb' => HK.out w' (HB1.out.trans hb')) HC1.out hz1)
  go_wp2_with fail
  (with_reducible refine HL.out.mono ?_)
  rintro e w2 ⟨v, l, rfl, hc, hb⟩
  have HC2 := Lib.hid hc
  have HX2 := Lib.hid (HB1.out.trans hb)
  have hz2 := HX2.out.size
  have HP := Lib.hid (l1Below_i (z := 5) (fun w' hb' => HK.out w' (HX2.out.trans hb')) HC2.out hz2 (by omega) (by omega))
  clear hc hb HL HC1 HB1 hz1
  go_wp2_with fail
  (with_reducible refine HP.out.mono ?_)
  rintro e w3 ⟨q, rfl, hq, hc, hb, ho⟩
  have hq5 : q < 5 := hq
  have HC3 := Lib.hid hc
  have HX3 := Lib.hid (HX2.out.trans hb)
  have hz3 := HX3.out.size
  have HO := Lib.hid (l1Once_i (z := 12) (fun w' hb' => HK.out w' (HX3.out.trans hb')) HC3.out hz3 (by omega) (by omega))
  clear hc hb ho hq HP HC2 HX2 hz2
  go_wp2_with fail
  (with_reducible refine HO.out.mono ?_)
  rintro e w4 ⟨b, rfl, hc, hb, ho⟩
  have HC4 := Lib.hid hc
  have HX4 := Lib.hid (HX3.out.trans hb)
  have hz4 := HX4.out.size
  have HBt := Lib.hid (fun w => l1Bit_c b w)
  obtain ⟨d, hd, hd0, hd1⟩ : ∃ d : Int, d = (if b = true then 1 else 0) ∧ 0 ≤ d ∧ d ≤ 1 := ⟨_, rfl, by split <;> decide, by split <;> decide⟩
  rw [← hd] at HBt
  clear hc hb ho hd HO HC3 HX3 hz3
  go_wp2_with fail
  (with_reducible refine (HBt.out _).mono ?_)
  rintro e w5 ⟨rfl, rfl⟩
  obtain ⟨p, hp⟩ : ∃ p : Int, p = (q : Int) - d := ⟨_, rfl⟩
  have hp1 : (q : Int) - d = p := hp.symm
  have hp2 : IntKind.i64.wrap p = p := IntWalk.i64_in _ (by omega)
  have Hp := Lib.hid (show -1 ≤ p ∧ p ≤ 4 from by omega)
  clear hp HBt
  have HP := Lib.hid (l1Below_i (z := 5) (fun w' hb' => HK.out w' (HX4.out.trans hb')) HC4.out hz4 (by omega) (by omega))
  clear hd0 hd1 hq5
  go_wp2_with fail
  (with_reducible refine HP.out.mono ?_)
  rintro e w6 ⟨n, rfl, hn, hc, hb, ho⟩
  have Hn5 := Lib.hid (show (0 : Int) ≤ (n : Int) ∧ (n : Int) ≤ 4 from by have h : n < 5 := hn; omega)
  have HB2 := Lib.hid (HX4.out.trans hb)
  obtain ⟨ya, yc, rfl⟩ := hc.labSlice
  have Hn := Lib.hid hc.out.headNew
  clear hc hb ho hn HP HC4 HX4 hz4
  obtain ⟨al, hal⟩ : ∃ n, n = l.2.2.length := ⟨_, rfl⟩
  rw [← hal] at Hn ⊢
  clear hal
  replace R0 := (HB2.out.cell (p := ⟨w.heap.size, 0, none⟩) zA).trans R0.out
  replace F0 := (HB2.out.frozen (p := ⟨w.heap.size, 0, none⟩) zA).trans F0.out
  replace R1 := (HB2.out.cell (p := ⟨w.heap.size, 1, none⟩) zA).trans R1.out
  replace F1 := (HB2.out.frozen (p := ⟨w.heap.size, 1, none⟩) zA).trans F1.out
  replace R2 := (HB2.out.cell (p := ⟨w.heap.size, 2, none⟩) zA).trans R2.out
  replace F2 := (HB2.out.frozen (p := ⟨w.heap.size, 2, none⟩) zA).trans F2.out
  go_wp2_with fail
  have s0 := World.cell?_setCell_same w6 _ (.int .i64 l.1) R0
  have u1 := (World.cell?_setCell_other w6 ⟨w.heap.size, 0, none⟩ ⟨w.heap.size, 1, none⟩ (.int .i64 l.1) (by simp)).trans R1
  have s1 := World.cell?_setCell_same _ _ (.int .i64 l.2.1) u1
  have u2 := (World.cell?_setCell_other _ ⟨w.heap.size, 1, none⟩ ⟨w.heap.size, 2, none⟩ (.int .i64 l.2.1) (by simp)).trans ((World.cell?_setCell_other w6 ⟨w.heap.size, 0, none⟩ ⟨w.heap.size, 2, none⟩ (.int .i64 l.1) (by simp)).trans R2)
  have s2 := World.cell?_setCell_same _ _ (.slice ya al yc) u2
  have v1 := (World.cell?_setCell_other _ ⟨w.heap.size, 2, none⟩ ⟨w.heap.size, 1, none⟩ (.slice ya al yc) (by simp)).trans s1
  have v0 := (World.cell?_setCell_other _ ⟨w.heap.size, 2, none⟩ ⟨w.heap.size, 0, none⟩ (.slice ya al yc) (by simp)).trans ((World.cell?_setCell_other _ ⟨w.heap.size, 1, none⟩ ⟨w.heap.size, 0, none⟩ (.int .i64 l.2.1) (by simp)).trans s0)
  refine bodyPost_ret (v := .tuple #[.agg #[.int .i64 l.1, .int .i64 l.2.1, .slice ya al yc], .int .i64 p, .int .i64 n]) (by simp [results, Try.results13, go_sem, v0, v1, s2]) rfl ?_
  exact ⟨_, l, p, n, rfl, (New.storeLow OLab.held (New.storeLow OLab.held (New.storeLow OLab.held Hn.out (p := ⟨w.heap.size, 0, none⟩) zA (.int .i64 l.1)) (p := ⟨w.heap.size, 1, none⟩) zA (.int .i64 l.2.1)) (p := ⟨w.heap.size, 2, none⟩) zA (.slice ya al yc)).mono (Nat.le_of_lt zA), ⟨Hp.out.1, Hp.out.2, Hn5.out⟩, ((((HA.out.trans (HB2.out.mono (Nat.le_of_lt zA))).setCell (p := ⟨w.heap.size, 0, none⟩) (Nat.le_refl _) _).setCell (p := ⟨w.heap.size, 1, none⟩) (Nat.le_refl _) _).setCell (p := ⟨w.heap.size, 2, none⟩) (Nat.le_refl _) _)⟩
end Go.Proofs.Ytcilgihmaaobeaa
end

section
namespace Go.Proofs.Ytcilgihmaaobeaa
open Go.RowKit Go.Deep Go.Sd
set_option linter.unusedSimpArgs false
def nxC (d : Nat → Nat) (p i : Nat) : Int := if i < p then (d i : Int) else 0
theorem nxC_done {d : Nat → Nat} {p v : Nat} (h : v = d p) (i : Nat) : (if i = p then (v : Int) else nxC d p i) = nxC d (p + 1) i := by
  unfold nxC
  by_cases e : i = p
  · subst e; rw [if_pos rfl, if_pos (by omega), h]
  · rw [if_neg e]
    by_cases h2 : i < p
    · rw [if_pos h2, if_pos (by omega)]
    · rw [if_neg h2, if_neg (by omega)]
set_option maxHeartbeats 16000000 in
set_option maxRecDepth 100000 in
theorem l15Classes_c {w : World} {v : Value} {N S : Nat} {xs : List Arc3} (h : LabR w v ((N : Int), (S : Int), xs)) (ho : okArcs S xs) (hN : N ≤ 3) (hS1 : 1 ≤ S) (hS : S ≤ 12) :
    Calls Try.prog 44 #[v] w fun e w' => ∃ b cap, e = .returned (.slice (some ⟨b, 0, none⟩) S cap) ∧ ClR w' b S (cls xs N (clsK xs N S)) ∧ Below w.heap.size w w' := by
  have HC := Lib.hid (fun w1 (hb : Below w.heap.size w w1) (b cap k p q : Nat) (hc : ClR w1 b S (cls xs N k)) (hp : p < S) (hq : q < S) => l15Alike_c (LabR.frame _ _ _ _ h hb) ho hN hS (cap := cap) hc hp hq)
  obtain ⟨va, rfl, hlen, a, cc, rfl, _, _, _, _⟩ := h
  simp only at HC
  obtain ⟨n, hn⟩ : ∃ n, n = xs.length := ⟨_, rfl⟩
  simp only
  rw [← hn] at HC ⊢
  clear hn hlen ho
  have HK := Lib.hid (clsK_spec xs N S)
  obtain ⟨K, hK⟩ : ∃ K, K = clsK xs N S := ⟨_, rfl⟩
  rw [← hK] at HK ⊢
  clear hK
  obtain ⟨w1, e1⟩ : ∃ x, x = w.alloc (.cells #[.int .i64 N, .int .i64 S, .slice a n cc] 26) := ⟨_, rfl⟩
  have A1 := Lib.hid (show Below w.heap.size w w1 from by rw [e1]; exact (Below.refl _ _).alloc (Nat.le_refl _) _)
  have c0 : w1.cell? ⟨w.heap.size, 0, none⟩ = some (.int .i64 N) := by rw [e1]; simp [go_sem]
  have c1 : w1.cell? ⟨w.heap.size, 1, none⟩ = some (.int .i64 S) := by rw [e1]; simp [go_sem]
  have c2 : w1.cell? ⟨w.heap.size, 2, none⟩ = some (.slice a n cc) := by rw [e1]; simp [go_sem]
  have m1 : w.heap.size < w1.heap.size := by rw [e1]; simp
  have hz := A1.out.size
  have es := e1.symm
  clear e1
  go_enter Try.func44, Try.ntmps44
  go_wp2_with (first
    | (at_make; go_loud (refine wpl_make (R := OIntR) rfl (.tmp 10) (.tmp 10) 54 rfl 3 (.int .i64 0) 8 Try.underlying54 infoI rfl S (by rfl) (by rfl) (by omega) (by omega) OIntR.zero2 ?_; intro wm hzm hnm hbm; have Hnm := Lib.hid hnm; have Hbm := Lib.hid hbm; clear hnm hbm hzm))
    | fail)
  have HCl1 := Lib.hid (show ClR wm w1.heap.size S (cls xs N 0) from by
    obtain ⟨b', c', hv, _, _, hlt, hc⟩ := Hnm.out.cellsI (by simp; exact hS1)
    have hv1 := congrArg Value.ownBlock hv
    simp only [Value.ownBlock, Option.some.injEq] at hv1
    have e : b' = w1.heap.size := hv1.symm
    subst e
    refine ⟨hlt, fun j hj => ?_⟩
    have h1 := (hc j (by simpa using hj)).1
    rw [h1]
    have h2 : cls xs N 0 j = 0 := rfl
    rw [h2]
    simp [List.getD, hj])
  have HBm := Lib.hid (show Below w1.heap.size w1 wm from Hbm.out)
  clear Hnm Hbm
  go_loopg [3, 4] (K + 1) (fun g cv dv wr => ∃ (k b cap : Nat), cv = .slice (some ⟨b, 0, none⟩) S cap ∧ dv = .bool (decide (k ≤ K)) ∧ k + g = K + 1 ∧ Hid (ClR wr b S (cls xs N k)) ∧ Hid (Below w1.heap.size w1 wr))
  case atStart => exact ⟨0, _, _, rfl, by simp, by omega, HCl1, HBm⟩
  case round =>
    clear HCl1 HBm
    obtain ⟨k, b, cap, rfl, rfl, hk, HCl, HB⟩ := hrel
    obtain ⟨wi, rfl⟩ : ∃ x, x = wr := ⟨_, rfl⟩
    have zi := HB.out.size
    have mi : w.heap.size < wi.heap.size := by omega
    have bi := HCl.out.1
    have i0 := (HB.out.cell (p := ⟨w.heap.size, 0, none⟩) m1).trans c0
    have i1 := (HB.out.cell (p := ⟨w.heap.size, 1, none⟩) m1).trans c1
    have i2 := (HB.out.cell (p := ⟨w.heap.size, 2, none⟩) m1).trans c2
    by_cases hkK : k ≤ K
    rotate_left
    · have HR := Lib.hid (show ClR wi b S (cls xs N K) from by
        obtain rfl : k = K + 1 := by omega
        refine ⟨HCl.out.1, fun j hj => ?_⟩
        rw [HCl.out.2 j hj, eqS_iff.1 HK.out.1 j hj])
      have HE := Lib.hid (A1.out.trans (HB.out.mono hz))
      have hkb : decide (k ≤ K) = false := decide_eq_false hkK
      rw [hkb]
      clear hkb hkK HC HK
      go_wp2
      go_ret
      first | exact ⟨b, ⟨cap, rfl⟩, HR.out, HE.out⟩ | exact ⟨b, cap, rfl, HR.out, HE.out⟩
    rw [decide_eq_true hkK]
    obtain ⟨E, hE⟩ : ∃ E, E = sameB xs N (cls xs N k) := ⟨_, rfl⟩
    obtain ⟨d, hd⟩ : ∃ d, d = cls xs N (k + 1) := ⟨_, rfl⟩
    obtain ⟨c, hc⟩ : ∃ c, c = cls xs N k := ⟨_, rfl⟩
    have hdE : d = lst1 E := by rw [hd, hE]; rfl
    have HDn := Lib.hid (fun p => (show dnF (E p) d p p = d p from by rw [hdE]; exact dnF_next (by rw [hE]; exact sameB_eqv _ _ _) p))
    have HLike := Lib.hid (fun p q => (show E p q = (decide (c p = c q) && likeB xs N c p q) from by rw [hE, hc]; rfl))
    have HC1 := Lib.hid (fun w1 (hb : Below w.heap.size w w1) (p q : Nat) (hcl : ClR w1 b S c) (hp : p < S) (hq : q < S) => (show Calls Try.prog 80 #[.agg #[.int .i64 N, .int .i64 S, .slice a n cc], .slice (some ⟨b, 0, none⟩) S cap, .int .i64 p, .int .i64 q] w1 fun e w' => e = .returned (.bool (likeB xs N c p q)) ∧ Below w1.heap.size w1 w' from by rw [hc]; rw [hc] at hcl; exact HC.out w1 hb b cap k p q hcl hp hq))
    have AWi := Lib.hid (A1.out.trans (HB.out.mono hz))
    have HQ := Lib.hid (show allF (fun i => decide (c i = d i)) S 0 = decide (k = K) from by
      rw [hc, hd]
      show eqS (cls xs N k) (cls xs N (k + 1)) S = _
      by_cases e : k = K
      · rw [decide_eq_true e, e]; exact HK.out.1
      · rw [decide_eq_false e]; exact HK.out.2 k (by omega))
    rw [← hc] at HCl
    have HD := Lib.hid hd
    have hS63 : (S : Int) ≤ 12 := by omega
    clear hE hd hdE hc
    go_wp2_with (first
      | (at_make; go_loud (refine wpl_make (R := OIntR) rfl (.tmp 14) (.tmp 14) 54 rfl 3 (.int .i64 0) 8 Try.underlying54 infoI rfl S (by rfl) (by rfl) (by omega) (by omega) OIntR.zero2 ?_; intro wm2 hzm2 hnm hbm; have Hnm := Lib.hid hnm; have Hbm := Lib.hid hbm; clear hnm hbm hzm2))
      | fail)
    have HC0 := Lib.hid (show CellsI wm2 wi.heap.size S (nxC d 0) ∧ wi.heap.size < wm2.heap.size from by
      obtain ⟨b', c', hv, _, _, hlt, hcc⟩ := Hnm.out.cellsI (by simp; exact hS1)
      have hv1 := congrArg Value.ownBlock hv
      simp only [Value.ownBlock, Option.some.injEq] at hv1
      have e : b' = wi.heap.size := hv1.symm
      subst e
      rw [List.length_replicate] at hcc
      exact ⟨hcc.congr (fun j hj => by simp [nxC, List.getD, hj]), hlt⟩)
    have HBm2 := Lib.hid (show Below wi.heap.size wi wm2 from Hbm.out)
    clear Hnm Hbm
    go_loopg [6] S (fun g iv wr => ∃ (p : Nat), iv = .int .i64 p ∧ p + g = S ∧ Hid (CellsI wr wi.heap.size S (nxC d p) ∧ wi.heap.size < wr.heap.size) ∧ Hid (Below wi.heap.size wi wr))
    case atStart => exact ⟨0, rfl, by omega, HC0, HBm2⟩
    case round =>
      clear HC0 HBm2
      obtain ⟨p, rfl, hp, HCe, HBi⟩ := hrel
      obtain ⟨wj, rfl⟩ : ∃ x, x = wr := ⟨_, rfl⟩
      have zj := HBi.out.size
      have sj := HCe.out.2
      have mj : w.heap.size < wj.heap.size := by omega
      have j0 := (HBi.out.cell (p := ⟨w.heap.size, 0, none⟩) (show w.heap.size < wi.heap.size by omega)).trans i0
      have j1 := (HBi.out.cell (p := ⟨w.heap.size, 1, none⟩) (show w.heap.size < wi.heap.size by omega)).trans i1
      have j2 := (HBi.out.cell (p := ⟨w.heap.size, 2, none⟩) (show w.heap.size < wi.heap.size by omega)).trans i2
      by_cases hps : p < S
      · have hpi : (p : Int) < (S : Int) := by omega
        obtain ⟨f1, f2⟩ := HCe.out.1 p hps
        have HCs := Lib.hid (HCe.out.1.set hps (p : Int))
        have HBs := Lib.hid (HBi.out.setCell (p := ⟨wi.heap.size, p, none⟩) (Nat.le_refl _) (.int .i64 p))
        have HDp := HDn.out p
        clear HCe
        go_wp2
        obtain ⟨ws, ews⟩ : ∃ x, x = wj.setCell ⟨wi.heap.size, p, none⟩ (.int .i64 p) := ⟨_, rfl⟩
        have hss : ws.heap.size = wj.heap.size := by rw [ews]; simp
        rw [← ews] at HCs HBs ⊢
        clear ews f1 f2
        go_loopg [7] p (fun g iv wr => ∃ (m v : Nat), iv = .int .i64 ((m : Int) - 1) ∧ m + 0 = g ∧ m ≤ p ∧ dnF (E p) d m v = d p ∧ Hid (CellsI wr wi.heap.size S (fun i => if i = p then (v : Int) else nxC d p i) ∧ wi.heap.size < wr.heap.size) ∧ Hid (Below wi.heap.size wi wr))
        case atStart => exact ⟨p, p, by go_num, by omega, Nat.le_refl _, HDp, Lib.hid ⟨HCs.out, by omega⟩, HBs⟩
        case round =>
          clear HCs HBs hss HDp j0 j1 j2
          obtain ⟨m, v, rfl, hm, hmp, hdn, HCq, HBq⟩ := hrel
          obtain ⟨wq, rfl⟩ : ∃ x, x = wr := ⟨_, rfl⟩
          have zq := HBq.out.size
          have sq := HCq.out.2
          have mq : w.heap.size < wq.heap.size := by omega
          have q0 := (HBq.out.cell (p := ⟨w.heap.size, 0, none⟩) (show w.heap.size < wi.heap.size by omega)).trans i0
          have q1 := (HBq.out.cell (p := ⟨w.heap.size, 1, none⟩) (show w.heap.size < wi.heap.size by omega)).trans i1
          have q2 := (HBq.out.cell (p := ⟨w.heap.size, 2, none⟩) (show w.heap.size < wi.heap.size by omega)).trans i2
          have AWq := Lib.hid (AWi.out.trans (HBq.out.mono AWi.out.size))
          have HClq := Lib.hid (HCl.out.frame HBq.out)
          match m, hm, hmp, hdn with
          | 0, hm, hmp, hdn =>
            have HN2 := Lib.hid (show CellsI wq wi.heap.size S (nxC d (p + 1)) ∧ wi.heap.size < wq.heap.size from ⟨HCq.out.1.congr fun i _ => nxC_done hdn i, sq⟩)
            clear HCq hdn HClq AWq
            go_wp2
            go_roundg (S - (p + 1))
            case measure => omega
            case rel => exact ⟨p + 1, by go_num, by omega, HN2, HBq⟩
          | q + 1, hm, hmp, hdn =>
            rw [show ((q + 1 : Nat) : Int) - 1 = (q : Int) by omega]
            have hqS : q < S := by omega
            have hqi : (q : Int) < (S : Int) := by omega
            have hq0 : (0 : Int) ≤ (q : Int) := by omega
            have gq := HClq.out.2 q hqS
            have gp := HClq.out.2 p hps
            have HDq := Lib.hid (show dnF (E p) d q (if E p q = true then d q else v) = d p from hdn)
            have HL := Lib.hid (HLike.out p q)
            have C1 := Lib.hid (fun w2 (hb : Below w.heap.size w w2) (hcl : ClR w2 b S c) => HC1.out w2 hb p q hcl hps hqS)
            have bq := HClq.out.1
            clear hdn
            by_cases hcc : c p = c q
            · have HL2 := Lib.hid (show E p q = likeB xs N c p q from by rw [HL.out, decide_eq_true hcc]; rfl)
              rw [← hcc] at gq
              clear HL hcc
              generalize likeB xs N c p q = X at HL2 C1
              rw [HL2.out] at HDq
              clear HL2
              have HClc := Lib.hid (fun w2 (hb : Below wq.heap.size wq w2) => HClq.out.frame hb)
              generalize c p = cp at gp gq
              have hS0 : wq.cell? ⟨w.heap.size, 0, none⟩ = some (.int .i64 N) ∧ wq.cell? ⟨w.heap.size, 1, none⟩ = some (.int .i64 S) ∧ wq.cell? ⟨w.heap.size, 2, none⟩ = some (.slice a n cc) ∧ wq.cell? ⟨b, q, none⟩ = some (.int .i64 cp) ∧ wq.cell? ⟨b, p, none⟩ = some (.int .i64 cp) := ⟨q0, q1, q2, gq, gp⟩
              have hSd : wq.drew.cell? ⟨w.heap.size, 0, none⟩ = some (.int .i64 N) ∧ wq.drew.cell? ⟨w.heap.size, 1, none⟩ = some (.int .i64 S) ∧ wq.drew.cell? ⟨w.heap.size, 2, none⟩ = some (.slice a n cc) ∧ wq.drew.cell? ⟨b, q, none⟩ = some (.int .i64 cp) ∧ wq.drew.cell? ⟨b, p, none⟩ = some (.int .i64 cp) := hS0
              have HSS := Lib.hid (fun (w' : World) (hb3 : Below wq.heap.size wq w') => (show w'.cell? ⟨w.heap.size, 0, none⟩ = some (.int .i64 N) ∧ w'.cell? ⟨w.heap.size, 1, none⟩ = some (.int .i64 S) ∧ w'.cell? ⟨w.heap.size, 2, none⟩ = some (.slice a n cc) ∧ w'.cell? ⟨b, q, none⟩ = some (.int .i64 cp) ∧ w'.cell? ⟨b, p, none⟩ = some (.int .i64 cp) from ⟨(hb3.cell (p := ⟨w.heap.size, 0, none⟩) mq).trans hS0.1, (hb3.cell (p := ⟨w.heap.size, 1, none⟩) mq).trans hS0.2.1, (hb3.cell (p := ⟨w.heap.size, 2, none⟩) mq).trans hS0.2.2.1, (hb3.cell (p := ⟨b, q, none⟩) bq).trans hS0.2.2.2.1, (hb3.cell (p := ⟨b, p, none⟩) bq).trans hS0.2.2.2.2⟩))
              have B1 := (Below.refl wq.heap.size wq).drew
              have HA1 := AWq.out.trans (B1.mono AWq.out.size)
              have HCd := HClc.out _ B1
              clear q0 q1 q2 gq gp
              go_wp2
              go_region_held3 (fun w' => w'.cell? ⟨w.heap.size, 0, none⟩ = some (.int .i64 N) ∧ w'.cell? ⟨w.heap.size, 1, none⟩ = some (.int .i64 S) ∧ w'.cell? ⟨w.heap.size, 2, none⟩ = some (.slice a n cc) ∧ w'.cell? ⟨b, q, none⟩ = some (.int .i64 cp) ∧ w'.cell? ⟨b, p, none⟩ = some (.int .i64 cp))
                (first | with_reducible exact hS1' | with_reducible exact hSd | with_reducible exact hS0 | go_keep)
                ((first
                  | (go_at_call 80; (with_reducible refine (C1.out _ HA1 HCd).mono ?_); rintro e w_2 ⟨rfl, hb⟩; have B2 := B1.trans (hb.mono B1.size); have hS1' := HSS.out _ B2; clear hb)
                  | fail))
              obtain ⟨q0, q1, q2, -, -⟩ := hS1'
              have HB2 := Lib.hid (HBq.out.trans (B2.mono zq))
              have HC2 := Lib.hid (show CellsI w_2 wi.heap.size S (fun i => if i = p then (v : Int) else nxC d p i) ∧ wi.heap.size < w_2.heap.size from ⟨HCq.out.1.keep B2 sq, by have := B2.size; omega⟩)
              clear hS0 hSd HSS B1 B2 HA1 HCd HClc HClq HCq AWq C1
              cases X with
              | false =>
                have HD3 := HDq.out
                rw [if_neg (by simp)] at HD3
                clear HDq
                go_wp2
                go_roundg q
                case measure => omega
                case rel => exact ⟨q, v, by go_num, by omega, by omega, HD3, HC2, HB2⟩
              | true =>
                have HD3 := HDq.out
                rw [if_pos rfl] at HD3
                have f1 : w_2.cell? ⟨wi.heap.size, q, none⟩ = some (.int .i64 (if q = p then (v : Int) else nxC d p q)) := (HC2.out.1 q hqS).1
                have f3 : w_2.cell? ⟨wi.heap.size, p, none⟩ = some (.int .i64 (if p = p then (v : Int) else nxC d p p)) := (HC2.out.1 p hps).1
                have f4 := (HC2.out.1 p hps).2
                rw [if_neg (show ¬ q = p by omega), show nxC d p q = (d q : Int) from by unfold nxC; rw [if_pos (by omega)]] at f1
                have HC3 := Lib.hid (show CellsI (w_2.setCell ⟨wi.heap.size, p, none⟩ (.int .i64 (d q))) wi.heap.size S (fun i => if i = p then (d q : Int) else nxC d p i) ∧ wi.heap.size < (w_2.setCell ⟨wi.heap.size, p, none⟩ (.int .i64 (d q))).heap.size from ⟨(HC2.out.1.set hps (d q : Int)).congr fun i _ => (by by_cases e : i = p <;> simp [e]), by simp; exact HC2.out.2⟩)
                have HB3 := Lib.hid (HB2.out.setCell (p := ⟨wi.heap.size, p, none⟩) (Nat.le_refl _) (.int .i64 (d q)))
                rw [if_pos rfl] at f3
                clear HDq HC2 HB2
                go_wp2
                go_roundg q
                case measure => omega
                case rel => exact ⟨q, d q, by go_num, by omega, by omega, HD3, HC3, HB3⟩
            · have HL2 := Lib.hid (show E p q = false from by rw [HL.out, decide_eq_false hcc]; rfl)
              have HD3 := HDq.out
              rw [HL2.out, if_neg (by simp)] at HD3
              obtain ⟨U, hU⟩ : ∃ U : Int, U = (c q : Int) := ⟨_, rfl⟩
              obtain ⟨V, hV⟩ : ∃ V : Int, V = (c p : Int) := ⟨_, rfl⟩
              have hne : (U == V) = false := by rw [beq_eq_false_iff_ne]; omega
              rw [← hU] at gq
              rw [← hV] at gp
              clear HL HL2 HDq hcc hU hV C1 HClq
              go_wp2
              go_quiet (fail)
              go_wp2
              go_roundg q
              case measure => omega
              case rel => exact ⟨q, v, by go_num, by omega, by omega, HD3, Lib.hid ⟨HCq.out.1.keep (below_drewN (Below.refl _ _) _) sq, by first | exact sq | (simp; exact sq)⟩, Lib.hid (below_drewN HBq.out _)⟩
      · obtain rfl : p = S := by omega
        have hpi : ¬ ((p : Int) < (p : Int)) := by omega
        have HClj := Lib.hid (HCl.out.frame HBi.out)
        have HCn := Lib.hid (show ClR wj wi.heap.size p d from ⟨sj, fun j hj => by
          have h1 := (HCe.out.1 j hj).1
          rw [show nxC d p j = (d j : Int) from by unfold nxC; rw [if_pos hj]] at h1; exact h1⟩)
        have HBw := Lib.hid (HB.out.trans (HBi.out.mono zi))
        clear HCe HCl HC1 HDn HLike hp
        go_wp2
        go_loopg [4, 8] p (fun g dv iv wr => ∃ (j : Nat), dv = .bool (!allF (fun i => decide (c i = d i)) j 0) ∧ iv = .int .i64 j ∧ j + g = p ∧ Hid (Below wj.heap.size wj wr))
        case atStart => exact ⟨0, rfl, rfl, by omega, Lib.hid (Below.refl _ _)⟩
        case round =>
          obtain ⟨j, rfl, rfl, hj, HBq⟩ := hrel
          obtain ⟨wq, rfl⟩ : ∃ x, x = wr := ⟨_, rfl⟩
          have q1 := (HBq.out.cell (p := ⟨w.heap.size, 1, none⟩) mj).trans j1
          have HS := Lib.hid (allF_snoc (fun i => decide (c i = d i)) j)
          generalize hD : allF (fun i => decide (c i = d i)) j 0 = D at HS ⊢
          by_cases hjp : j < p
          · have gc := (HClj.out.frame HBq.out).2 j hjp
            have gn := (HCn.out.frame HBq.out).2 j hjp
            have hjpi : (j : Int) < (p : Int) := by omega
            clear hD
            cases D with
            | false =>
              have HS2 := Lib.hid (show true = !allF (fun i => decide (c i = d i)) (j + 1) 0 from by rw [HS.out]; rfl)
              clear HS gc gn
              simp only [Bool.not_false]
              go_wp2
              go_quiet (fail)
              go_wp2
              go_roundg (p - (j + 1))
              case measure => omega
              case rel => exact ⟨j + 1, by rw [← HS2.out], by go_num, by omega, Lib.hid (below_drewN HBq.out _)⟩
            | true =>
              simp only [Bool.not_true]
              by_cases hcd : c j = d j
              · have HS2 := Lib.hid (show false = !allF (fun i => decide (c i = d i)) (j + 1) 0 from by rw [HS.out, decide_eq_true hcd]; rfl)
                rw [← hcd] at gn
                clear HS hcd
                generalize c j = ca at gc gn
                go_wp2
                go_quiet (fail)
                go_wp2
                go_roundg (p - (j + 1))
                case measure => omega
                case rel => exact ⟨j + 1, by rw [← HS2.out], by go_num, by omega, Lib.hid (below_drewN HBq.out _)⟩
              · have HS2 := Lib.hid (show true = !allF (fun i => decide (c i = d i)) (j + 1) 0 from by rw [HS.out, decide_eq_false hcd]; rfl)
                obtain ⟨U, hU⟩ : ∃ U : Int, U = (c j : Int) := ⟨_, rfl⟩
                obtain ⟨V, hV⟩ : ∃ V : Int, V = (d j : Int) := ⟨_, rfl⟩
                have hne : (V == U) = false := by rw [beq_eq_false_iff_ne]; omega
                rw [← hU] at gc
                rw [← hV] at gn
                clear HS hcd hU hV
                go_wp2
                go_quiet (fail)
                go_wp2
                go_roundg (p - (j + 1))
                case measure => omega
                case rel => exact ⟨j + 1, by rw [← HS2.out]; simp only [bne, hne]; rfl, by go_num, by omega, Lib.hid (below_drewN HBq.out _)⟩
          · have hjpi : ¬ ((j : Int) < (p : Int)) := by omega
            have HDe := Lib.hid (show (!D) = decide (k + 1 ≤ K) from by
              rw [← hD, show j = p by omega, HQ.out]
              by_cases e : k = K
              · rw [decide_eq_true e, decide_eq_false (by omega)]; rfl
              · rw [decide_eq_false e, decide_eq_true (by omega)]; rfl)
            have HR := Lib.hid (show ClR wq wi.heap.size p (cls xs N (k + 1)) from by rw [← HD.out]; exact HCn.out.frame HBq.out)
            have HE := Lib.hid (HBw.out.trans (HBq.out.mono HBw.out.size))
            clear hD HS HQ HK HC
            generalize (!D) = D2 at HDe ⊢
            go_wp2
            go_roundg (K + 1 - (k + 1))
            case measure => omega
            case rel => exact ⟨k + 1, _, _, rfl, by rw [HDe.out], by omega, HR, HE⟩
end Go.Proofs.Ytcilgihmaaobeaa
end
