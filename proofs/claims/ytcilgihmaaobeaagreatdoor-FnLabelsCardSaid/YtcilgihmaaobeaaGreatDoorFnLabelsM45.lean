/-
  Laws for this claim's walks, contracts of the functions that it reaches.
-/
import Derived.Test.YtcilgihmaaobeaaGreatDoorFnLabelsM32
import Derived.Test.YtcilgihmaaobeaaGreatDoorFnLabelsM44
set_option linter.unusedVariables false
set_option linter.unusedSimpArgs false
section
namespace Go.Proofs.YtcilgihmaaobeaaGreatDoor
open Go.RowKit Go.Deep Go.Sd
set_option linter.unusedSimpArgs false
theorem lofV_len (z : Sh) : (lofV z).2.2.length ≤ 81 := by
  rw [lofV_eq]
  split
  · have h9 := stW_len z
    have := garcs_le z.2 (stW z) h9 (stW z).length
    simp only
    omega
  · simp
set_option maxHeartbeats 8000000 in
set_option maxRecDepth 100000 in
theorem l14Draw_c {lo : Nat} {w : World} {cb : Nat} {Kv : Value} {xs : List Int} {rs : List Res} (hK : ∀ w', Below lo w w' → BytR w' Kv xs) (hc : Cur lo w cb Kv xs.length rs) (hlo : lo ≤ w.heap.size) :
    Calls Tryz.prog 74 #[.pointer (some ⟨cb, 0, none⟩)] w fun e w' => ∃ (v : Value) (l : Lb), e = .returned v ∧ l.2.2.length ≤ 81 ∧ Cur lo w' cb Kv xs.length (ResLg v l :: rs) ∧ Below lo w w' := by
  have HK := Lib.hid hK
  have hcx := hc.box hlo [.int .i64 0, .int .i64 0, .slice none 0 0] 26
  obtain ⟨wA, eA⟩ : ∃ x, x = w.alloc (.cells #[.int .i64 0, .int .i64 0, .slice none 0 0] 26) := ⟨_, rfl⟩
  have hbA : Below w.heap.size w wA := by rw [eA]; exact (Below.refl _ _).alloc (Nat.le_refl _) _
  have HCA := Lib.hid (show Cur lo wA cb Kv xs.length (Res.box w.heap.size [.int .i64 0, .int .i64 0, .slice none 0 0] :: rs) from by rw [eA]; exact hcx)
  have HBA := Lib.hid (hbA.mono hlo)
  have hzA : lo ≤ wA.heap.size := Nat.le_trans hlo hbA.size
  have HO := Lib.hid (l1Once_i (z := 4) (fun w' hb => HK.out w' (HBA.out.trans hb)) HCA.out hzA (by omega) (by omega))
  have eAs := eA.symm
  clear hK hc hcx hbA eA
  go_enter Tryz.func74, Tryz.ntmps74
  go_wp2_with fail
  (with_reducible refine HO.out.mono ?_)
  rintro e w1 ⟨b, rfl, hc, hb, ho⟩
  have HC1 := Lib.hid hc
  have HB1 := Lib.hid (HBA.out.trans hb)
  have hz1 : lo ≤ w1.heap.size := Nat.le_trans hzA hb.size
  clear hc hb ho HO eAs HCA HBA hzA
  cases b with
  | true =>
    have HD := Lib.hid (l3Draw_c (fun w' hb => HK.out w' (HB1.out.trans hb)) HC1.out hz1)
    go_wp2_with fail
    (with_reducible refine HD.out.mono ?_)
    rintro e w2 ⟨vz, z, rfl, hsm, hc, hb⟩
    have hz2 : lo ≤ w2.heap.size := Nat.le_trans hz1 hb.size
    obtain ⟨G, hG, -⟩ := hc.out.head
    have hG' : OSh w2 vz z G := hG
    have HL := Lib.hid (spec_LabelsOf_g hG'.reads (fun f hf => by have := hsm.2.2.2 f hf; omega))
    have HC2 := Lib.hid hc.rest
    have HB2 := Lib.hid (HB1.out.trans hb)
    have HLn := Lib.hid (lofV_len z)
    generalize lofV z = l at HL HLn
    generalize lofOk z = ok at HL
    clear hsm hc hb hG hG' HD HC1 HB1
    go_wp2_with fail
    (with_reducible refine HL.out.mono ?_)
    rintro e w3 ⟨vl, rfl, hn, hb⟩
    have hz3 : lo ≤ w3.heap.size := Nat.le_trans hz2 hb.size
    obtain ⟨l0, l1, la⟩ := l
    obtain ⟨ya, yc, rfl⟩ := OLabG.slice hn.choose_spec.1
    simp only at HLn ⊢
    have hc3 := (HC2.out.new OLabG.held hb hz2 hn).perm2'
    have HB3 := Lib.hid (HB2.out.trans (hb.mono hz2))
    obtain ⟨al, hal⟩ : ∃ n, n = la.length := ⟨_, rfl⟩
    simp only [← hal] at hc3 HLn ⊢
    have Hal := Lib.hid hal
    clear hal
    obtain ⟨w4, e4, hb4, c0, c1, c2, m4⟩ := boxA3_ex w3 26 (.int .i64 l0) (.int .i64 l1) (.slice ya al yc)
    have hc4 := hc3.below hb4
    have HC4 := Lib.hid hc4
    have HB4 := Lib.hid (HB3.out.trans (hb4.mono hz3))
    have hz4 : lo ≤ w4.heap.size := Nat.le_trans hz3 hb4.size
    clear hn hb hc3 hc4 hb4 HL HC2 HB2 HB3
    cases ok with
    | true =>
      by_cases h4 : l1 ≤ 4
      · have hr := HC4.out
        obtain ⟨-, -, hcr⟩ := hr.out.headBox
        have r0 := (hcr 0 _ rfl).1
        have f0 := (hcr 0 _ rfl).2
        have r1 := (hcr 1 _ rfl).1
        have f1 := (hcr 1 _ rfl).2
        have r2 := (hcr 2 _ rfl).1
        have f2 := (hcr 2 _ rfl).2
        have hs1 := hr.store hz4 (j := 0) rfl (.int .i64 l0)
        have hB1 := hr.storeBelow HB4.out 0 (.int .i64 l0)
        have hs2 := hs1.store (by simpa using hz4) (j := 1) rfl (.int .i64 l1)
        have hB2 := hs1.storeBelow hB1 1 (.int .i64 l1)
        have hs3 := hs2.store (by simpa using hz4) (j := 2) rfl (.slice ya al yc)
        have hB3 := hs2.storeBelow hB2 2 (.slice ya al yc)
        obtain ⟨-, -, hcs⟩ := hs3.out.headBox
        have S0 := Lib.hid (hcs 0 (.int .i64 l0) rfl).1
        have S1 := Lib.hid (hcs 1 (.int .i64 l1) rfl).1
        have S2 := Lib.hid (hcs 2 (.slice ya al yc) rfl).1
        have HC3 := Lib.hid hs3.rest
        have HB3 := Lib.hid hB3
        clear hcr hcs hs1 hs2 hs3 hB1 hB2 hB3
        clear hr HC4 HB4
        go_wp2_with fail
        refine bodyPost_ret (v := .agg #[.int .i64 l0, .int .i64 l1, .slice ya al yc]) (by simp [results, Tryz.results74, go_sem, S0.out, S1.out, S2.out]) rfl ?_
        exact ⟨_, (l0, l1, la), rfl, by have := Hal.out; have := HLn.out; simp only; omega, HC3.out, HB3.out⟩
      · have HCq := Lib.hid HC4.out.perm2'.rest
        have HBq := Lib.hid HB4.out
        obtain ⟨wq, ewq⟩ : ∃ x, x = w4 := ⟨_, rfl⟩
        rw [← ewq] at e4 hz4 HCq HBq c1
        clear HC4 HB4 ewq m4 c0 c2 Hal
        have HO2 := Lib.hid (l1Once_i (z := 4) (fun w' hb => HK.out w' (HBq.out.trans hb)) HCq.out hz4 (by omega) (by omega))
        go_wp2_with fail
        (with_reducible refine HO2.out.mono ?_)
        rintro e w5 ⟨b2, rfl, hc, hb, ho⟩
        have HC5 := Lib.hid hc
        have HB5 := Lib.hid (HBq.out.trans hb)
        have hz5 : lo ≤ w5.heap.size := Nat.le_trans hz4 hb.size
        clear hc hb ho HO2 HCq HBq
        cases b2 with
        | true =>
          have hnw := New.rowLit acell_lay 68 w5 [(0, 0, 0), (0, 1, 1), (1, 0, 1)] #[.int .i64 0, .int .i64 0, .int .i64 0, .int .i64 0, .int .i64 1, .int .i64 1, .int .i64 1, .int .i64 0, .int .i64 1] rfl (by decide) (by decide)
          obtain ⟨w6, e6⟩ : ∃ x, x = w5.alloc (.cells #[.int .i64 0, .int .i64 0, .int .i64 0, .int .i64 0, .int .i64 1, .int .i64 1, .int .i64 1, .int .i64 0, .int .i64 1] 68) := ⟨_, rfl⟩
          rw [← e6] at hnw
          have hb6 : Below w5.heap.size w5 w6 := by rw [e6]; exact (Below.refl _ _).alloc (Nat.le_refl _) _
          have hr := (HC5.out.new RowG.held hb6 hz5 hnw).perm2'
          have HB6 := Lib.hid (HB5.out.trans (hb6.mono hz5))
          have hz6 : lo ≤ w6.heap.size := Nat.le_trans hz5 hb6.size
          have e6s := e6.symm
          clear e6 hb6 hnw HC5 HB5
          obtain ⟨-, -, hcr⟩ := hr.out.headBox
          have r0 := (hcr 0 _ rfl).1
          have f0 := (hcr 0 _ rfl).2
          have r1 := (hcr 1 _ rfl).1
          have f1 := (hcr 1 _ rfl).2
          have r2 := (hcr 2 _ rfl).1
          have f2 := (hcr 2 _ rfl).2
          have hs1 := hr.store hz6 (j := 0) rfl (.int .i64 2)
          have hB1 := hr.storeBelow HB6.out 0 (.int .i64 2)
          have hs2 := hs1.store (by simpa using hz6) (j := 1) rfl (.int .i64 2)
          have hB2 := hs1.storeBelow hB1 1 (.int .i64 2)
          have hs3 := hs2.store (by simpa using hz6) (j := 2) rfl (.slice (some ⟨w5.heap.size, 0, none⟩) 3 3)
          have hB3 := hs2.storeBelow hB2 2 (.slice (some ⟨w5.heap.size, 0, none⟩) 3 3)
          obtain ⟨-, -, hcs⟩ := hs3.out.headBox
          have S0 := Lib.hid (hcs 0 (.int .i64 2) rfl).1
          have S1 := Lib.hid (hcs 1 (.int .i64 2) rfl).1
          have S2 := Lib.hid (hcs 2 (.slice (some ⟨w5.heap.size, 0, none⟩) 3 3) rfl).1
          have HC3 := Lib.hid hs3.rest
          have HB3 := Lib.hid hB3
          clear hcr hcs hs1 hs2 hs3 hB1 hB2 hB3
          have HCv := Lib.hid (HC3.out.conv (s := ResLg (.agg #[.int .i64 2, .int .i64 2, .slice (some ⟨w5.heap.size, 0, none⟩) 3 3]) (2, 2, [(0, 0, 0), (0, 1, 1), (1, 0, 1)])) (by simpa using hz6) (fun F h => ⟨_, rfl, h⟩))
          clear hr HB6 HC3
          go_wp2_with fail
          refine bodyPost_ret (v := .agg #[.int .i64 2, .int .i64 2, .slice (some ⟨w5.heap.size, 0, none⟩) 3 3]) (by simp [results, Tryz.results74, go_sem, S0.out, S1.out, S2.out]) rfl ?_
          exact ⟨_, (2, 2, [(0, 0, 0), (0, 1, 1), (1, 0, 1)]), rfl, by decide, HCv.out, HB3.out⟩
        | false =>
          have HP := Lib.hid (l1Below_i (z := 4) (fun w' hb => HK.out w' (HB5.out.trans hb)) HC5.out hz5 (by omega) (by omega))
          go_wp2_with fail
          (with_reducible refine HP.out.mono ?_)
          rintro e w6 ⟨x, rfl, hx, hc, hb, ho⟩
          obtain ⟨N, hN⟩ : ∃ N, N = x + 1 := ⟨_, rfl⟩
          have hx4 : x < 4 := hx
          have hNi : IntKind.i64.wrap (1 + (x : Int)) = (N : Int) := by rw [IntWalk.i64_in _ (by omega)]; omega
          have hNi2 : (1 + (x : Int)) = (N : Int) := by omega
          have hN1 : 1 ≤ N := by omega
          have hN4 : N ≤ 4 := by omega
          have HC6 := Lib.hid hc
          have HB6 := Lib.hid (HB5.out.trans hb)
          have hz6 : lo ≤ w6.heap.size := Nat.le_trans hz5 hb.size
          obtain ⟨w7, e7, hb7, -, -, -, m7⟩ := boxA3_ex w6 26 (.int .i64 2) (.int .i64 (N : Int)) (.slice none 0 0)
          have hcx := HC6.out.box hz6 [.int .i64 2, .int .i64 (N : Int), .slice none 0 0] 26
          have HC7 := Lib.hid (show Cur lo w7 cb Kv xs.length (Res.box w6.heap.size [.int .i64 2, .int .i64 (N : Int), .slice none 0 0] :: Res.box w.heap.size [.int .i64 0, .int .i64 0, .slice none 0 0] :: rs) from by rw [← e7]; exact hcx)
          have HB7 := Lib.hid (HB6.out.trans (hb7.mono hz6))
          have hz7 : lo ≤ w7.heap.size := Nat.le_trans hz6 hb7.size
          have hnr := New.emptyRow (sz := 3) (f := acell) 68 w7
          obtain ⟨w8, e8⟩ : ∃ x, x = w7.alloc (.cells #[] 68) := ⟨_, rfl⟩
          rw [← e8] at hnr
          have hb8 : Below w7.heap.size w7 w8 := by rw [e8]; exact (Below.refl _ _).alloc (Nat.le_refl _) _
          have HC8 := Lib.hid (HC7.out.new RowG.held hb8 hz7 hnr).perm2'
          have HB8 := Lib.hid (HB7.out.trans (hb8.mono hz7))
          have hz8 : lo ≤ w8.heap.size := Nat.le_trans hz7 hb8.size
          have HQ := Lib.hid (l1Below_i (z := 8) (fun w' hb => HK.out w' (HB8.out.trans hb)) HC8.out hz8 (by omega) (by omega))
          have HE7 := Lib.hid e7
          have Hz67 := Lib.hid (show w7.heap.size = w6.heap.size + 1 from by rw [← e7]; simp)
          have HE8 := Lib.hid e8.symm
          clear hx hx4 hN hc hb ho hcx hb7 hb8 hnr e8 e7 m7 HP HC5 HB5 HC6 HB6 HC7 HB7
          go_wp2_with fail
          rw [HE7.out, HE8.out]
          (with_reducible refine HQ.out.mono ?_)
          rintro e w9 ⟨x9, rfl, hx9, hc, hb, ho⟩
          have hx7 : x9 ≤ 7 := by have h : x9 < 8 := hx9; omega
          obtain ⟨sb, hsb⟩ : ∃ b, b = w6.heap.size := ⟨_, rfl⟩
          rw [Hz67.out, ← hsb] at hc
          rw [← hsb]
          obtain ⟨yb, hyb⟩ : ∃ b, b = sb + 1 := ⟨_, rfl⟩
          rw [← hyb] at hc ⊢
          have HC9 := Lib.hid hc
          have HB9 := Lib.hid (HB8.out.trans hb)
          have HX := Lib.hid (show ([] : List Arc3).length + x9 ≤ 7 from by simpa using hx7)
          clear hc hb ho hx9 HQ Hz67 HE7 HE8 HC8 HB8 hsb hyb hz8 hz7 hNi hNi2
          go_wp2_with fail
          go_loopg [6, 7] x9 (fun g lv nv wr => ∃ (ys : List Arc3) (ya : Option Addr) (yn yc : Nat), lv = .slice ya yn yc ∧ nv = .int .i64 (g : Nat) ∧ g ≤ 7 ∧ Hid (ys.length + g ≤ 7) ∧ Hid (Cur lo wr cb Kv xs.length (Res.box sb [.int .i64 2, .int .i64 (N : Int), .slice none 0 0] :: Res.row 68 3 acell (.slice ya yn yc) ys :: Res.box w.heap.size [.int .i64 0, .int .i64 0, .slice none 0 0] :: rs)) ∧ Hid (Below lo w wr))
          case atStart => exact ⟨[], some ⟨yb, 0, none⟩, 0, 0, rfl, rfl, hx7, HX, HC9, HB9⟩
          case round =>
            clear HX HC9 HB9 hx7
            obtain ⟨ys, ya, yn, yc, rfl, rfl, hg, HY, HC, HB⟩ := hrel
            obtain ⟨wk, rfl⟩ : ∃ x, x = wr := ⟨_, rfl⟩
            have hzk : lo ≤ wk.heap.size := Nat.le_trans hlo HB.out.size
            cases gk with
            | zero =>
              obtain ⟨G, hG, -⟩ := HC.out.rest.out.head
              have hG' : RowA 68 wk (.slice ya yn yc) ys G := hG
              have HSo := Lib.hid (l14Sort_c (OArcs.reads (RowG.arcs hG')) (by have := HY.out; omega))
              have HSl := Lib.hid (show (sortM ys).length ≤ 81 from by have := sortM_len ys; have := HY.out; omega)
              generalize sortM ys = zs at HSo HSl
              clear hG hG'
              go_wp2_with fail
              (with_reducible refine HSo.out.mono ?_)
              rintro e wa ⟨vs, rfl, hn, hb⟩
              obtain ⟨za, zc, rfl⟩ := RowG.slice hn.choose_spec.1
              obtain ⟨zl, hzl⟩ : ∃ n, n = zs.length := ⟨_, rfl⟩
              have hca := HC.out.new RowG.held hb hzk hn
              have hza : lo ≤ wa.heap.size := Nat.le_trans hzk hb.size
              rw [← hzl] at hca ⊢
              -- the list's box, the sorted row, the result's box
              have hcb := hca.perm2'
              have hBa : Below lo w wa := HB.out.trans (hb.mono hzk)
              have hcc := hcb.store hza (j := 2) rfl (.slice za zl zc)
              have hBc := hcb.storeBelow hBa 2 (.slice za zl zc)
              obtain ⟨-, -, hc0⟩ := hcb.out.headBox
              have d2 := (hc0 2 _ rfl).1
              have t2 := (hc0 2 _ rfl).2
              obtain ⟨-, -, hc1⟩ := hcc.out.headBox
              obtain ⟨wc, ewc⟩ : ∃ x, x = wa.setCell ⟨sb, 2, none⟩ (.slice za zl zc) := ⟨_, rfl⟩
              rw [← ewc] at hcc hBc hc1
              have k0 := (hc1 0 _ rfl).1
              have k1 := (hc1 1 _ rfl).1
              have k2 := (hc1 2 _ rfl).1
              have hzc : lo ≤ wc.heap.size := by rw [ewc]; simpa using hza
              have hr := (hcc.rest).perm ((List.Perm.cons _ (List.Perm.swap _ _ _)).trans (List.Perm.swap _ _ _))
              have ewcs := ewc.symm
              clear hn hb hca hcb hcc hc0 hc1 ewc HSo HC HB hBa
              obtain ⟨-, -, hcr⟩ := hr.out.headBox
              have r0 := (hcr 0 _ rfl).1
              have f0 := (hcr 0 _ rfl).2
              have r1 := (hcr 1 _ rfl).1
              have f1 := (hcr 1 _ rfl).2
              have r2 := (hcr 2 _ rfl).1
              have f2 := (hcr 2 _ rfl).2
              have hs1 := hr.store hzc (j := 0) rfl (.int .i64 2)
              have hB1 := hr.storeBelow hBc 0 (.int .i64 2)
              have hs2 := hs1.store (by simpa using hzc) (j := 1) rfl (.int .i64 (N : Int))
              have hB2 := hs1.storeBelow hB1 1 (.int .i64 (N : Int))
              have hs3 := hs2.store (by simpa using hzc) (j := 2) rfl (.slice za zl zc)
              have hB3 := hs2.storeBelow hB2 2 (.slice za zl zc)
              obtain ⟨-, -, hcs⟩ := hs3.out.headBox
              have S0 := Lib.hid (hcs 0 (.int .i64 2) rfl).1
              have S1 := Lib.hid (hcs 1 (.int .i64 (N : Int)) rfl).1
              have S2 := Lib.hid (hcs 2 (.slice za zl zc) rfl).1
              have HC3 := Lib.hid hs3.rest
              have HB3 := Lib.hid hB3
              clear hcr hcs hs1 hs2 hs3 hB1 hB2 hB3
              have HCv := Lib.hid (HC3.out.conv (s := ResLg (.agg #[.int .i64 2, .int .i64 (N : Int), .slice za zl zc]) (2, (N : Int), zs)) (by simpa using hzc) (fun F h => ⟨_, rfl, h⟩))
              have HCw := Lib.hid HCv.out.perm2'.rest
              clear hr hBc HC3 HCv hzl
              go_wp2_with fail
              refine bodyPost_ret (v := .agg #[.int .i64 2, .int .i64 (N : Int), .slice za zl zc]) (by simp [results, Tryz.results74, go_sem, S0.out, S1.out, S2.out]) rfl ?_
              exact ⟨_, (2, (N : Int), zs), rfl, HSl.out, HCw.out, HB3.out⟩
            | succ g =>
              have hg0 : (0 : Int) < ((g + 1 : Nat) : Int) := by omega
              have hbd : Below wk.heap.size wk wk.drew := (Below.refl _ _).drew
              have HCd := Lib.hid (HC.out.below hbd)
              have HBd := Lib.hid (HB.out.trans (hbd.mono hzk))
              have hzd : lo ≤ wk.drew.heap.size := Nat.le_trans hzk hbd.size
              have hSd : wk.drew.cell? ⟨sb, 1, none⟩ = some (.int .i64 (N : Int)) := ((HCd.out.out.headBox).2.2 1 _ rfl).1
              have HP1 := Lib.hid (l1Below_c (N := N) (fun w' hb => HK.out w' (HBd.out.trans hb)) HCd.out hzd hN1 (by omega))
              clear hbd HC HB
              go_wp2_with fail
              refine wp_region_L (fun w' => w'.cell? ⟨sb, 1, none⟩ = some (.int .i64 (N : Int))) (by kernel_rfl) ?_
              refine wpAnyL_take 0 (v := ?_) rfl (by kernel_rfl) (by kernel_rfl) (by kernel_rfl) (by kernel_rfl) (fun _ _ _ h => h) (Or.inl ⟨by rfl, ?_⟩) hSd ?_
              rotate_left
              · (intro w hSw; (try dsimp only at hSw); go_simp) <;> (try with_reducible rfl)
              try simp only [Act.put, List.getElem_toArray, List.getElem_cons_zero, List.getElem_cons_succ, List.setIfInBounds_toArray, List.set_cons_zero, List.set_cons_succ]
              refine wpAnyL_take 1 (v := ?_) rfl (by kernel_rfl) (by kernel_rfl) (by kernel_rfl) (by kernel_rfl) (fun _ _ _ h => h) (Or.inl ⟨by rfl, ?_⟩) hSd ?_
              rotate_left
              · (intro w hSw; (try dsimp only at hSw); go_simp) <;> (try with_reducible rfl)
              try simp only [Act.put, List.getElem_toArray, List.getElem_cons_zero, List.getElem_cons_succ, List.setIfInBounds_toArray, List.set_cons_zero, List.set_cons_succ]
              refine wpAnyL_take 2 (v := ?_) rfl (by kernel_rfl) (by kernel_rfl) (by kernel_rfl) (by kernel_rfl) (fun _ _ _ h => h) (Or.inl ⟨by rfl, ?_⟩) hSd ?_
              rotate_left
              · (intro w hSw; (try dsimp only at hSw); go_simp) <;> (try with_reducible rfl)
              try simp only [Act.put, List.getElem_toArray, List.getElem_cons_zero, List.getElem_cons_succ, List.setIfInBounds_toArray, List.set_cons_zero, List.set_cons_succ]
              refine wpAnyL_take 3 (v := ?_) rfl (by kernel_rfl) (by kernel_rfl) (by kernel_rfl) (by kernel_rfl) (fun _ _ _ h => h) (Or.inl ⟨by rfl, ?_⟩) hSd ?_
              rotate_left
              · (intro w hSw; (try dsimp only at hSw); go_simp) <;> (try with_reducible rfl)
              try simp only [Act.put, List.getElem_toArray, List.getElem_cons_zero, List.getElem_cons_succ, List.setIfInBounds_toArray, List.set_cons_zero, List.set_cons_succ]
              refine wpAnyL_take 5 (v := ?_) rfl (by kernel_rfl) (by kernel_rfl) (by kernel_rfl) (by kernel_rfl) (fun _ _ _ h => h) (Or.inl ⟨by rfl, ?_⟩) hSd ?_
              rotate_left
              · (intro w hSw; (try dsimp only at hSw); go_simp) <;> (try with_reducible rfl)
              try simp only [Act.put, List.getElem_toArray, List.getElem_cons_zero, List.getElem_cons_succ, List.setIfInBounds_toArray, List.set_cons_zero, List.set_cons_succ]
              refine wpAnyL_take 6 (v := ?_) rfl (by kernel_rfl) (by kernel_rfl) (by kernel_rfl) (by kernel_rfl) (fun _ _ _ h => h) (Or.inl ⟨by rfl, ?_⟩) hSd ?_
              rotate_left
              · (intro w hSw; (try dsimp only at hSw); go_simp) <;> (try with_reducible rfl)
              try simp only [Act.put, List.getElem_toArray, List.getElem_cons_zero, List.getElem_cons_succ, List.setIfInBounds_toArray, List.set_cons_zero, List.set_cons_succ]
              refine wpAnyL_take 7 (v := ?_) rfl (by kernel_rfl) (by kernel_rfl) (by kernel_rfl) (by kernel_rfl) (fun _ _ _ h => h) (Or.inl ⟨by rfl, ?_⟩) hSd ?_
              rotate_left
              · (intro w hSw; (try dsimp only at hSw); go_simp) <;> (try with_reducible rfl)
              try simp only [Act.put, List.getElem_toArray, List.getElem_cons_zero, List.getElem_cons_succ, List.setIfInBounds_toArray, List.set_cons_zero, List.set_cons_succ]
              refine wpAnyL_take 9 (v := ?_) rfl (by kernel_rfl) (by kernel_rfl) (by kernel_rfl) (by kernel_rfl) (fun _ _ _ h => h) (Or.inl ⟨by rfl, ?_⟩) hSd ?_
              rotate_left
              · (intro w hSw; (try dsimp only at hSw); go_simp) <;> (try with_reducible rfl)
              try simp only [Act.put, List.getElem_toArray, List.getElem_cons_zero, List.getElem_cons_succ, List.setIfInBounds_toArray, List.set_cons_zero, List.set_cons_succ]
              refine wpAnyL_one 4 (by kernel_rfl) rfl (fun K hK => ?_)
              go_simp
              (with_reducible refine HP1.out.mono ?_)
              rintro e wu ⟨q1, rfl, hq, hc, hb, ho⟩
              have HCwu := Lib.hid hc
              have HBwu := Lib.hid (HBd.out.trans hb)
              have hzwu : lo ≤ wu.heap.size := Nat.le_trans hzd hb.size
              have hSwu : wu.cell? ⟨sb, 1, none⟩ = some (.int .i64 (N : Int)) := ((hc.out.headBox).2.2 1 _ rfl).1
              have HPwu := Lib.hid (l1Below_c (N := N) (fun w' hb => HK.out w' (HBwu.out.trans hb)) hc hzwu hN1 (by omega))
              clear hb ho hq hc HP1
              go_wp2_with fail
              refine hK.out _ _ (fun _ => hSwu) ?_
              clear hK K
              try simp only [Act.put, List.getElem_toArray, List.getElem_cons_zero, List.getElem_cons_succ, List.setIfInBounds_toArray, List.set_cons_zero, List.set_cons_succ]
              refine wpAnyL_one 8 (by kernel_rfl) rfl (fun K hK => ?_)
              go_simp
              (with_reducible refine HPwu.out.mono ?_)
              rintro e wv ⟨q2, rfl, hq, hc, hb, ho⟩
              have HCwv := Lib.hid hc
              have HBwv := Lib.hid (HBwu.out.trans hb)
              have hzwv : lo ≤ wv.heap.size := Nat.le_trans hzwu hb.size
              have hSwv : wv.cell? ⟨sb, 1, none⟩ = some (.int .i64 (N : Int)) := ((hc.out.headBox).2.2 1 _ rfl).1
              have HPwv := Lib.hid (l1Below_i (z := 2) (fun w' hb => HK.out w' (HBwv.out.trans hb)) hc hzwv (by omega) (by omega))
              clear hb ho hq hc HPwu
              go_wp2_with fail
              refine hK.out _ _ (fun _ => hSwv) ?_
              clear hK K
              try simp only [Act.put, List.getElem_toArray, List.getElem_cons_zero, List.getElem_cons_succ, List.setIfInBounds_toArray, List.set_cons_zero, List.set_cons_succ]
              refine wpAnyL_one 10 (by kernel_rfl) rfl (fun K hK => ?_)
              go_simp
              (with_reducible refine HPwv.out.mono ?_)
              rintro e wt ⟨q3, rfl, hq, hc, hb, ho⟩
              have HCwt := Lib.hid hc
              have HBwt := Lib.hid (HBwv.out.trans hb)
              have hzwt : lo ≤ wt.heap.size := Nat.le_trans hzwv hb.size
              have hSwt : wt.cell? ⟨sb, 1, none⟩ = some (.int .i64 (N : Int)) := ((hc.out.headBox).2.2 1 _ rfl).1
              obtain ⟨i0, h0, hi0, hs0⟩ := hc
              obtain ⟨wx, ewx⟩ : ∃ x, x = wt.alloc (.cells #[.int .i64 q1, .int .i64 q2, .int .i64 q3] 68) := ⟨_, rfl⟩
              have hbx : Below wt.heap.size wt wx := by rw [ewx]; exact (Below.refl _ _).alloc (Nat.le_refl _) _
              obtain ⟨v5, w5', hr5, hs5, hb5⟩ := (hs0.perm ((List.Perm.cons _ (List.Perm.swap _ _ _)).trans (List.Perm.swap _ _ _))).pushG (P := Tryz.prog) acell_lay 24 24 (.agg #[.int .i64 0, .int .i64 0, .int .i64 0]) 24 Tryz.underlying24 infoA rfl hzwt (w1 := wx) hbx ((q1 : Int), (q2 : Int), (q3 : Int)) (bb := wt.heap.size) 1 (fun j u hj => by
                rw [ewx, World.cell?_alloc_at _ _ _ j rfl]
                simpa [acell] using hj) (by have := HY.out; omega) (by have := HY.out; omega)
              obtain ⟨va5, c5, rfl, -⟩ := hs5.rowAt acell_lay
              obtain ⟨n5, hn5⟩ : ∃ n, n = (ys ++ [((q1 : Int), (q2 : Int), (q3 : Int))]).length := ⟨_, rfl⟩
              rw [← hn5] at hr5 hs5
              clear hn5
              have hc5 : Cur lo w5' cb Kv xs.length (Res.box sb [.int .i64 2, .int .i64 (N : Int), .slice none 0 0] :: Res.row 68 3 acell (.slice va5 n5 c5) (ys ++ [((q1 : Int), (q2 : Int), (q3 : Int))]) :: Res.box w.heap.size [.int .i64 0, .int .i64 0, .slice none 0 0] :: rs) := ⟨i0, h0, hi0, hs5.perm ((List.Perm.swap _ _ _).trans (List.Perm.cons _ (List.Perm.swap _ _ _)))⟩
              have HC5 := Lib.hid hc5
              have HB5 := Lib.hid (HBwt.out.trans hb5)
              have hS5 : w5'.cell? ⟨sb, 1, none⟩ = some (.int .i64 (N : Int)) := ((hc5.out.headBox).2.2 1 _ rfl).1
              have hSx : wx.cell? ⟨sb, 1, none⟩ = some (.int .i64 (N : Int)) := (hbx.cell (p := ⟨sb, 1, none⟩) (World.block_lt_of_cell? _ _ hSwt)).trans hSwt
              have HY5 := Lib.hid (show (ys ++ [((q1 : Int), (q2 : Int), (q3 : Int))]).length + g ≤ 7 from by have := HY.out; rw [List.length_append, List.length_singleton]; omega)
              have Hr5 := Lib.hid hr5
              have ewxs := Lib.hid ewx.symm
              clear hs0 hr5 hs5 hb5 hc5 hbx ewx HBwt HCwt
              clear hb ho hq  HPwv
              go_wp2_with fail
              refine hK.out _ _ (fun _ => hSwt) ?_
              clear hK K
              try simp only [Act.put, List.getElem_toArray, List.getElem_cons_zero, List.getElem_cons_succ, List.setIfInBounds_toArray, List.set_cons_zero, List.set_cons_succ]
              refine wpAnyL_take 11 (v := ?_) rfl (by kernel_rfl) (by kernel_rfl) (by kernel_rfl) (by kernel_rfl) (fun _ _ _ h => h) (Or.inl ⟨by rfl, ?_⟩) hSwt ?_
              rotate_left
              · (intro w hSw; (try dsimp only at hSw); go_simp) <;> (try with_reducible rfl)
              try simp only [Act.put, List.getElem_toArray, List.getElem_cons_zero, List.getElem_cons_succ, List.setIfInBounds_toArray, List.set_cons_zero, List.set_cons_succ]
              refine wpAnyL_one 12 (by kernel_rfl) rfl (fun K hK => ?_)
              go_simp
              refine hK.out _ _ (fun _ => (by rw [ewxs.out]; exact hSx)) ?_
              clear hK K
              try simp only [Act.put, List.getElem_toArray, List.getElem_cons_zero, List.getElem_cons_succ, List.setIfInBounds_toArray, List.set_cons_zero, List.set_cons_succ]
              rw [ewxs.out]
              refine wpAnyL_one 13 (by kernel_rfl) rfl (fun K hK => ?_)
              refine step_append_run (by rfl) (.tmp 41) (.tmp 53) 24 (by rfl) (by rfl) (by rfl) Hr5.out ?_
              refine hK.out _ _ (fun _ => hS5) ?_
              clear hK K
              try simp only [Act.put, List.getElem_toArray, List.getElem_cons_zero, List.getElem_cons_succ, List.setIfInBounds_toArray, List.set_cons_zero, List.set_cons_succ]
              refine wpAnyL_one 14 (by kernel_rfl) rfl (fun K hK => ?_)
              go_simp
              refine hK.out _ _ (fun h => absurd h (not_rem (by kernel_rfl))) ?_
              clear hK K
              try simp only [Act.put, List.getElem_toArray, List.getElem_cons_zero, List.getElem_cons_succ, List.setIfInBounds_toArray, List.set_cons_zero, List.set_cons_succ]
              refine wpAnyL_done (by kernel_rfl) ?_ _
              go_wp2_with fail
              go_roundg g
              case measure => omega
              case rel => exact ⟨ys ++ [((q1 : Int), (q2 : Int), (q3 : Int))], va5, n5, c5, rfl, by go_num, by omega, HY5, HC5, HB5⟩
    | false =>
      have HCq := Lib.hid HC4.out.perm2'.rest
      have HBq := Lib.hid HB4.out
      obtain ⟨wq, ewq⟩ : ∃ x, x = w4 := ⟨_, rfl⟩
      rw [← ewq] at e4 hz4 HCq HBq
      clear HC4 HB4 ewq m4 c0 c1 c2 Hal
      have HO2 := Lib.hid (l1Once_i (z := 4) (fun w' hb => HK.out w' (HBq.out.trans hb)) HCq.out hz4 (by omega) (by omega))
      go_wp2_with fail
      (with_reducible refine HO2.out.mono ?_)
      rintro e w5 ⟨b2, rfl, hc, hb, ho⟩
      have HC5 := Lib.hid hc
      have HB5 := Lib.hid (HBq.out.trans hb)
      have hz5 : lo ≤ w5.heap.size := Nat.le_trans hz4 hb.size
      clear hc hb ho HO2 HCq HBq
      cases b2 with
      | true =>
        have hnw := New.rowLit acell_lay 68 w5 [(0, 0, 0), (0, 1, 1), (1, 0, 1)] #[.int .i64 0, .int .i64 0, .int .i64 0, .int .i64 0, .int .i64 1, .int .i64 1, .int .i64 1, .int .i64 0, .int .i64 1] rfl (by decide) (by decide)
        obtain ⟨w6, e6⟩ : ∃ x, x = w5.alloc (.cells #[.int .i64 0, .int .i64 0, .int .i64 0, .int .i64 0, .int .i64 1, .int .i64 1, .int .i64 1, .int .i64 0, .int .i64 1] 68) := ⟨_, rfl⟩
        rw [← e6] at hnw
        have hb6 : Below w5.heap.size w5 w6 := by rw [e6]; exact (Below.refl _ _).alloc (Nat.le_refl _) _
        have hr := (HC5.out.new RowG.held hb6 hz5 hnw).perm2'
        have HB6 := Lib.hid (HB5.out.trans (hb6.mono hz5))
        have hz6 : lo ≤ w6.heap.size := Nat.le_trans hz5 hb6.size
        have e6s := e6.symm
        clear e6 hb6 hnw HC5 HB5
        obtain ⟨-, -, hcr⟩ := hr.out.headBox
        have r0 := (hcr 0 _ rfl).1
        have f0 := (hcr 0 _ rfl).2
        have r1 := (hcr 1 _ rfl).1
        have f1 := (hcr 1 _ rfl).2
        have r2 := (hcr 2 _ rfl).1
        have f2 := (hcr 2 _ rfl).2
        have hs1 := hr.store hz6 (j := 0) rfl (.int .i64 2)
        have hB1 := hr.storeBelow HB6.out 0 (.int .i64 2)
        have hs2 := hs1.store (by simpa using hz6) (j := 1) rfl (.int .i64 2)
        have hB2 := hs1.storeBelow hB1 1 (.int .i64 2)
        have hs3 := hs2.store (by simpa using hz6) (j := 2) rfl (.slice (some ⟨w5.heap.size, 0, none⟩) 3 3)
        have hB3 := hs2.storeBelow hB2 2 (.slice (some ⟨w5.heap.size, 0, none⟩) 3 3)
        obtain ⟨-, -, hcs⟩ := hs3.out.headBox
        have S0 := Lib.hid (hcs 0 (.int .i64 2) rfl).1
        have S1 := Lib.hid (hcs 1 (.int .i64 2) rfl).1
        have S2 := Lib.hid (hcs 2 (.slice (some ⟨w5.heap.size, 0, none⟩) 3 3) rfl).1
        have HC3 := Lib.hid hs3.rest
        have HB3 := Lib.hid hB3
        clear hcr hcs hs1 hs2 hs3 hB1 hB2 hB3
        have HCv := Lib.hid (HC3.out.conv (s := ResLg (.agg #[.int .i64 2, .int .i64 2, .slice (some ⟨w5.heap.size, 0, none⟩) 3 3]) (2, 2, [(0, 0, 0), (0, 1, 1), (1, 0, 1)])) (by simpa using hz6) (fun F h => ⟨_, rfl, h⟩))
        clear hr HB6 HC3
        go_wp2_with fail
        refine bodyPost_ret (v := .agg #[.int .i64 2, .int .i64 2, .slice (some ⟨w5.heap.size, 0, none⟩) 3 3]) (by simp [results, Tryz.results74, go_sem, S0.out, S1.out, S2.out]) rfl ?_
        exact ⟨_, (2, 2, [(0, 0, 0), (0, 1, 1), (1, 0, 1)]), rfl, by decide, HCv.out, HB3.out⟩
      | false =>
        have HP := Lib.hid (l1Below_i (z := 4) (fun w' hb => HK.out w' (HB5.out.trans hb)) HC5.out hz5 (by omega) (by omega))
        go_wp2_with fail
        (with_reducible refine HP.out.mono ?_)
        rintro e w6 ⟨x, rfl, hx, hc, hb, ho⟩
        obtain ⟨N, hN⟩ : ∃ N, N = x + 1 := ⟨_, rfl⟩
        have hx4 : x < 4 := hx
        have hNi : IntKind.i64.wrap (1 + (x : Int)) = (N : Int) := by rw [IntWalk.i64_in _ (by omega)]; omega
        have hNi2 : (1 + (x : Int)) = (N : Int) := by omega
        have hN1 : 1 ≤ N := by omega
        have hN4 : N ≤ 4 := by omega
        have HC6 := Lib.hid hc
        have HB6 := Lib.hid (HB5.out.trans hb)
        have hz6 : lo ≤ w6.heap.size := Nat.le_trans hz5 hb.size
        obtain ⟨w7, e7, hb7, -, -, -, m7⟩ := boxA3_ex w6 26 (.int .i64 2) (.int .i64 (N : Int)) (.slice none 0 0)
        have hcx := HC6.out.box hz6 [.int .i64 2, .int .i64 (N : Int), .slice none 0 0] 26
        have HC7 := Lib.hid (show Cur lo w7 cb Kv xs.length (Res.box w6.heap.size [.int .i64 2, .int .i64 (N : Int), .slice none 0 0] :: Res.box w.heap.size [.int .i64 0, .int .i64 0, .slice none 0 0] :: rs) from by rw [← e7]; exact hcx)
        have HB7 := Lib.hid (HB6.out.trans (hb7.mono hz6))
        have hz7 : lo ≤ w7.heap.size := Nat.le_trans hz6 hb7.size
        have hnr := New.emptyRow (sz := 3) (f := acell) 68 w7
        obtain ⟨w8, e8⟩ : ∃ x, x = w7.alloc (.cells #[] 68) := ⟨_, rfl⟩
        rw [← e8] at hnr
        have hb8 : Below w7.heap.size w7 w8 := by rw [e8]; exact (Below.refl _ _).alloc (Nat.le_refl _) _
        have HC8 := Lib.hid (HC7.out.new RowG.held hb8 hz7 hnr).perm2'
        have HB8 := Lib.hid (HB7.out.trans (hb8.mono hz7))
        have hz8 : lo ≤ w8.heap.size := Nat.le_trans hz7 hb8.size
        have HQ := Lib.hid (l1Below_i (z := 8) (fun w' hb => HK.out w' (HB8.out.trans hb)) HC8.out hz8 (by omega) (by omega))
        have HE7 := Lib.hid e7
        have Hz67 := Lib.hid (show w7.heap.size = w6.heap.size + 1 from by rw [← e7]; simp)
        have HE8 := Lib.hid e8.symm
        clear hx hx4 hN hc hb ho hcx hb7 hb8 hnr e8 e7 m7 HP HC5 HB5 HC6 HB6 HC7 HB7
        go_wp2_with fail
        rw [HE7.out, HE8.out]
        (with_reducible refine HQ.out.mono ?_)
        rintro e w9 ⟨x9, rfl, hx9, hc, hb, ho⟩
        have hx7 : x9 ≤ 7 := by have h : x9 < 8 := hx9; omega
        obtain ⟨sb, hsb⟩ : ∃ b, b = w6.heap.size := ⟨_, rfl⟩
        rw [Hz67.out, ← hsb] at hc
        rw [← hsb]
        obtain ⟨yb, hyb⟩ : ∃ b, b = sb + 1 := ⟨_, rfl⟩
        rw [← hyb] at hc ⊢
        have HC9 := Lib.hid hc
        have HB9 := Lib.hid (HB8.out.trans hb)
        have HX := Lib.hid (show ([] : List Arc3).length + x9 ≤ 7 from by simpa using hx7)
        clear hc hb ho hx9 HQ Hz67 HE7 HE8 HC8 HB8 hsb hyb hz8 hz7 hNi hNi2
        go_wp2_with fail
        go_loopg [6, 7] x9 (fun g lv nv wr => ∃ (ys : List Arc3) (ya : Option Addr) (yn yc : Nat), lv = .slice ya yn yc ∧ nv = .int .i64 (g : Nat) ∧ g ≤ 7 ∧ Hid (ys.length + g ≤ 7) ∧ Hid (Cur lo wr cb Kv xs.length (Res.box sb [.int .i64 2, .int .i64 (N : Int), .slice none 0 0] :: Res.row 68 3 acell (.slice ya yn yc) ys :: Res.box w.heap.size [.int .i64 0, .int .i64 0, .slice none 0 0] :: rs)) ∧ Hid (Below lo w wr))
        case atStart => exact ⟨[], some ⟨yb, 0, none⟩, 0, 0, rfl, rfl, hx7, HX, HC9, HB9⟩
        case round =>
          clear HX HC9 HB9 hx7
          obtain ⟨ys, ya, yn, yc, rfl, rfl, hg, HY, HC, HB⟩ := hrel
          obtain ⟨wk, rfl⟩ : ∃ x, x = wr := ⟨_, rfl⟩
          have hzk : lo ≤ wk.heap.size := Nat.le_trans hlo HB.out.size
          cases gk with
          | zero =>
            obtain ⟨G, hG, -⟩ := HC.out.rest.out.head
            have hG' : RowA 68 wk (.slice ya yn yc) ys G := hG
            have HSo := Lib.hid (l14Sort_c (OArcs.reads (RowG.arcs hG')) (by have := HY.out; omega))
            have HSl := Lib.hid (show (sortM ys).length ≤ 81 from by have := sortM_len ys; have := HY.out; omega)
            generalize sortM ys = zs at HSo HSl
            clear hG hG'
            go_wp2_with fail
            (with_reducible refine HSo.out.mono ?_)
            rintro e wa ⟨vs, rfl, hn, hb⟩
            obtain ⟨za, zc, rfl⟩ := RowG.slice hn.choose_spec.1
            obtain ⟨zl, hzl⟩ : ∃ n, n = zs.length := ⟨_, rfl⟩
            have hca := HC.out.new RowG.held hb hzk hn
            have hza : lo ≤ wa.heap.size := Nat.le_trans hzk hb.size
            rw [← hzl] at hca ⊢
            -- the list's box, the sorted row, the result's box
            have hcb := hca.perm2'
            have hBa : Below lo w wa := HB.out.trans (hb.mono hzk)
            have hcc := hcb.store hza (j := 2) rfl (.slice za zl zc)
            have hBc := hcb.storeBelow hBa 2 (.slice za zl zc)
            obtain ⟨-, -, hc0⟩ := hcb.out.headBox
            have d2 := (hc0 2 _ rfl).1
            have t2 := (hc0 2 _ rfl).2
            obtain ⟨-, -, hc1⟩ := hcc.out.headBox
            obtain ⟨wc, ewc⟩ : ∃ x, x = wa.setCell ⟨sb, 2, none⟩ (.slice za zl zc) := ⟨_, rfl⟩
            rw [← ewc] at hcc hBc hc1
            have k0 := (hc1 0 _ rfl).1
            have k1 := (hc1 1 _ rfl).1
            have k2 := (hc1 2 _ rfl).1
            have hzc : lo ≤ wc.heap.size := by rw [ewc]; simpa using hza
            have hr := (hcc.rest).perm ((List.Perm.cons _ (List.Perm.swap _ _ _)).trans (List.Perm.swap _ _ _))
            have ewcs := ewc.symm
            clear hn hb hca hcb hcc hc0 hc1 ewc HSo HC HB hBa
            obtain ⟨-, -, hcr⟩ := hr.out.headBox
            have r0 := (hcr 0 _ rfl).1
            have f0 := (hcr 0 _ rfl).2
            have r1 := (hcr 1 _ rfl).1
            have f1 := (hcr 1 _ rfl).2
            have r2 := (hcr 2 _ rfl).1
            have f2 := (hcr 2 _ rfl).2
            have hs1 := hr.store hzc (j := 0) rfl (.int .i64 2)
            have hB1 := hr.storeBelow hBc 0 (.int .i64 2)
            have hs2 := hs1.store (by simpa using hzc) (j := 1) rfl (.int .i64 (N : Int))
            have hB2 := hs1.storeBelow hB1 1 (.int .i64 (N : Int))
            have hs3 := hs2.store (by simpa using hzc) (j := 2) rfl (.slice za zl zc)
            have hB3 := hs2.storeBelow hB2 2 (.slice za zl zc)
            obtain ⟨-, -, hcs⟩ := hs3.out.headBox
            have S0 := Lib.hid (hcs 0 (.int .i64 2) rfl).1
            have S1 := Lib.hid (hcs 1 (.int .i64 (N : Int)) rfl).1
            have S2 := Lib.hid (hcs 2 (.slice za zl zc) rfl).1
            have HC3 := Lib.hid hs3.rest
            have HB3 := Lib.hid hB3
            clear hcr hcs hs1 hs2 hs3 hB1 hB2 hB3
            have HCv := Lib.hid (HC3.out.conv (s := ResLg (.agg #[.int .i64 2, .int .i64 (N : Int), .slice za zl zc]) (2, (N : Int), zs)) (by simpa using hzc) (fun F h => ⟨_, rfl, h⟩))
            have HCw := Lib.hid HCv.out.perm2'.rest
            clear hr hBc HC3 HCv hzl
            go_wp2_with fail
            refine bodyPost_ret (v := .agg #[.int .i64 2, .int .i64 (N : Int), .slice za zl zc]) (by simp [results, Tryz.results74, go_sem, S0.out, S1.out, S2.out]) rfl ?_
            exact ⟨_, (2, (N : Int), zs), rfl, HSl.out, HCw.out, HB3.out⟩
          | succ g =>
            have hg0 : (0 : Int) < ((g + 1 : Nat) : Int) := by omega
            have hbd : Below wk.heap.size wk wk.drew := (Below.refl _ _).drew
            have HCd := Lib.hid (HC.out.below hbd)
            have HBd := Lib.hid (HB.out.trans (hbd.mono hzk))
            have hzd : lo ≤ wk.drew.heap.size := Nat.le_trans hzk hbd.size
            have hSd : wk.drew.cell? ⟨sb, 1, none⟩ = some (.int .i64 (N : Int)) := ((HCd.out.out.headBox).2.2 1 _ rfl).1
            have HP1 := Lib.hid (l1Below_c (N := N) (fun w' hb => HK.out w' (HBd.out.trans hb)) HCd.out hzd hN1 (by omega))
            clear hbd HC HB
            go_wp2_with fail
            refine wp_region_L (fun w' => w'.cell? ⟨sb, 1, none⟩ = some (.int .i64 (N : Int))) (by kernel_rfl) ?_
            refine wpAnyL_take 0 (v := ?_) rfl (by kernel_rfl) (by kernel_rfl) (by kernel_rfl) (by kernel_rfl) (fun _ _ _ h => h) (Or.inl ⟨by rfl, ?_⟩) hSd ?_
            rotate_left
            · (intro w hSw; (try dsimp only at hSw); go_simp) <;> (try with_reducible rfl)
            try simp only [Act.put, List.getElem_toArray, List.getElem_cons_zero, List.getElem_cons_succ, List.setIfInBounds_toArray, List.set_cons_zero, List.set_cons_succ]
            refine wpAnyL_take 1 (v := ?_) rfl (by kernel_rfl) (by kernel_rfl) (by kernel_rfl) (by kernel_rfl) (fun _ _ _ h => h) (Or.inl ⟨by rfl, ?_⟩) hSd ?_
            rotate_left
            · (intro w hSw; (try dsimp only at hSw); go_simp) <;> (try with_reducible rfl)
            try simp only [Act.put, List.getElem_toArray, List.getElem_cons_zero, List.getElem_cons_succ, List.setIfInBounds_toArray, List.set_cons_zero, List.set_cons_succ]
            refine wpAnyL_take 2 (v := ?_) rfl (by kernel_rfl) (by kernel_rfl) (by kernel_rfl) (by kernel_rfl) (fun _ _ _ h => h) (Or.inl ⟨by rfl, ?_⟩) hSd ?_
            rotate_left
            · (intro w hSw; (try dsimp only at hSw); go_simp) <;> (try with_reducible rfl)
            try simp only [Act.put, List.getElem_toArray, List.getElem_cons_zero, List.getElem_cons_succ, List.setIfInBounds_toArray, List.set_cons_zero, List.set_cons_succ]
            refine wpAnyL_take 3 (v := ?_) rfl (by kernel_rfl) (by kernel_rfl) (by kernel_rfl) (by kernel_rfl) (fun _ _ _ h => h) (Or.inl ⟨by rfl, ?_⟩) hSd ?_
            rotate_left
            · (intro w hSw; (try dsimp only at hSw); go_simp) <;> (try with_reducible rfl)
            try simp only [Act.put, List.getElem_toArray, List.getElem_cons_zero, List.getElem_cons_succ, List.setIfInBounds_toArray, List.set_cons_zero, List.set_cons_succ]
            refine wpAnyL_take 5 (v := ?_) rfl (by kernel_rfl) (by kernel_rfl) (by kernel_rfl) (by kernel_rfl) (fun _ _ _ h => h) (Or.inl ⟨by rfl, ?_⟩) hSd ?_
            rotate_left
            · (intro w hSw; (try dsimp only at hSw); go_simp) <;> (try with_reducible rfl)
            try simp only [Act.put, List.getElem_toArray, List.getElem_cons_zero, List.getElem_cons_succ, List.setIfInBounds_toArray, List.set_cons_zero, List.set_cons_succ]
            refine wpAnyL_take 6 (v := ?_) rfl (by kernel_rfl) (by kernel_rfl) (by kernel_rfl) (by kernel_rfl) (fun _ _ _ h => h) (Or.inl ⟨by rfl, ?_⟩) hSd ?_
            rotate_left
            · (intro w hSw; (try dsimp only at hSw); go_simp) <;> (try with_reducible rfl)
            try simp only [Act.put, List.getElem_toArray, List.getElem_cons_zero, List.getElem_cons_succ, List.setIfInBounds_toArray, List.set_cons_zero, List.set_cons_succ]
            refine wpAnyL_take 7 (v := ?_) rfl (by kernel_rfl) (by kernel_rfl) (by kernel_rfl) (by kernel_rfl) (fun _ _ _ h => h) (Or.inl ⟨by rfl, ?_⟩) hSd ?_
            rotate_left
            · (intro w hSw; (try dsimp only at hSw); go_simp) <;> (try with_reducible rfl)
            try simp only [Act.put, List.getElem_toArray, List.getElem_cons_zero, List.getElem_cons_succ, List.setIfInBounds_toArray, List.set_cons_zero, List.set_cons_succ]
            refine wpAnyL_take 9 (v := ?_) rfl (by kernel_rfl) (by kernel_rfl) (by kernel_rfl) (by kernel_rfl) (fun _ _ _ h => h) (Or.inl ⟨by rfl, ?_⟩) hSd ?_
            rotate_left
            · (intro w hSw; (try dsimp only at hSw); go_simp) <;> (try with_reducible rfl)
            try simp only [Act.put, List.getElem_toArray, List.getElem_cons_zero, List.getElem_cons_succ, List.setIfInBounds_toArray, List.set_cons_zero, List.set_cons_succ]
            refine wpAnyL_one 4 (by kernel_rfl) rfl (fun K hK => ?_)
            go_simp
            (with_reducible refine HP1.out.mono ?_)
            rintro e wu ⟨q1, rfl, hq, hc, hb, ho⟩
            have HCwu := Lib.hid hc
            have HBwu := Lib.hid (HBd.out.trans hb)
            have hzwu : lo ≤ wu.heap.size := Nat.le_trans hzd hb.size
            have hSwu : wu.cell? ⟨sb, 1, none⟩ = some (.int .i64 (N : Int)) := ((hc.out.headBox).2.2 1 _ rfl).1
            have HPwu := Lib.hid (l1Below_c (N := N) (fun w' hb => HK.out w' (HBwu.out.trans hb)) hc hzwu hN1 (by omega))
            clear hb ho hq hc HP1
            go_wp2_with fail
            refine hK.out _ _ (fun _ => hSwu) ?_
            clear hK K
            try simp only [Act.put, List.getElem_toArray, List.getElem_cons_zero, List.getElem_cons_succ, List.setIfInBounds_toArray, List.set_cons_zero, List.set_cons_succ]
            refine wpAnyL_one 8 (by kernel_rfl) rfl (fun K hK => ?_)
            go_simp
            (with_reducible refine HPwu.out.mono ?_)
            rintro e wv ⟨q2, rfl, hq, hc, hb, ho⟩
            have HCwv := Lib.hid hc
            have HBwv := Lib.hid (HBwu.out.trans hb)
            have hzwv : lo ≤ wv.heap.size := Nat.le_trans hzwu hb.size
            have hSwv : wv.cell? ⟨sb, 1, none⟩ = some (.int .i64 (N : Int)) := ((hc.out.headBox).2.2 1 _ rfl).1
            have HPwv := Lib.hid (l1Below_i (z := 2) (fun w' hb => HK.out w' (HBwv.out.trans hb)) hc hzwv (by omega) (by omega))
            clear hb ho hq hc HPwu
            go_wp2_with fail
            refine hK.out _ _ (fun _ => hSwv) ?_
            clear hK K
            try simp only [Act.put, List.getElem_toArray, List.getElem_cons_zero, List.getElem_cons_succ, List.setIfInBounds_toArray, List.set_cons_zero, List.set_cons_succ]
            refine wpAnyL_one 10 (by kernel_rfl) rfl (fun K hK => ?_)
            go_simp
            (with_reducible refine HPwv.out.mono ?_)
            rintro e wt ⟨q3, rfl, hq, hc, hb, ho⟩
            have HCwt := Lib.hid hc
            have HBwt := Lib.hid (HBwv.out.trans hb)
            have hzwt : lo ≤ wt.heap.size := Nat.le_trans hzwv hb.size
            have hSwt : wt.cell? ⟨sb, 1, none⟩ = some (.int .i64 (N : Int)) := ((hc.out.headBox).2.2 1 _ rfl).1
            obtain ⟨i0, h0, hi0, hs0⟩ := hc
            obtain ⟨wx, ewx⟩ : ∃ x, x = wt.alloc (.cells #[.int .i64 q1, .int .i64 q2, .int .i64 q3] 68) := ⟨_, rfl⟩
            have hbx : Below wt.heap.size wt wx := by rw [ewx]; exact (Below.refl _ _).alloc (Nat.le_refl _) _
            obtain ⟨v5, w5', hr5, hs5, hb5⟩ := (hs0.perm ((List.Perm.cons _ (List.Perm.swap _ _ _)).trans (List.Perm.swap _ _ _))).pushG (P := Tryz.prog) acell_lay 24 24 (.agg #[.int .i64 0, .int .i64 0, .int .i64 0]) 24 Tryz.underlying24 infoA rfl hzwt (w1 := wx) hbx ((q1 : Int), (q2 : Int), (q3 : Int)) (bb := wt.heap.size) 1 (fun j u hj => by
              rw [ewx, World.cell?_alloc_at _ _ _ j rfl]
              simpa [acell] using hj) (by have := HY.out; omega) (by have := HY.out; omega)
            obtain ⟨va5, c5, rfl, -⟩ := hs5.rowAt acell_lay
            obtain ⟨n5, hn5⟩ : ∃ n, n = (ys ++ [((q1 : Int), (q2 : Int), (q3 : Int))]).length := ⟨_, rfl⟩
            rw [← hn5] at hr5 hs5
            clear hn5
            have hc5 : Cur lo w5' cb Kv xs.length (Res.box sb [.int .i64 2, .int .i64 (N : Int), .slice none 0 0] :: Res.row 68 3 acell (.slice va5 n5 c5) (ys ++ [((q1 : Int), (q2 : Int), (q3 : Int))]) :: Res.box w.heap.size [.int .i64 0, .int .i64 0, .slice none 0 0] :: rs) := ⟨i0, h0, hi0, hs5.perm ((List.Perm.swap _ _ _).trans (List.Perm.cons _ (List.Perm.swap _ _ _)))⟩
            have HC5 := Lib.hid hc5
            have HB5 := Lib.hid (HBwt.out.trans hb5)
            have hS5 : w5'.cell? ⟨sb, 1, none⟩ = some (.int .i64 (N : Int)) := ((hc5.out.headBox).2.2 1 _ rfl).1
            have hSx : wx.cell? ⟨sb, 1, none⟩ = some (.int .i64 (N : Int)) := (hbx.cell (p := ⟨sb, 1, none⟩) (World.block_lt_of_cell? _ _ hSwt)).trans hSwt
            have HY5 := Lib.hid (show (ys ++ [((q1 : Int), (q2 : Int), (q3 : Int))]).length + g ≤ 7 from by have := HY.out; rw [List.length_append, List.length_singleton]; omega)
            have Hr5 := Lib.hid hr5
            have ewxs := Lib.hid ewx.symm
            clear hs0 hr5 hs5 hb5 hc5 hbx ewx HBwt HCwt
            clear hb ho hq  HPwv
            go_wp2_with fail
            refine hK.out _ _ (fun _ => hSwt) ?_
            clear hK K
            try simp only [Act.put, List.getElem_toArray, List.getElem_cons_zero, List.getElem_cons_succ, List.setIfInBounds_toArray, List.set_cons_zero, List.set_cons_succ]
            refine wpAnyL_take 11 (v := ?_) rfl (by kernel_rfl) (by kernel_rfl) (by kernel_rfl) (by kernel_rfl) (fun _ _ _ h => h) (Or.inl ⟨by rfl, ?_⟩) hSwt ?_
            rotate_left
            · (intro w hSw; (try dsimp only at hSw); go_simp) <;> (try with_reducible rfl)
            try simp only [Act.put, List.getElem_toArray, List.getElem_cons_zero, List.getElem_cons_succ, List.setIfInBounds_toArray, List.set_cons_zero, List.set_cons_succ]
            refine wpAnyL_one 12 (by kernel_rfl) rfl (fun K hK => ?_)
            go_simp
            refine hK.out _ _ (fun _ => (by rw [ewxs.out]; exact hSx)) ?_
            clear hK K
            try simp only [Act.put, List.getElem_toArray, List.getElem_cons_zero, List.getElem_cons_succ, List.setIfInBounds_toArray, List.set_cons_zero, List.set_cons_succ]
            rw [ewxs.out]
            refine wpAnyL_one 13 (by kernel_rfl) rfl (fun K hK => ?_)
            refine step_append_run (by rfl) (.tmp 41) (.tmp 53) 24 (by rfl) (by rfl) (by rfl) Hr5.out ?_
            refine hK.out _ _ (fun _ => hS5) ?_
            clear hK K
            try simp only [Act.put, List.getElem_toArray, List.getElem_cons_zero, List.getElem_cons_succ, List.setIfInBounds_toArray, List.set_cons_zero, List.set_cons_succ]
            refine wpAnyL_one 14 (by kernel_rfl) rfl (fun K hK => ?_)
            go_simp
            refine hK.out _ _ (fun h => absurd h (not_rem (by kernel_rfl))) ?_
            clear hK K
            try simp only [Act.put, List.getElem_toArray, List.getElem_cons_zero, List.getElem_cons_succ, List.setIfInBounds_toArray, List.set_cons_zero, List.set_cons_succ]
            refine wpAnyL_done (by kernel_rfl) ?_ _
            go_wp2_with fail
            go_roundg g
            case measure => omega
            case rel => exact ⟨ys ++ [((q1 : Int), (q2 : Int), (q3 : Int))], va5, n5, c5, rfl, by go_num, by omega, HY5, HC5, HB5⟩
  | false =>
    have HCq := HC1
    have HBq := HB1
    obtain ⟨wq, ewq⟩ : ∃ x, x = w1 := ⟨_, rfl⟩
    rw [← ewq] at HCq HBq hz1
    have hz4 := hz1
    clear HC1 HB1
    rw [← ewq]
    clear ewq
    have HO2 := Lib.hid (l1Once_i (z := 4) (fun w' hb => HK.out w' (HBq.out.trans hb)) HCq.out hz4 (by omega) (by omega))
    go_wp2_with fail
    (with_reducible refine HO2.out.mono ?_)
    rintro e w5 ⟨b2, rfl, hc, hb, ho⟩
    have HC5 := Lib.hid hc
    have HB5 := Lib.hid (HBq.out.trans hb)
    have hz5 : lo ≤ w5.heap.size := Nat.le_trans hz4 hb.size
    clear hc hb ho HO2 HCq HBq
    cases b2 with
    | true =>
      have hnw := New.rowLit acell_lay 68 w5 [(0, 0, 0), (0, 1, 1), (1, 0, 1)] #[.int .i64 0, .int .i64 0, .int .i64 0, .int .i64 0, .int .i64 1, .int .i64 1, .int .i64 1, .int .i64 0, .int .i64 1] rfl (by decide) (by decide)
      obtain ⟨w6, e6⟩ : ∃ x, x = w5.alloc (.cells #[.int .i64 0, .int .i64 0, .int .i64 0, .int .i64 0, .int .i64 1, .int .i64 1, .int .i64 1, .int .i64 0, .int .i64 1] 68) := ⟨_, rfl⟩
      rw [← e6] at hnw
      have hb6 : Below w5.heap.size w5 w6 := by rw [e6]; exact (Below.refl _ _).alloc (Nat.le_refl _) _
      have hr := (HC5.out.new RowG.held hb6 hz5 hnw).perm2'
      have HB6 := Lib.hid (HB5.out.trans (hb6.mono hz5))
      have hz6 : lo ≤ w6.heap.size := Nat.le_trans hz5 hb6.size
      have e6s := e6.symm
      clear e6 hb6 hnw HC5 HB5
      obtain ⟨-, -, hcr⟩ := hr.out.headBox
      have r0 := (hcr 0 _ rfl).1
      have f0 := (hcr 0 _ rfl).2
      have r1 := (hcr 1 _ rfl).1
      have f1 := (hcr 1 _ rfl).2
      have r2 := (hcr 2 _ rfl).1
      have f2 := (hcr 2 _ rfl).2
      have hs1 := hr.store hz6 (j := 0) rfl (.int .i64 2)
      have hB1 := hr.storeBelow HB6.out 0 (.int .i64 2)
      have hs2 := hs1.store (by simpa using hz6) (j := 1) rfl (.int .i64 2)
      have hB2 := hs1.storeBelow hB1 1 (.int .i64 2)
      have hs3 := hs2.store (by simpa using hz6) (j := 2) rfl (.slice (some ⟨w5.heap.size, 0, none⟩) 3 3)
      have hB3 := hs2.storeBelow hB2 2 (.slice (some ⟨w5.heap.size, 0, none⟩) 3 3)
      obtain ⟨-, -, hcs⟩ := hs3.out.headBox
      have S0 := Lib.hid (hcs 0 (.int .i64 2) rfl).1
      have S1 := Lib.hid (hcs 1 (.int .i64 2) rfl).1
      have S2 := Lib.hid (hcs 2 (.slice (some ⟨w5.heap.size, 0, none⟩) 3 3) rfl).1
      have HC3 := Lib.hid hs3.rest
      have HB3 := Lib.hid hB3
      clear hcr hcs hs1 hs2 hs3 hB1 hB2 hB3
      have HCv := Lib.hid (HC3.out.conv (s := ResLg (.agg #[.int .i64 2, .int .i64 2, .slice (some ⟨w5.heap.size, 0, none⟩) 3 3]) (2, 2, [(0, 0, 0), (0, 1, 1), (1, 0, 1)])) (by simpa using hz6) (fun F h => ⟨_, rfl, h⟩))
      clear hr HB6 HC3
      go_wp2_with fail
      refine bodyPost_ret (v := .agg #[.int .i64 2, .int .i64 2, .slice (some ⟨w5.heap.size, 0, none⟩) 3 3]) (by simp [results, Tryz.results74, go_sem, S0.out, S1.out, S2.out]) rfl ?_
      exact ⟨_, (2, 2, [(0, 0, 0), (0, 1, 1), (1, 0, 1)]), rfl, by decide, HCv.out, HB3.out⟩
    | false =>
      have HP := Lib.hid (l1Below_i (z := 4) (fun w' hb => HK.out w' (HB5.out.trans hb)) HC5.out hz5 (by omega) (by omega))
      go_wp2_with fail
      (with_reducible refine HP.out.mono ?_)
      rintro e w6 ⟨x, rfl, hx, hc, hb, ho⟩
      obtain ⟨N, hN⟩ : ∃ N, N = x + 1 := ⟨_, rfl⟩
      have hx4 : x < 4 := hx
      have hNi : IntKind.i64.wrap (1 + (x : Int)) = (N : Int) := by rw [IntWalk.i64_in _ (by omega)]; omega
      have hNi2 : (1 + (x : Int)) = (N : Int) := by omega
      have hN1 : 1 ≤ N := by omega
      have hN4 : N ≤ 4 := by omega
      have HC6 := Lib.hid hc
      have HB6 := Lib.hid (HB5.out.trans hb)
      have hz6 : lo ≤ w6.heap.size := Nat.le_trans hz5 hb.size
      obtain ⟨w7, e7, hb7, -, -, -, m7⟩ := boxA3_ex w6 26 (.int .i64 2) (.int .i64 (N : Int)) (.slice none 0 0)
      have hcx := HC6.out.box hz6 [.int .i64 2, .int .i64 (N : Int), .slice none 0 0] 26
      have HC7 := Lib.hid (show Cur lo w7 cb Kv xs.length (Res.box w6.heap.size [.int .i64 2, .int .i64 (N : Int), .slice none 0 0] :: Res.box w.heap.size [.int .i64 0, .int .i64 0, .slice none 0 0] :: rs) from by rw [← e7]; exact hcx)
      have HB7 := Lib.hid (HB6.out.trans (hb7.mono hz6))
      have hz7 : lo ≤ w7.heap.size := Nat.le_trans hz6 hb7.size
      have hnr := New.emptyRow (sz := 3) (f := acell) 68 w7
      obtain ⟨w8, e8⟩ : ∃ x, x = w7.alloc (.cells #[] 68) := ⟨_, rfl⟩
      rw [← e8] at hnr
      have hb8 : Below w7.heap.size w7 w8 := by rw [e8]; exact (Below.refl _ _).alloc (Nat.le_refl _) _
      have HC8 := Lib.hid (HC7.out.new RowG.held hb8 hz7 hnr).perm2'
      have HB8 := Lib.hid (HB7.out.trans (hb8.mono hz7))
      have hz8 : lo ≤ w8.heap.size := Nat.le_trans hz7 hb8.size
      have HQ := Lib.hid (l1Below_i (z := 8) (fun w' hb => HK.out w' (HB8.out.trans hb)) HC8.out hz8 (by omega) (by omega))
      have HE7 := Lib.hid e7
      have Hz67 := Lib.hid (show w7.heap.size = w6.heap.size + 1 from by rw [← e7]; simp)
      have HE8 := Lib.hid e8.symm
      clear hx hx4 hN hc hb ho hcx hb7 hb8 hnr e8 e7 m7 HP HC5 HB5 HC6 HB6 HC7 HB7
      go_wp2_with fail
      rw [HE7.out, HE8.out]
      (with_reducible refine HQ.out.mono ?_)
      rintro e w9 ⟨x9, rfl, hx9, hc, hb, ho⟩
      have hx7 : x9 ≤ 7 := by have h : x9 < 8 := hx9; omega
      obtain ⟨sb, hsb⟩ : ∃ b, b = w6.heap.size := ⟨_, rfl⟩
      rw [Hz67.out, ← hsb] at hc
      rw [← hsb]
      obtain ⟨yb, hyb⟩ : ∃ b, b = sb + 1 := ⟨_, rfl⟩
      rw [← hyb] at hc ⊢
      have HC9 := Lib.hid hc
      have HB9 := Lib.hid (HB8.out.trans hb)
      have HX := Lib.hid (show ([] : List Arc3).length + x9 ≤ 7 from by simpa using hx7)
      clear hc hb ho hx9 HQ Hz67 HE7 HE8 HC8 HB8 hsb hyb hz8 hz7 hNi hNi2
      go_wp2_with fail
      go_loopg [6, 7] x9 (fun g lv nv wr => ∃ (ys : List Arc3) (ya : Option Addr) (yn yc : Nat), lv = .slice ya yn yc ∧ nv = .int .i64 (g : Nat) ∧ g ≤ 7 ∧ Hid (ys.length + g ≤ 7) ∧ Hid (Cur lo wr cb Kv xs.length (Res.box sb [.int .i64 2, .int .i64 (N : Int), .slice none 0 0] :: Res.row 68 3 acell (.slice ya yn yc) ys :: Res.box w.heap.size [.int .i64 0, .int .i64 0, .slice none 0 0] :: rs)) ∧ Hid (Below lo w wr))
      case atStart => exact ⟨[], some ⟨yb, 0, none⟩, 0, 0, rfl, rfl, hx7, HX, HC9, HB9⟩
      case round =>
        clear HX HC9 HB9 hx7
        obtain ⟨ys, ya, yn, yc, rfl, rfl, hg, HY, HC, HB⟩ := hrel
        obtain ⟨wk, rfl⟩ : ∃ x, x = wr := ⟨_, rfl⟩
        have hzk : lo ≤ wk.heap.size := Nat.le_trans hlo HB.out.size
        cases gk with
        | zero =>
          obtain ⟨G, hG, -⟩ := HC.out.rest.out.head
          have hG' : RowA 68 wk (.slice ya yn yc) ys G := hG
          have HSo := Lib.hid (l14Sort_c (OArcs.reads (RowG.arcs hG')) (by have := HY.out; omega))
          have HSl := Lib.hid (show (sortM ys).length ≤ 81 from by have := sortM_len ys; have := HY.out; omega)
          generalize sortM ys = zs at HSo HSl
          clear hG hG'
          go_wp2_with fail
          (with_reducible refine HSo.out.mono ?_)
          rintro e wa ⟨vs, rfl, hn, hb⟩
          obtain ⟨za, zc, rfl⟩ := RowG.slice hn.choose_spec.1
          obtain ⟨zl, hzl⟩ : ∃ n, n = zs.length := ⟨_, rfl⟩
          have hca := HC.out.new RowG.held hb hzk hn
          have hza : lo ≤ wa.heap.size := Nat.le_trans hzk hb.size
          rw [← hzl] at hca ⊢
          -- the list's box, the sorted row, the result's box
          have hcb := hca.perm2'
          have hBa : Below lo w wa := HB.out.trans (hb.mono hzk)
          have hcc := hcb.store hza (j := 2) rfl (.slice za zl zc)
          have hBc := hcb.storeBelow hBa 2 (.slice za zl zc)
          obtain ⟨-, -, hc0⟩ := hcb.out.headBox
          have d2 := (hc0 2 _ rfl).1
          have t2 := (hc0 2 _ rfl).2
          obtain ⟨-, -, hc1⟩ := hcc.out.headBox
          obtain ⟨wc, ewc⟩ : ∃ x, x = wa.setCell ⟨sb, 2, none⟩ (.slice za zl zc) := ⟨_, rfl⟩
          rw [← ewc] at hcc hBc hc1
          have k0 := (hc1 0 _ rfl).1
          have k1 := (hc1 1 _ rfl).1
          have k2 := (hc1 2 _ rfl).1
          have hzc : lo ≤ wc.heap.size := by rw [ewc]; simpa using hza
          have hr := (hcc.rest).perm ((List.Perm.cons _ (List.Perm.swap _ _ _)).trans (List.Perm.swap _ _ _))
          have ewcs := ewc.symm
          clear hn hb hca hcb hcc hc0 hc1 ewc HSo HC HB hBa
          obtain ⟨-, -, hcr⟩ := hr.out.headBox
          have r0 := (hcr 0 _ rfl).1
          have f0 := (hcr 0 _ rfl).2
          have r1 := (hcr 1 _ rfl).1
          have f1 := (hcr 1 _ rfl).2
          have r2 := (hcr 2 _ rfl).1
          have f2 := (hcr 2 _ rfl).2
          have hs1 := hr.store hzc (j := 0) rfl (.int .i64 2)
          have hB1 := hr.storeBelow hBc 0 (.int .i64 2)
          have hs2 := hs1.store (by simpa using hzc) (j := 1) rfl (.int .i64 (N : Int))
          have hB2 := hs1.storeBelow hB1 1 (.int .i64 (N : Int))
          have hs3 := hs2.store (by simpa using hzc) (j := 2) rfl (.slice za zl zc)
          have hB3 := hs2.storeBelow hB2 2 (.slice za zl zc)
          obtain ⟨-, -, hcs⟩ := hs3.out.headBox
          have S0 := Lib.hid (hcs 0 (.int .i64 2) rfl).1
          have S1 := Lib.hid (hcs 1 (.int .i64 (N : Int)) rfl).1
          have S2 := Lib.hid (hcs 2 (.slice za zl zc) rfl).1
          have HC3 := Lib.hid hs3.rest
          have HB3 := Lib.hid hB3
          clear hcr hcs hs1 hs2 hs3 hB1 hB2 hB3
          have HCv := Lib.hid (HC3.out.conv (s := ResLg (.agg #[.int .i64 2, .int .i64 (N : Int), .slice za zl zc]) (2, (N : Int), zs)) (by simpa using hzc) (fun F h => ⟨_, rfl, h⟩))
          have HCw := Lib.hid HCv.out.perm2'.rest
          clear hr hBc HC3 HCv hzl
          go_wp2_with fail
          refine bodyPost_ret (v := .agg #[.int .i64 2, .int .i64 (N : Int), .slice za zl zc]) (by simp [results, Tryz.results74, go_sem, S0.out, S1.out, S2.out]) rfl ?_
          exact ⟨_, (2, (N : Int), zs), rfl, HSl.out, HCw.out, HB3.out⟩
        | succ g =>
          have hg0 : (0 : Int) < ((g + 1 : Nat) : Int) := by omega
          have hbd : Below wk.heap.size wk wk.drew := (Below.refl _ _).drew
          have HCd := Lib.hid (HC.out.below hbd)
          have HBd := Lib.hid (HB.out.trans (hbd.mono hzk))
          have hzd : lo ≤ wk.drew.heap.size := Nat.le_trans hzk hbd.size
          have hSd : wk.drew.cell? ⟨sb, 1, none⟩ = some (.int .i64 (N : Int)) := ((HCd.out.out.headBox).2.2 1 _ rfl).1
          have HP1 := Lib.hid (l1Below_c (N := N) (fun w' hb => HK.out w' (HBd.out.trans hb)) HCd.out hzd hN1 (by omega))
          clear hbd HC HB
          go_wp2_with fail
          refine wp_region_L (fun w' => w'.cell? ⟨sb, 1, none⟩ = some (.int .i64 (N : Int))) (by kernel_rfl) ?_
          refine wpAnyL_take 0 (v := ?_) rfl (by kernel_rfl) (by kernel_rfl) (by kernel_rfl) (by kernel_rfl) (fun _ _ _ h => h) (Or.inl ⟨by rfl, ?_⟩) hSd ?_
          rotate_left
          · (intro w hSw; (try dsimp only at hSw); go_simp) <;> (try with_reducible rfl)
          try simp only [Act.put, List.getElem_toArray, List.getElem_cons_zero, List.getElem_cons_succ, List.setIfInBounds_toArray, List.set_cons_zero, List.set_cons_succ]
          refine wpAnyL_take 1 (v := ?_) rfl (by kernel_rfl) (by kernel_rfl) (by kernel_rfl) (by kernel_rfl) (fun _ _ _ h => h) (Or.inl ⟨by rfl, ?_⟩) hSd ?_
          rotate_left
          · (intro w hSw; (try dsimp only at hSw); go_simp) <;> (try with_reducible rfl)
          try simp only [Act.put, List.getElem_toArray, List.getElem_cons_zero, List.getElem_cons_succ, List.setIfInBounds_toArray, List.set_cons_zero, List.set_cons_succ]
          refine wpAnyL_take 2 (v := ?_) rfl (by kernel_rfl) (by kernel_rfl) (by kernel_rfl) (by kernel_rfl) (fun _ _ _ h => h) (Or.inl ⟨by rfl, ?_⟩) hSd ?_
          rotate_left
          · (intro w hSw; (try dsimp only at hSw); go_simp) <;> (try with_reducible rfl)
          try simp only [Act.put, List.getElem_toArray, List.getElem_cons_zero, List.getElem_cons_succ, List.setIfInBounds_toArray, List.set_cons_zero, List.set_cons_succ]
          refine wpAnyL_take 3 (v := ?_) rfl (by kernel_rfl) (by kernel_rfl) (by kernel_rfl) (by kernel_rfl) (fun _ _ _ h => h) (Or.inl ⟨by rfl, ?_⟩) hSd ?_
          rotate_left
          · (intro w hSw; (try dsimp only at hSw); go_simp) <;> (try with_reducible rfl)
          try simp only [Act.put, List.getElem_toArray, List.getElem_cons_zero, List.getElem_cons_succ, List.setIfInBounds_toArray, List.set_cons_zero, List.set_cons_succ]
          refine wpAnyL_take 5 (v := ?_) rfl (by kernel_rfl) (by kernel_rfl) (by kernel_rfl) (by kernel_rfl) (fun _ _ _ h => h) (Or.inl ⟨by rfl, ?_⟩) hSd ?_
          rotate_left
          · (intro w hSw; (try dsimp only at hSw); go_simp) <;> (try with_reducible rfl)
          try simp only [Act.put, List.getElem_toArray, List.getElem_cons_zero, List.getElem_cons_succ, List.setIfInBounds_toArray, List.set_cons_zero, List.set_cons_succ]
          refine wpAnyL_take 6 (v := ?_) rfl (by kernel_rfl) (by kernel_rfl) (by kernel_rfl) (by kernel_rfl) (fun _ _ _ h => h) (Or.inl ⟨by rfl, ?_⟩) hSd ?_
          rotate_left
          · (intro w hSw; (try dsimp only at hSw); go_simp) <;> (try with_reducible rfl)
          try simp only [Act.put, List.getElem_toArray, List.getElem_cons_zero, List.getElem_cons_succ, List.setIfInBounds_toArray, List.set_cons_zero, List.set_cons_succ]
          refine wpAnyL_take 7 (v := ?_) rfl (by kernel_rfl) (by kernel_rfl) (by kernel_rfl) (by kernel_rfl) (fun _ _ _ h => h) (Or.inl ⟨by rfl, ?_⟩) hSd ?_
          rotate_left
          · (intro w hSw; (try dsimp only at hSw); go_simp) <;> (try with_reducible rfl)
          try simp only [Act.put, List.getElem_toArray, List.getElem_cons_zero, List.getElem_cons_succ, List.setIfInBounds_toArray, List.set_cons_zero, List.set_cons_succ]
          refine wpAnyL_take 9 (v := ?_) rfl (by kernel_rfl) (by kernel_rfl) (by kernel_rfl) (by kernel_rfl) (fun _ _ _ h => h) (Or.inl ⟨by rfl, ?_⟩) hSd ?_
          rotate_left
          · (intro w hSw; (try dsimp only at hSw); go_simp) <;> (try with_reducible rfl)
          try simp only [Act.put, List.getElem_toArray, List.getElem_cons_zero, List.getElem_cons_succ, List.setIfInBounds_toArray, List.set_cons_zero, List.set_cons_succ]
          refine wpAnyL_one 4 (by kernel_rfl) rfl (fun K hK => ?_)
          go_simp
          (with_reducible refine HP1.out.mono ?_)
          rintro e wu ⟨q1, rfl, hq, hc, hb, ho⟩
          have HCwu := Lib.hid hc
          have HBwu := Lib.hid (HBd.out.trans hb)
          have hzwu : lo ≤ wu.heap.size := Nat.le_trans hzd hb.size
          have hSwu : wu.cell? ⟨sb, 1, none⟩ = some (.int .i64 (N : Int)) := ((hc.out.headBox).2.2 1 _ rfl).1
          have HPwu := Lib.hid (l1Below_c (N := N) (fun w' hb => HK.out w' (HBwu.out.trans hb)) hc hzwu hN1 (by omega))
          clear hb ho hq hc HP1
          go_wp2_with fail
          refine hK.out _ _ (fun _ => hSwu) ?_
          clear hK K
          try simp only [Act.put, List.getElem_toArray, List.getElem_cons_zero, List.getElem_cons_succ, List.setIfInBounds_toArray, List.set_cons_zero, List.set_cons_succ]
          refine wpAnyL_one 8 (by kernel_rfl) rfl (fun K hK => ?_)
          go_simp
          (with_reducible refine HPwu.out.mono ?_)
          rintro e wv ⟨q2, rfl, hq, hc, hb, ho⟩
          have HCwv := Lib.hid hc
          have HBwv := Lib.hid (HBwu.out.trans hb)
          have hzwv : lo ≤ wv.heap.size := Nat.le_trans hzwu hb.size
          have hSwv : wv.cell? ⟨sb, 1, none⟩ = some (.int .i64 (N : Int)) := ((hc.out.headBox).2.2 1 _ rfl).1
          have HPwv := Lib.hid (l1Below_i (z := 2) (fun w' hb => HK.out w' (HBwv.out.trans hb)) hc hzwv (by omega) (by omega))
          clear hb ho hq hc HPwu
          go_wp2_with fail
          refine hK.out _ _ (fun _ => hSwv) ?_
          clear hK K
          try simp only [Act.put, List.getElem_toArray, List.getElem_cons_zero, List.getElem_cons_succ, List.setIfInBounds_toArray, List.set_cons_zero, List.set_cons_succ]
          refine wpAnyL_one 10 (by kernel_rfl) rfl (fun K hK => ?_)
          go_simp
          (with_reducible refine HPwv.out.mono ?_)
          rintro e wt ⟨q3, rfl, hq, hc, hb, ho⟩
          have HCwt := Lib.hid hc
          have HBwt := Lib.hid (HBwv.out.trans hb)
          have hzwt : lo ≤ wt.heap.size := Nat.le_trans hzwv hb.size
          have hSwt : wt.cell? ⟨sb, 1, none⟩ = some (.int .i64 (N : Int)) := ((hc.out.headBox).2.2 1 _ rfl).1
          obtain ⟨i0, h0, hi0, hs0⟩ := hc
          obtain ⟨wx, ewx⟩ : ∃ x, x = wt.alloc (.cells #[.int .i64 q1, .int .i64 q2, .int .i64 q3] 68) := ⟨_, rfl⟩
          have hbx : Below wt.heap.size wt wx := by rw [ewx]; exact (Below.refl _ _).alloc (Nat.le_refl _) _
          obtain ⟨v5, w5', hr5, hs5, hb5⟩ := (hs0.perm ((List.Perm.cons _ (List.Perm.swap _ _ _)).trans (List.Perm.swap _ _ _))).pushG (P := Tryz.prog) acell_lay 24 24 (.agg #[.int .i64 0, .int .i64 0, .int .i64 0]) 24 Tryz.underlying24 infoA rfl hzwt (w1 := wx) hbx ((q1 : Int), (q2 : Int), (q3 : Int)) (bb := wt.heap.size) 1 (fun j u hj => by
            rw [ewx, World.cell?_alloc_at _ _ _ j rfl]
            simpa [acell] using hj) (by have := HY.out; omega) (by have := HY.out; omega)
          obtain ⟨va5, c5, rfl, -⟩ := hs5.rowAt acell_lay
          obtain ⟨n5, hn5⟩ : ∃ n, n = (ys ++ [((q1 : Int), (q2 : Int), (q3 : Int))]).length := ⟨_, rfl⟩
          rw [← hn5] at hr5 hs5
          clear hn5
          have hc5 : Cur lo w5' cb Kv xs.length (Res.box sb [.int .i64 2, .int .i64 (N : Int), .slice none 0 0] :: Res.row 68 3 acell (.slice va5 n5 c5) (ys ++ [((q1 : Int), (q2 : Int), (q3 : Int))]) :: Res.box w.heap.size [.int .i64 0, .int .i64 0, .slice none 0 0] :: rs) := ⟨i0, h0, hi0, hs5.perm ((List.Perm.swap _ _ _).trans (List.Perm.cons _ (List.Perm.swap _ _ _)))⟩
          have HC5 := Lib.hid hc5
          have HB5 := Lib.hid (HBwt.out.trans hb5)
          have hS5 : w5'.cell? ⟨sb, 1, none⟩ = some (.int .i64 (N : Int)) := ((hc5.out.headBox).2.2 1 _ rfl).1
          have hSx : wx.cell? ⟨sb, 1, none⟩ = some (.int .i64 (N : Int)) := (hbx.cell (p := ⟨sb, 1, none⟩) (World.block_lt_of_cell? _ _ hSwt)).trans hSwt
          have HY5 := Lib.hid (show (ys ++ [((q1 : Int), (q2 : Int), (q3 : Int))]).length + g ≤ 7 from by have := HY.out; rw [List.length_append, List.length_singleton]; omega)
          have Hr5 := Lib.hid hr5
          have ewxs := Lib.hid ewx.symm
          clear hs0 hr5 hs5 hb5 hc5 hbx ewx HBwt HCwt
          clear hb ho hq  HPwv
          go_wp2_with fail
          refine hK.out _ _ (fun _ => hSwt) ?_
          clear hK K
          try simp only [Act.put, List.getElem_toArray, List.getElem_cons_zero, List.getElem_cons_succ, List.setIfInBounds_toArray, List.set_cons_zero, List.set_cons_succ]
          refine wpAnyL_take 11 (v := ?_) rfl (by kernel_rfl) (by kernel_rfl) (by kernel_rfl) (by kernel_rfl) (fun _ _ _ h => h) (Or.inl ⟨by rfl, ?_⟩) hSwt ?_
          rotate_left
          · (intro w hSw; (try dsimp only at hSw); go_simp) <;> (try with_reducible rfl)
          try simp only [Act.put, List.getElem_toArray, List.getElem_cons_zero, List.getElem_cons_succ, List.setIfInBounds_toArray, List.set_cons_zero, List.set_cons_succ]
          refine wpAnyL_one 12 (by kernel_rfl) rfl (fun K hK => ?_)
          go_simp
          refine hK.out _ _ (fun _ => (by rw [ewxs.out]; exact hSx)) ?_
          clear hK K
          try simp only [Act.put, List.getElem_toArray, List.getElem_cons_zero, List.getElem_cons_succ, List.setIfInBounds_toArray, List.set_cons_zero, List.set_cons_succ]
          rw [ewxs.out]
          refine wpAnyL_one 13 (by kernel_rfl) rfl (fun K hK => ?_)
          refine step_append_run (by rfl) (.tmp 41) (.tmp 53) 24 (by rfl) (by rfl) (by rfl) Hr5.out ?_
          refine hK.out _ _ (fun _ => hS5) ?_
          clear hK K
          try simp only [Act.put, List.getElem_toArray, List.getElem_cons_zero, List.getElem_cons_succ, List.setIfInBounds_toArray, List.set_cons_zero, List.set_cons_succ]
          refine wpAnyL_one 14 (by kernel_rfl) rfl (fun K hK => ?_)
          go_simp
          refine hK.out _ _ (fun h => absurd h (not_rem (by kernel_rfl))) ?_
          clear hK K
          try simp only [Act.put, List.getElem_toArray, List.getElem_cons_zero, List.getElem_cons_succ, List.setIfInBounds_toArray, List.set_cons_zero, List.set_cons_succ]
          refine wpAnyL_done (by kernel_rfl) ?_ _
          go_wp2_with fail
          go_roundg g
          case measure => omega
          case rel => exact ⟨ys ++ [((q1 : Int), (q2 : Int), (q3 : Int))], va5, n5, c5, rfl, by go_num, by omega, HY5, HC5, HB5⟩
end Go.Proofs.YtcilgihmaaobeaaGreatDoor
end
