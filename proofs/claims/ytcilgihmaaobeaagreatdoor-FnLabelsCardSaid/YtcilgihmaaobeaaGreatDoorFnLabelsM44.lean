/-
  Laws for this claim's walks, contracts of the functions that it reaches.
-/
import Derived.Test.YtcilgihmaaobeaaGreatDoorFnLabelsM40
import Derived.Test.YtcilgihmaaobeaaGreatDoorFnLabelsM41
set_option linter.unusedVariables false
set_option linter.unusedSimpArgs false
section
namespace Go.Proofs.YtcilgihmaaobeaaGreatDoor
open Go.RowKit Go.Deep Go.Sd
set_option linter.unusedSimpArgs false
set_option maxHeartbeats 8000000 in
set_option maxRecDepth 100000 in
theorem spec_LabelsOf_g {w : World} {vs : Value} {z : Sh} (hz : ShR w vs z) (hf : ∀ f, f ∈ z.2 → f.size ≤ 1048576) :
    Calls Tryz.prog 13 #[vs] w (Makes2 OLabG w (lofV z) (lofOk z)) := by
  have HGr := Lib.hid (fun w1 (hb : Below w.heap.size w w1) => spec_GraphOf_c (ShR.frame _ _ _ _ hz hb) hf)
  have HSt := Lib.hid (fun w1 (hb : Below w.heap.size w w1) => spec_StatesOf_c (ShR.frame _ _ _ _ hz hb) hf)
  rw [lan2 z] at HSt
  have HV := Lib.hid (lofV_eq z)
  have HO := Lib.hid (lofOk_eq z)
  have HSo := Lib.hid (fun h : lofOk z = true => garcs_sorted h)
  have HPo := Lib.hid (fun h : lofOk z = true => garcs_pos h)
  have HG := Lib.hid (show gmV z = tabOf (stW z).length (stW z).length (gent z.2 (stW z)) from rfl)
  have HTw := Lib.hid (fun v (h : v ∈ stW z) => stW_two h)
  have h9 := stW_len z
  have HLe := Lib.hid (garcs_le z.2 (stW z) h9)
  generalize lofV z = V at HV ⊢
  generalize lofOk z = ok at HV HO HSo HPo HGr ⊢
  generalize gmV z = GM at HG HGr
  generalize stW z = W at HV HO HSo HPo HG HTw h9 HLe HSt
  obtain ⟨L, FF⟩ := z
  obtain ⟨va, rfl, ht⟩ := hz
  obtain ⟨a, cc, rfl, -⟩ := ht.shape
  simp only at ht HGr HSt HV HSo HPo HG HLe
  generalize FF.length = n0 at *
  obtain ⟨wA, eA, hA0⟩ : ∃ wA, wA = (w.alloc (.cells #[.int .i64 L, .slice a n0 cc] 37)).alloc (.cells #[.int .i64 0, .int .i64 0, .slice none 0 0] 26) ∧ Below w.heap.size w wA := ⟨_, rfl, ((Below.refl _ _).alloc (Nat.le_refl _) _).alloc (by simp) _⟩
  have zA : wA.heap.size = w.heap.size + 1 + 1 := by rw [eA]; simp
  have l0 : wA.cell? ⟨w.heap.size, 0, none⟩ = some (.int .i64 L) := by rw [eA]; simp [go_sem]
  have l1 : wA.cell? ⟨w.heap.size, 1, none⟩ = some (.slice a n0 cc) := by rw [eA]; simp [go_sem]
  have R0 := Lib.hid (show wA.cell? ⟨w.heap.size + 1, 0, none⟩ = some (.int .i64 0) from by rw [eA]; simp [go_sem])
  have R1 := Lib.hid (show wA.cell? ⟨w.heap.size + 1, 1, none⟩ = some (.int .i64 0) from by rw [eA]; simp [go_sem])
  have R2 := Lib.hid (show wA.cell? ⟨w.heap.size + 1, 2, none⟩ = some (.slice none 0 0) from by rw [eA]; simp [go_sem])
  have F0 := Lib.hid (show wA.frozen? ⟨w.heap.size + 1, 0, none⟩ = false from by rw [eA]; simp [go_sem])
  have F1 := Lib.hid (show wA.frozen? ⟨w.heap.size + 1, 1, none⟩ = false from by rw [eA]; simp [go_sem])
  have F2 := Lib.hid (show wA.frozen? ⟨w.heap.size + 1, 2, none⟩ = false from by rw [eA]; simp [go_sem])
  have HA := Lib.hid hA0
  have eW := eA.symm
  have h1w : w.heap.size + 1 < wA.heap.size := by omega
  have h0w : w.heap.size < wA.heap.size := by omega
  clear eA hA0 zA ht hf
  go_enter Tryz.func13, Tryz.ntmps13
  go_wp2_with fail
  (with_reducible refine (HGr.out _ HA.out).mono ?_)
  rintro e w1 ⟨r, rfl, hn, hb1⟩
  have HT1 := Lib.hid (New.tab hn)
  obtain ⟨ta, tc, er, -⟩ := (New.tab hn).shape
  subst er
  replace l0 := (hb1.cell (p := ⟨w.heap.size, 0, none⟩) h0w).trans l0
  replace l1 := (hb1.cell (p := ⟨w.heap.size, 1, none⟩) h0w).trans l1
  replace R0 := Lib.hid ((hb1.cell (p := ⟨w.heap.size + 1, 0, none⟩) h1w).trans R0.out)
  replace F0 := Lib.hid ((hb1.frozen (p := ⟨w.heap.size + 1, 0, none⟩) h1w).trans F0.out)
  replace R1 := Lib.hid ((hb1.cell (p := ⟨w.heap.size + 1, 1, none⟩) h1w).trans R1.out)
  replace F1 := Lib.hid ((hb1.frozen (p := ⟨w.heap.size + 1, 1, none⟩) h1w).trans F1.out)
  replace R2 := Lib.hid ((hb1.cell (p := ⟨w.heap.size + 1, 2, none⟩) h1w).trans R2.out)
  replace F2 := Lib.hid ((hb1.frozen (p := ⟨w.heap.size + 1, 2, none⟩) h1w).trans F2.out)
  have A1 := Lib.hid (HA.out.trans (hb1.mono HA.out.size))
  replace h1w : w.heap.size + 1 < w1.heap.size := Nat.lt_of_lt_of_le h1w hb1.size
  replace h0w : w.heap.size < w1.heap.size := Nat.lt_of_lt_of_le h0w hb1.size
  clear eW hb1 HGr HA hn
  cases ok with
  | false =>
    have HW := Lib.hid (show V = (0, 0, []) from by rw [HV.out]; rfl)
    clear HV HO HSo HPo HSt HG HLe HTw HT1
    have r0 := R0.out
    have r1 := R1.out
    have r2 := R2.out
    have t0 := F0.out
    have t1 := F1.out
    have t2 := F2.out
    go_wp2
    have s0 := World.cell?_setCell_same w1 _ (.int .i64 0) R0.out
    have u1 := (World.cell?_setCell_other _ ⟨w.heap.size + 1, 0, none⟩ _ (.int .i64 0) (by simp)).trans R1.out
    have s1 := World.cell?_setCell_same _ _ (.int .i64 0) u1
    have u2 := (World.cell?_setCell_other _ ⟨w.heap.size + 1, 1, none⟩ _ (.int .i64 0) (by simp)).trans ((World.cell?_setCell_other _ ⟨w.heap.size + 1, 0, none⟩ _ (.int .i64 0) (by simp)).trans R2.out)
    have s2 := World.cell?_setCell_same _ _ (.slice none 0 0) u2
    refine bodyPost_ret (v := .tuple #[.agg #[.int .i64 0, .int .i64 0, .slice none 0 0], .bool false]) (by simp [results, Tryz.results13, go_sem, s0, s1, s2]) rfl ?_
    exact ⟨_, rfl, by rw [HW.out]; exact New.lab0G, (((A1.out.setCell (p := ⟨w.heap.size + 1, 0, none⟩) (by simp) _).setCell (p := ⟨w.heap.size + 1, 1, none⟩) (by simp) _).setCell (p := ⟨w.heap.size + 1, 2, none⟩) (by simp) _)⟩
  | true =>
  have hok := HO.out
  obtain ⟨n, hn⟩ : ∃ n, n = W.length := ⟨_, rfl⟩
  have Hn := Lib.hid hn
  have hn0 : n ≠ 0 := by
    have h := hok.symm
    rw [decide_eq_true_eq] at h
    omega
  replace HSo := Lib.hid (HSo.out rfl)
  replace HPo := Lib.hid (HPo.out rfl)
  have HW := Lib.hid (show V = (L, (n : Int), garcs FF W n) from by rw [HV.out, hn]; rfl)
  have HGn := Lib.hid (show GM = tabOf n n (gent FF W) from by rw [HG.out, hn])
  have hGl : GM.length = n := by rw [HGn.out, tabOf_len]
  rw [← hn] at h9 HSo HPo
  rw [hGl]
  clear HV HO HG hok hGl hn
  go_wp2_with fail
  (with_reducible refine (HSt.out _ A1.out).mono ?_)
  rintro e w2 ⟨sv, rfl, hn2, hb2⟩
  have hs2 := Sep.one (OwnOf.kept OStr.kept).held hn2
  obtain ⟨sa, sc, es, hq⟩ := hs2.strsAt
  subst es
  rw [List.length_map, ← Hn.out] at hq ⊢
  obtain ⟨sb, esb, hsb, hsc⟩ := hq (by omega)
  subst esb
  have HSc := Lib.hid hsc
  have HT2 := Lib.hid (Tab.frame _ _ _ _ HT1.out hb2)
  replace l0 := (hb2.cell (p := ⟨w.heap.size, 0, none⟩) h0w).trans l0
  replace l1 := (hb2.cell (p := ⟨w.heap.size, 1, none⟩) h0w).trans l1
  replace R0 := Lib.hid ((hb2.cell (p := ⟨w.heap.size + 1, 0, none⟩) h1w).trans R0.out)
  replace F0 := Lib.hid ((hb2.frozen (p := ⟨w.heap.size + 1, 0, none⟩) h1w).trans F0.out)
  replace R1 := Lib.hid ((hb2.cell (p := ⟨w.heap.size + 1, 1, none⟩) h1w).trans R1.out)
  replace F1 := Lib.hid ((hb2.frozen (p := ⟨w.heap.size + 1, 1, none⟩) h1w).trans F1.out)
  replace R2 := Lib.hid ((hb2.cell (p := ⟨w.heap.size + 1, 2, none⟩) h1w).trans R2.out)
  replace F2 := Lib.hid ((hb2.frozen (p := ⟨w.heap.size + 1, 2, none⟩) h1w).trans F2.out)
  have A2 := Lib.hid (A1.out.trans (hb2.mono A1.out.size))
  replace h1w : w.heap.size + 1 < w2.heap.size := Nat.lt_of_lt_of_le h1w hb2.size
  replace h0w : w.heap.size < w2.heap.size := Nat.lt_of_lt_of_le h0w hb2.size
  clear hb2 hn2 hs2 hq hsc HSt HT1
  have w3d : w2.heap.size = w2.heap.size := rfl
  go_wp2
  obtain ⟨w4, e4, hb4, o0, o1, o2, m4⟩ := boxA3_ex w2 26 (.int .i64 L) (.int .i64 (n : Int)) (.slice none 0 0)
  have hsp := (Sep.one RowG.held (RowG.nil (e := 68) (sz := 3) (f := acell) (w := w2) (lo := w2.heap.size))).boxNew (Nat.le_refl _) [.int .i64 L, .int .i64 (n : Int), .slice none 0 0] 26
  have HSP := Lib.hid (show Sep w2.heap.size w4 [Res.box w2.heap.size [.int .i64 L, .int .i64 (n : Int), .slice none 0 0], Res.row 68 3 acell (.slice none 0 0) (garcs FF W 0)] from by rw [← e4]; exact hsp)
  have HBB := Lib.hid hb4
  rw [e4]
  clear hsp hb4 o0 o1 o2 l0 l1 w3d
  go_loopg [8] n (fun g i wr => ∃ (k : Nat) (ya : Option Addr) (yn yc : Nat), i = .int .i64 k ∧ k + g = n ∧ Hid (Sep w2.heap.size wr [Res.box w2.heap.size [.int .i64 L, .int .i64 (n : Int), .slice ya yn yc], Res.row 68 3 acell (.slice ya yn yc) (garcs FF W k)]) ∧ Hid (Below w2.heap.size w2 wr))
  case atStart => exact ⟨0, _, _, _, rfl, by omega, HSP, HBB⟩
  case round =>
    clear HSP HBB e4 m4
    obtain ⟨k, ya, yn, yc, rfl, hk, HS, HB⟩ := hrel
    obtain ⟨wk, rfl⟩ : ∃ x, x = wr := ⟨_, rfl⟩
    have zk := HB.out.size
    by_cases hkN : k < n
    · have hki : (k : Int) < (n : Int) := by omega
      obtain ⟨b, o, c, hv, hbw, hE⟩ := Tab.entAt HT2.out (by rw [HGn.out, tabOf_len]) (fun r hr => by rw [HGn.out] at hr; exact mem_tabOf hr) (by omega)
      simp at hv
      obtain ⟨rfl, -, rfl⟩ := hv
      obtain ⟨b', o', c', g1, hbw', -, gx⟩ := hE.at hkN (show 0 < n by omega)
      have G1 := Lib.hid g1
      have GX := Lib.hid (show ∀ x, x < n → w2.cell? ⟨b', o' + x, none⟩ = some (.int .i64 (gent FF W k x)) from fun x hx => by rw [gx x hx, HGn.out, ent_tabOf hkN hx])
      have HTk := Lib.hid (show garcs FF W (k + 1) = garcs FF W k ++ garcR FF W k n from by rw [garcs_succ, ← Hn.out])
      have HLn := Lib.hid (show (garcs FF W k).length ≤ 81 from by have := HLe.out k; omega)
      have HS0 := Lib.hid (show Sep w2.heap.size wk [Res.box w2.heap.size [.int .i64 L, .int .i64 (n : Int), .slice ya yn yc], Res.row 68 3 acell (.slice ya yn yc) (garcs FF W k ++ garcR FF W k 0)] from by rw [garcR_zero, List.append_nil]; exact HS.out)
      clear hE gx
      have g1 := (HB.out.cell (p := ⟨b, o + k, none⟩) hbw).trans g1
      go_wp2
      go_loopg [9] n (fun g i wr => ∃ (x : Nat) (ya : Option Addr) (yn yc : Nat), i = .int .i64 x ∧ x + g = n ∧ Hid (Sep w2.heap.size wr [Res.box w2.heap.size [.int .i64 L, .int .i64 (n : Int), .slice ya yn yc], Res.row 68 3 acell (.slice ya yn yc) (garcs FF W k ++ garcR FF W k x)]) ∧ Hid (Below w2.heap.size w2 wr))
      case atStart => exact ⟨0, _, _, _, rfl, by omega, HS0, HB⟩
      case round =>
        clear HS0 HS HB zk g1
        obtain ⟨x, ya, yn, yc, rfl, hx, HS, HB⟩ := hrel
        obtain ⟨wx, rfl⟩ : ∃ x, x = wr := ⟨_, rfl⟩
        have zx := HB.out.size
        obtain ⟨-, mx, hbx⟩ := HS.out.headBox
        have o2 := (hbx 2 _ rfl).1
        have o2f := (hbx 2 _ rfl).2
        have g1 := (HB.out.cell (p := ⟨b, o + k, none⟩) hbw).trans G1.out
        clear hbx
        by_cases hxN : x < n
        · have hxi : (x : Int) < (n : Int) := by omega
          have g2 := (HB.out.cell (p := ⟨b', o' + x, none⟩) hbw').trans (GX.out x hxN)
          obtain ⟨v, hv, _⟩ := at_lt (xs := W) (k := x) (by rw [← Hn.out]; exact hxN)
          have g3 := HSc.out x (wordT v) (by rw [List.getElem?_map, hv]; rfl)
          have g3 := (HB.out.cell (p := ⟨sb, x, none⟩) hsb).trans g3
          have hTv := HTw.out v (List.mem_of_getElem? hv)
          obtain ⟨hvs, -, hv1, -, -⟩ := hTv.facts
          have hlv : v.getD 1 0 < 3 := by obtain ⟨p, q, rfl, -, h⟩ := hTv; exact h
          have HTx := Lib.hid (show garcR FF W k (x + 1) = garcR FF W k x ++ (if goesB FF (W.getD k []) (W.getD x []) = true then [((k : Int), (x : Int), ((v.getD 1 0 : Nat) : Int))] else []) from by rw [garcR_succ, getD_of hv])
          have HLx := Lib.hid (show (garcs FF W k ++ garcR FF W k x).length ≤ 90 from by
            have h1 := garcR_le FF W k x
            rw [List.length_append]
            have := HLn.out
            omega)
          have HGe := Lib.hid (show gent FF W k x = if goesB FF (W.getD k []) (W.getD x []) = true then 1 else 0 from rfl)
          generalize gent FF W k x = t at g2 HGe
          generalize goesB FF (W.getD k []) (W.getD x []) = gg at HTx HGe
          obtain ⟨lv, hlve⟩ : ∃ l, l = v.getD 1 0 := ⟨_, rfl⟩
          rw [← hlve] at HTx hv1 hlv
          obtain ⟨svx, hsvx⟩ : ∃ x, x = wordT v := ⟨_, rfl⟩
          rw [← hsvx] at hvs hv1 g3
          clear hv hTv hlve hsvx
          cases gg with
          | true =>
            have et : t = 1 := HGe.out
            subst et
            have HR3 := Lib.hid (show garcR FF W k (x + 1) = garcR FF W k x ++ [((k : Int), (x : Int), (lv : Int))] from by rw [HTx.out, if_pos rfl])
            have hll := Lib.hid HLx.out
            have bsx : sb < wx.heap.size := by omega
            have B1 := ((Below.refl wx.heap.size wx).alloc (Nat.le_refl _) (.cells #[.int .i64 k, .int .i64 x, .int .i64 lv] 68)).drew
            obtain ⟨v', w5, hr, hs2, hb2⟩ := HS.out.swap.pushG (P := Tryz.prog) acell_lay 24 24 (.agg #[.int .i64 0, .int .i64 0, .int .i64 0]) 24 Tryz.underlying24 infoA rfl (by omega) (w1 := ((wx.alloc (.cells #[.int .i64 k, .int .i64 x, .int .i64 lv] 68)).drew)) B1 ((k : Int), (x : Int), (lv : Int)) (bb := wx.heap.size) 1
              (by
                intro i u hu
                match i, hu with
                | 0, hu => simp [acell] at hu; subst hu; simp [go_sem]
                | 1, hu => simp [acell] at hu; subst hu; simp [go_sem]
                | 2, hu => simp [acell] at hu; subst hu; simp [go_sem]) (by have := hll.out; omega) (by have := hll.out; omega)
            obtain ⟨za, zn, zc, rfl⟩ : ∃ a n c, v' = .slice a n c := hs2.headNew.imp (fun F hF => hF.1) |> fun h => by obtain ⟨F, hF⟩ := h; obtain ⟨a, c, e⟩ := RowG.slice hF; exact ⟨a, _, c, e⟩
            have hbx := hs2.swap.headBox.2
            have hc2 := (hbx.2 2 _ rfl).1
            have hf2 := (hbx.2 2 _ rfl).2
            have hg3 : w5.cell? ⟨sb, x, none⟩ = some (.string svx) := (hb2.cell (p := ⟨sb, x, none⟩) hsb).trans g3
            have hst := hs2.swap.boxStore (by have := hb2.size; omega) (j := 2) rfl (.slice za zn zc)
            have HST := Lib.hid (show Sep w2.heap.size (w5.setCell ⟨w2.heap.size, 2, none⟩ (.slice za zn zc)) [Res.box w2.heap.size [.int .i64 L, .int .i64 (n : Int), .slice za zn zc], Res.row 68 3 acell (.slice za zn zc) (garcs FF W k ++ garcR FF W k (x + 1))] from by rw [HR3.out, ← List.append_assoc]; exact hst)
            have HBs := Lib.hid ((HB.out.trans hb2).setCell (p := ⟨w2.heap.size, 2, none⟩) (Nat.le_refl _) (.slice za zn zc))
            have Hr := Lib.hid hr
            have hSd : wx.drew.cell? ⟨w2.heap.size, 2, none⟩ = some (.slice ya yn yc) ∧ wx.drew.cell? ⟨sb, x, none⟩ = some (.string svx) := ⟨o2, g3⟩
            have hS1 : ((wx.alloc (.cells #[.int .i64 k, .int .i64 x, .int .i64 lv] 68)).drew).cell? ⟨w2.heap.size, 2, none⟩ = some (.slice ya yn yc) ∧ ((wx.alloc (.cells #[.int .i64 k, .int .i64 x, .int .i64 lv] 68)).drew).cell? ⟨sb, x, none⟩ = some (.string svx) := ⟨(B1.cell (p := ⟨w2.heap.size, 2, none⟩) mx).trans o2, (B1.cell (p := ⟨sb, x, none⟩) bsx).trans g3⟩
            have hS2 : w5.cell? ⟨w2.heap.size, 2, none⟩ = some (.slice ya yn yc) ∧ w5.cell? ⟨sb, x, none⟩ = some (.string svx) := ⟨hc2, hg3⟩
            have hlw : IntKind.i64.wrap (IntKind.i64.wrap (97 + (lv : Int)) - 97) = (lv : Int) := lw_i64 hlv
            clear HTx B1 hr hs2 hb2 hbx hst HB hg3 HS HLx HGe
            go_wp2
            refine wp_region_L (fun w' => w'.cell? ⟨w2.heap.size, 2, none⟩ = some (.slice ya yn yc) ∧ w'.cell? ⟨sb, x, none⟩ = some (.string svx)) (by kernel_rfl) ?_
            refine wpAnyL_take 0 (v := ?_) rfl (by kernel_rfl) (by kernel_rfl) (by kernel_rfl) (by kernel_rfl) (fun _ _ _ h => h) (Or.inl ⟨by rfl, ?_⟩) hSd ?_
            rotate_left
            · (intro w hSw; (try dsimp only at hSw); go_simp) <;> (try with_reducible rfl)
            try simp only [Act.put, List.getElem_toArray, List.getElem_cons_zero, List.getElem_cons_succ, List.setIfInBounds_toArray, List.set_cons_zero, List.set_cons_succ]
            refine wpAnyL_take 1 (v := ?_) rfl (by kernel_rfl) (by kernel_rfl) (by kernel_rfl) (by kernel_rfl) (fun _ _ _ h => h) (Or.inl ⟨by rfl, ?_⟩) hSd ?_
            rotate_left
            · (intro w hSw; (try dsimp only at hSw); go_simp) <;> (try with_reducible rfl)
            try simp only [Act.put, List.getElem_toArray, List.getElem_cons_zero, List.getElem_cons_succ, List.setIfInBounds_toArray, List.set_cons_zero, List.set_cons_succ]
            refine wpAnyL_take 2 (v := ?_) rfl (by kernel_rfl) (by kernel_rfl) (by kernel_rfl) (by kernel_rfl) (fun _ _ _ h => h) (Or.inl ⟨by rfl, ?_⟩) hSd ?_
            rotate_left
            · (intro w hSw; (try dsimp only at hSw); go_simp) <;> (try with_reducible rfl)
            try simp only [Act.put, List.getElem_toArray, List.getElem_cons_zero, List.getElem_cons_succ, List.setIfInBounds_toArray, List.set_cons_zero, List.set_cons_succ]
            refine wpAnyL_take 3 (v := ?_) rfl (by kernel_rfl) (by kernel_rfl) (by kernel_rfl) (by kernel_rfl) (fun _ _ _ h => h) (Or.inl ⟨by rfl, ?_⟩) hSd ?_
            rotate_left
            · (intro w hSw; (try dsimp only at hSw); go_simp) <;> (try with_reducible rfl)
            try simp only [Act.put, List.getElem_toArray, List.getElem_cons_zero, List.getElem_cons_succ, List.setIfInBounds_toArray, List.set_cons_zero, List.set_cons_succ]
            refine wpAnyL_take 4 (v := ?_) rfl (by kernel_rfl) (by kernel_rfl) (by kernel_rfl) (by kernel_rfl) (fun _ _ _ h => h) (Or.inl ⟨by rfl, ?_⟩) hSd ?_
            rotate_left
            · (intro w hSw; (try dsimp only at hSw); go_simp) <;> (try with_reducible rfl)
            try simp only [Act.put, List.getElem_toArray, List.getElem_cons_zero, List.getElem_cons_succ, List.setIfInBounds_toArray, List.set_cons_zero, List.set_cons_succ]
            refine wpAnyL_take 5 (v := ?_) rfl (by kernel_rfl) (by kernel_rfl) (by kernel_rfl) (by kernel_rfl) (fun _ _ _ h => h) (Or.inl ⟨by rfl, ?_⟩) hSd ?_
            rotate_left
            · (intro w hSw; (try dsimp only at hSw); go_simp) <;> (try with_reducible rfl)
            try simp only [Act.put, List.getElem_toArray, List.getElem_cons_zero, List.getElem_cons_succ, List.setIfInBounds_toArray, List.set_cons_zero, List.set_cons_succ]
            refine wpAnyL_take 6 (v := ?_) rfl (by kernel_rfl) (by kernel_rfl) (by kernel_rfl) (by kernel_rfl) (fun _ _ _ h => h) (Or.inl ⟨by rfl, ?_⟩) hSd ?_
            rotate_left
            · (intro w hSw; (try dsimp only at hSw); go_simp) <;> (try with_reducible rfl)
            try simp only [Act.put, List.getElem_toArray, List.getElem_cons_zero, List.getElem_cons_succ, List.setIfInBounds_toArray, List.set_cons_zero, List.set_cons_succ]
            refine wpAnyL_take 7 (v := ?_) rfl (by kernel_rfl) (by kernel_rfl) (by kernel_rfl) (by kernel_rfl) (fun _ _ _ h => h) (Or.inl ⟨by rfl, ?_⟩) hSd ?_
            rotate_left
            · (intro w hSw; (try dsimp only at hSw); go_simp) <;> (try with_reducible rfl)
            try simp only [Act.put, List.getElem_toArray, List.getElem_cons_zero, List.getElem_cons_succ, List.setIfInBounds_toArray, List.set_cons_zero, List.set_cons_succ]
            refine wpAnyL_take 8 (v := ?_) rfl (by kernel_rfl) (by kernel_rfl) (by kernel_rfl) (by kernel_rfl) (fun _ _ _ h => h) (Or.inl ⟨by rfl, ?_⟩) hSd ?_
            rotate_left
            · (intro w hSw; (try dsimp only at hSw); go_simp) <;> (try with_reducible rfl)
            try simp only [Act.put, List.getElem_toArray, List.getElem_cons_zero, List.getElem_cons_succ, List.setIfInBounds_toArray, List.set_cons_zero, List.set_cons_succ]
            refine wpAnyL_take 9 (v := ?_) rfl (by kernel_rfl) (by kernel_rfl) (by kernel_rfl) (by kernel_rfl) (fun _ _ _ h => h) (Or.inl ⟨by rfl, ?_⟩) hSd ?_
            rotate_left
            · (intro w hSw; (try dsimp only at hSw); go_simp) <;> (try with_reducible rfl)
            try simp only [Act.put, List.getElem_toArray, List.getElem_cons_zero, List.getElem_cons_succ, List.setIfInBounds_toArray, List.set_cons_zero, List.set_cons_succ]
            refine wpAnyL_take 10 (v := ?_) rfl (by kernel_rfl) (by kernel_rfl) (by kernel_rfl) (by kernel_rfl) (fun _ _ _ h => h) (Or.inl ⟨by rfl, ?_⟩) hSd ?_
            rotate_left
            · (intro w hSw; (try dsimp only at hSw); go_simp) <;> (try with_reducible rfl)
            try simp only [Act.put, List.getElem_toArray, List.getElem_cons_zero, List.getElem_cons_succ, List.setIfInBounds_toArray, List.set_cons_zero, List.set_cons_succ]
            refine wpAnyL_take 11 (v := ?_) rfl (by kernel_rfl) (by kernel_rfl) (by kernel_rfl) (by kernel_rfl) (fun _ _ _ h => h) (Or.inl ⟨by rfl, ?_⟩) hSd ?_
            rotate_left
            · (intro w hSw; (try dsimp only at hSw); go_simp) <;> (try with_reducible rfl)
            try simp only [Act.put, List.getElem_toArray, List.getElem_cons_zero, List.getElem_cons_succ, List.setIfInBounds_toArray, List.set_cons_zero, List.set_cons_succ]
            refine wpAnyL_one 12 (by kernel_rfl) rfl (fun K hK => ?_)
            go_simp
            refine hK.out _ _ (fun _ => hS1) ?_
            clear hK K
            try simp only [Act.put, List.getElem_toArray, List.getElem_cons_zero, List.getElem_cons_succ, List.setIfInBounds_toArray, List.set_cons_zero, List.set_cons_succ]
            refine wpAnyL_one 13 (by kernel_rfl) rfl (fun K hK => ?_)
            refine step_append_run (by rfl) (.tmp 46) (.tmp 57) 24 (by rfl) (by rfl) (by rfl) Hr.out ?_
            refine hK.out _ _ (fun _ => hS2) ?_
            clear hK K
            try simp only [Act.put, List.getElem_toArray, List.getElem_cons_zero, List.getElem_cons_succ, List.setIfInBounds_toArray, List.set_cons_zero, List.set_cons_succ]
            refine wpAnyL_take 14 (v := ?_) rfl (by kernel_rfl) (by kernel_rfl) (by kernel_rfl) (by kernel_rfl) (fun _ _ _ h => h) (Or.inl ⟨by rfl, ?_⟩) hS2 ?_
            rotate_left
            · (intro w hSw; (try dsimp only at hSw); go_simp) <;> (try with_reducible rfl)
            try simp only [Act.put, List.getElem_toArray, List.getElem_cons_zero, List.getElem_cons_succ, List.setIfInBounds_toArray, List.set_cons_zero, List.set_cons_succ]
            refine wpAnyL_one 15 (by kernel_rfl) rfl (fun K hK => ?_)
            go_simp
            refine hK.out _ _ (fun h => absurd h (not_rem (by kernel_rfl))) ?_
            clear hK K
            try simp only [Act.put, List.getElem_toArray, List.getElem_cons_zero, List.getElem_cons_succ, List.setIfInBounds_toArray, List.set_cons_zero, List.set_cons_succ]
            refine wpAnyL_done (by kernel_rfl) ?_ _
            all_goals (
              go_wp2
              go_roundg (n - (x + 1))
              case measure => omega
              case rel => exact ⟨x + 1, za, zn, zc, by go_num, by omega, HST, HBs⟩)
          | false =>
            have et : t = 0 := HGe.out
            subst et
            have HR3 := Lib.hid (show garcR FF W k (x + 1) = garcR FF W k x from by rw [HTx.out, if_neg (by decide), List.append_nil])
            clear HTx HLx HGe
            go_wp2
            go_roundg (n - (x + 1))
            case measure => omega
            case rel => exact ⟨x + 1, ya, yn, yc, by go_num, by omega, by rw [HR3.out]; exact HS, HB⟩
        · obtain rfl : x = n := by omega
          have hxi : ¬ ((x : Int) < (x : Int)) := by omega
          have HSE := Lib.hid (show Sep w2.heap.size wx [Res.box w2.heap.size [.int .i64 L, .int .i64 (x : Int), .slice ya yn yc], Res.row 68 3 acell (.slice ya yn yc) (garcs FF W (k + 1))] from by rw [HTk.out]; exact HS.out)
          clear HTk HS GX
          go_wp2
          go_roundg (x - (k + 1))
          case measure => omega
          case rel => exact ⟨k + 1, ya, yn, yc, by go_num, by omega, HSE, HB⟩
    · obtain rfl : k = n := by omega
      have hki : ¬ ((k : Int) < (k : Int)) := by omega
      obtain ⟨-, mk, hbx⟩ := HS.out.headBox
      have o0 := (hbx 0 _ rfl).1
      have o1 := (hbx 1 _ rfl).1
      have o2 := (hbx 2 _ rfl).1
      have f2 := (hbx 2 _ rfl).2
      have HRd := Lib.hid (HS.out.swap.headNew)
      have hal : (garcs FF W k).length ≤ 81 := by have := HLe.out k; omega
      obtain ⟨yb, yc', ey, -, -, -, -, -⟩ := HRd.out.rowAt acell_lay HPo.out
      simp at ey
      obtain ⟨rfl, rfl, rfl⟩ := ey
      have HSf := Lib.hid (l14Sort_c (w := wk) (v := .slice (some ⟨yb, 0, none⟩) (garcs FF W k).length yc) (xs := garcs FF W k) (by
        obtain ⟨F, hF, -⟩ := HRd.out
        exact OArcs.reads (RowG.arcs hF)) (by omega))
      rw [sortM_id _ rfl HSo.out] at HSf
      replace R0 := Lib.hid ((HB.out.cell (p := ⟨w.heap.size + 1, 0, none⟩) h1w).trans R0.out)
      replace F0 := Lib.hid ((HB.out.frozen (p := ⟨w.heap.size + 1, 0, none⟩) h1w).trans F0.out)
      replace R1 := Lib.hid ((HB.out.cell (p := ⟨w.heap.size + 1, 1, none⟩) h1w).trans R1.out)
      replace F1 := Lib.hid ((HB.out.frozen (p := ⟨w.heap.size + 1, 1, none⟩) h1w).trans F1.out)
      replace R2 := Lib.hid ((HB.out.cell (p := ⟨w.heap.size + 1, 2, none⟩) h1w).trans R2.out)
      replace F2 := Lib.hid ((HB.out.frozen (p := ⟨w.heap.size + 1, 2, none⟩) h1w).trans F2.out)
      have HB2 := Lib.hid (A2.out.trans (HB.out.mono A2.out.size))
      have z4 : w2.heap.size ≤ wk.heap.size := HB.out.size
      have hr1 : w.heap.size + 1 < wk.heap.size := by omega
      generalize (garcs FF W k).length = al at HSf hal o2 ⊢
      clear HS HB hbx HT2 HRd
      go_wp2_with fail
      (with_reducible refine HSf.out.mono ?_)
      rintro e w7 ⟨r7, rfl, hn7, hb7⟩
      obtain ⟨za, zn, zc, rfl⟩ : ∃ a n c, r7 = .slice a n c := hn7.imp (fun F hF => hF.1) |> fun h => by obtain ⟨F, hF⟩ := h; obtain ⟨a, c, e⟩ := RowG.slice hF; exact ⟨a, _, c, e⟩
      have o0 := (hb7.cell (p := ⟨w2.heap.size, 0, none⟩) mk).trans o0
      have o1 := (hb7.cell (p := ⟨w2.heap.size, 1, none⟩) mk).trans o1
      have o2 := (hb7.cell (p := ⟨w2.heap.size, 2, none⟩) mk).trans o2
      have f2 := (hb7.frozen (p := ⟨w2.heap.size, 2, none⟩) mk).trans f2
      replace R0 := Lib.hid ((hb7.cell (p := ⟨w.heap.size + 1, 0, none⟩) hr1).trans R0.out)
      replace F0 := Lib.hid ((hb7.frozen (p := ⟨w.heap.size + 1, 0, none⟩) hr1).trans F0.out)
      replace R1 := Lib.hid ((hb7.cell (p := ⟨w.heap.size + 1, 1, none⟩) hr1).trans R1.out)
      replace F1 := Lib.hid ((hb7.frozen (p := ⟨w.heap.size + 1, 1, none⟩) hr1).trans F1.out)
      replace R2 := Lib.hid ((hb7.cell (p := ⟨w.heap.size + 1, 2, none⟩) hr1).trans R2.out)
      replace F2 := Lib.hid ((hb7.frozen (p := ⟨w.heap.size + 1, 2, none⟩) hr1).trans F2.out)
      have HB7 := Lib.hid ((HB2.out.trans (hb7.mono HB2.out.size)).setCell (p := ⟨w2.heap.size, 2, none⟩) (show w.heap.size ≤ w2.heap.size from by omega) (.slice za zn zc))
      have HN7 := Lib.hid (New.storeLow RowG.held hn7 (show w2.heap.size < wk.heap.size from mk) (.slice za zn zc) (p := ⟨w2.heap.size, 2, none⟩))
      have hr7 : w.heap.size + 1 < w7.heap.size := by have := hb7.size; omega
      have hne : ∀ j, (⟨w2.heap.size, 2, none⟩ : Addr) ≠ ⟨w.heap.size + 1, j, none⟩ := fun j => by simp <;> omega
      replace R0 := Lib.hid ((World.cell?_setCell_other w7 _ _ (.slice za zn zc) (hne 0)).trans R0.out)
      replace R1 := Lib.hid ((World.cell?_setCell_other w7 _ _ (.slice za zn zc) (hne 1)).trans R1.out)
      replace R2 := Lib.hid ((World.cell?_setCell_other w7 _ _ (.slice za zn zc) (hne 2)).trans R2.out)
      replace F0 := Lib.hid ((World.frozen?_setCell w7 ⟨w2.heap.size, 2, none⟩ ⟨w.heap.size + 1, 0, none⟩ (.slice za zn zc)).trans F0.out)
      replace F1 := Lib.hid ((World.frozen?_setCell w7 ⟨w2.heap.size, 2, none⟩ ⟨w.heap.size + 1, 1, none⟩ (.slice za zn zc)).trans F1.out)
      replace F2 := Lib.hid ((World.frozen?_setCell w7 ⟨w2.heap.size, 2, none⟩ ⟨w.heap.size + 1, 2, none⟩ (.slice za zn zc)).trans F2.out)
      clear hb7 HSf hn7 HB2 hne
      have r0 := R0.out
      have r1 := R1.out
      have r2 := R2.out
      have t0 := F0.out
      have t1 := F1.out
      have t2 := F2.out
      go_wp2
      have s0 := World.cell?_setCell_same (w7.setCell ⟨w2.heap.size, 2, none⟩ (.slice za zn zc)) _ (.int .i64 L) R0.out
      have u1 := (World.cell?_setCell_other _ ⟨w.heap.size + 1, 0, none⟩ _ (.int .i64 L) (by simp)).trans R1.out
      have s1 := World.cell?_setCell_same _ _ (.int .i64 (k : Int)) u1
      have u2 := (World.cell?_setCell_other _ ⟨w.heap.size + 1, 1, none⟩ _ (.int .i64 (k : Int)) (by simp)).trans ((World.cell?_setCell_other _ ⟨w.heap.size + 1, 0, none⟩ _ (.int .i64 L) (by simp)).trans R2.out)
      have s2 := World.cell?_setCell_same _ _ (.slice za zn zc) u2
      refine bodyPost_ret (v := .tuple #[.agg #[.int .i64 L, .int .i64 (k : Int), .slice za zn zc], .bool true]) (by simp [results, Tryz.results13, go_sem, s0, s1, s2]) rfl ?_
      refine ⟨_, rfl, ?_, (((HB7.out.setCell (p := ⟨w.heap.size + 1, 0, none⟩) (by simp) _).setCell (p := ⟨w.heap.size + 1, 1, none⟩) (by simp) _).setCell (p := ⟨w.heap.size + 1, 2, none⟩) (by simp) _)⟩
      have hk2 := New.storeLow RowG.held (New.storeLow RowG.held (New.storeLow RowG.held HN7.out hr1 (.int .i64 L) (p := ⟨w.heap.size + 1, 0, none⟩)) hr1 (.int .i64 (k : Int)) (p := ⟨w.heap.size + 1, 1, none⟩)) hr1 (.slice za zn zc) (p := ⟨w.heap.size + 1, 2, none⟩)
      obtain ⟨F, hF, hFn, hFg⟩ := hk2
      rw [HW.out]
      exact ⟨F, ⟨_, rfl, hF⟩, hFn, fun b hb => by have := hFg b hb; omega⟩
theorem spec_LabelsOf_c {w : World} {vs : Value} {z : Sh} (hz : ShR w vs z) (hf : ∀ f, f ∈ z.2 → f.size ≤ 1048576) :
    Calls Tryz.prog 13 #[vs] w (Makes2 OLab w (lofV z) (lofOk z)) :=
  (spec_LabelsOf_g hz hf).mono fun _ _ ⟨r, e1, hn, hb⟩ => ⟨r, e1, New.labG hn, hb⟩
end Go.Proofs.YtcilgihmaaobeaaGreatDoor
end
