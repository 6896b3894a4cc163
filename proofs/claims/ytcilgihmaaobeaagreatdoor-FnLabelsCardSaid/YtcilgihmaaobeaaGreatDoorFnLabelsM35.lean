/-
  Laws for this claim's walks, contracts of the functions that it reaches.
-/
import Derived.Test.YtcilgihmaaobeaaGreatDoorFnLabelsM31
set_option linter.unusedVariables false
set_option linter.unusedSimpArgs false
section
namespace Go.Proofs.YtcilgihmaaobeaaGreatDoor
open Go.RowKit Go.Deep Go.Sd
set_option linter.unusedSimpArgs false
theorem pick_sub {α : Type} {xs : List α} {l : List Bool} {x : α} (h : x ∈ pick xs l) : x ∈ xs := by
  obtain ⟨i, -, h2⟩ := (pick_mem _ _ _).1 h
  exact List.mem_of_getElem? h2
set_option maxHeartbeats 4000000 in
set_option maxRecDepth 100000 in
theorem l3Pairs_c {w : World} {vs : Value} {L : Nat} {F : List ByteArray} (hz : ShR w vs ((L : Int), F)) (h0 : 0 < L) (h3 : L ≤ 3) (hf : ∀ f, f ∈ F → f.size ≤ 1048576) :
    Calls Tryz.prog 72 #[vs] w (Makes (OStrL 9) w ((pairsM F L).map wordT)) := by
  obtain ⟨va, rfl, ht⟩ := hz
  simp only at ht
  obtain ⟨w0, e0, hb0, c0, c1, m0⟩ := boxA_ex w 37 (.int .i64 L) va
  have hFr := TsR.frame _ _ _ _ ht hb0
  obtain ⟨va1, va2, rfl, -⟩ := hFr.shape
  have HFr := Lib.hid hFr
  generalize hfl : F.length = fl at c1 e0 HFr ⊢
  have Hf := Lib.hid hf
  have HB0 := Lib.hid hb0
  have HW := Lib.hid (show Calls Tryz.prog 94 #[.agg #[.int .i64 L, .slice va1 fl va2], .int .i64 2] w0 _ from l3Words_c (L := L) (F := F) ⟨_, rfl, HFr.out⟩ h0 h3 hf)
  have H2 := Lib.hid (fun u (h : u ∈ avoW F L) => avoW_two h0 h3 h)
  have hM : (avoW F L).length ≤ 729 := Nat.le_trans (List.length_filter_le _ _) (by rw [allW_len h0]; exact pow_le h3 (by decide))
  have HP := Lib.hid (show pairsM F L = pick (avoW F L) (liveL (EG F (avoW F L)) (avoW F L).length) from rfl)
  generalize pairsM F L = PM at HP ⊢
  generalize avoW F L = W at HW H2 hM HP
  clear hfl hf ht hb0 hFr
  go_enter Tryz.func72, Tryz.ntmps72
  go_wp2_with fail
  (with_reducible refine HW.out.mono ?_)
  rintro e w1 ⟨r, rfl, hn1, hb1⟩
  have hs1 := Sep.one (OwnOf.kept OStr.kept).held hn1
  obtain ⟨ra, rc, er, _⟩ := hs1.strsAt
  subst er
  rw [List.length_map] at hs1 ⊢
  have HS1 := Lib.hid (show Sep w0.heap.size w1 [Res.strs 9 (.slice ra (pick W (List.replicate W.length true)).length rc) ((pick W (List.replicate W.length true)).map wordT)] from by rw [pick_all]; exact hs1)
  have HB1 := Lib.hid hb1
  have HSup := Lib.hid (Sup.start (E := EG F W) (n := W.length))
  clear hn1 hb1 hs1
  go_wp2
  go_loopg [3] (cntT (List.replicate W.length true) + 1) (fun g ov wr => ∃ (l : List Bool) (a : Option Addr) (c : Nat), ov = .slice a (pick W l).length c ∧ cntT l + 1 = g ∧ Hid (Sup (EG F W) W.length l) ∧ Hid (Sep w0.heap.size wr [Res.strs 9 (.slice a (pick W l).length c) ((pick W l).map wordT)]) ∧ Hid (Below w0.heap.size w0 wr))
  case atStart => exact ⟨_, ra, rc, by rw [pick_all], rfl, HSup, HS1, HB1⟩
  case round =>
    clear HS1 HB1 HSup
    obtain ⟨l, a, c, rfl, hg, HSup, HS, HB⟩ := hrel
    obtain ⟨wA, rfl⟩ : ∃ x, x = wr := ⟨_, rfl⟩
    have hz := HB.out.size
    have hlw := HSup.out.1
    have H2O := Lib.hid (fun u (h : u ∈ pick W l) => H2.out u (pick_sub h))
    have HK := Lib.hid (fun (n2 : Nat) (hn : (pick W (maskF (keepB F (pick W l)) W l)).length = n2) => (show (pick W l).filter (keepB F (pick W l)) = pick W (maskF (keepB F (pick W l)) W l) from pick_filter _ _ _))
    have hOl : (pick W l).length ≤ 729 := by rw [pick_len _ _ hlw]; exact Nat.le_trans cntT_le (by omega)
    have HS0 := Lib.hid ((HS.out.new (OwnOf.kept OStr.kept).held ((Below.refl _ _).alloc (Nat.le_refl _) _) hz (New.empty (e := 9) (R := OValR Value.string) wA (Nat.le_refl _))))
    obtain ⟨wN, eN⟩ : ∃ x, x = wA.alloc (.cells #[] 9) := ⟨_, rfl⟩
    rw [← eN] at HS0
    have HBN := Lib.hid (show Below w0.heap.size w0 wN from by rw [eN]; exact HB.out.alloc hz _)
    have eNs := eN.symm
    clear eN HS HB hz
    obtain ⟨O, hO⟩ : ∃ O, O = pick W l := ⟨_, rfl⟩
    have HO := Lib.hid hO
    rw [← hO] at H2O HK hOl HS0 ⊢
    clear hO
    go_wp2
    clear eNs
    go_loopg [4, 5] O.length (fun g vs i wr => ∃ (k : Nat) (na : Option Addr) (nc : Nat), vs = .slice na ((O.take k).filter (keepB F O)).length nc ∧ i = .int .i64 k ∧ k + g = O.length ∧ Hid (Sep w0.heap.size wr [Res.strs 9 (.slice na ((O.take k).filter (keepB F O)).length nc) (((O.take k).filter (keepB F O)).map wordT), Res.strs 9 (.slice a O.length c) (O.map wordT)]) ∧ Hid (Below w0.heap.size w0 wr))
    case atStart => exact ⟨0, _, _, rfl, rfl, by omega, HS0, HBN⟩
    case round =>
      clear HS0 HBN
      obtain ⟨k, na, nc, rfl, rfl, hk, HS, HB⟩ := hrel
      obtain ⟨wB, rfl⟩ : ∃ x, x = wr := ⟨_, rfl⟩
      by_cases hlt : k < O.length
      · obtain ⟨g2, rfl⟩ : ∃ x, gk = x + 1 := ⟨gk - 1, by omega⟩
        obtain ⟨u, hu, _⟩ := at_lt hlt
        have hsO := HS.out.swap
        obtain ⟨_, _, hv, hq⟩ := hsO.strsAt
        obtain ⟨b, e1, hb, hc⟩ := hq (by simp; omega)
        simp at hv
        obtain ⟨rfl, rfl⟩ := hv
        subst e1
        have g0 := hc k (wordT u) (by simp [hu])
        have hu2 := H2O.out u (List.mem_of_getElem? hu)
        have hTO : TsR wB (.slice (some ⟨b, 0, none⟩) O.length c) (O.map wordT) := by
          obtain ⟨G, hG, -⟩ := hsO.headNew
          exact OwnOf.reads (fun _ _ _ _ h => h.1) hG
        have HGT := Lib.hid (fun (w' : World) (hb' : Below wB.heap.size wB w') => (show Calls Tryz.prog 95 #[.agg #[.int .i64 L, .slice va1 fl va2], .slice (some ⟨b, 0, none⟩) O.length c, .string (wordT u), .bool true] w' _ from l3GoesT_c (z := ((L : Int), F)) ⟨_, rfl, TsR.frame _ _ _ _ (TsR.frame _ _ _ _ HFr.out HB.out) hb'⟩ Hf.out (TsR.frame _ _ _ _ hTO hb') hu2 H2O.out))
        have HGF := Lib.hid (fun (w' : World) (hb' : Below wB.heap.size wB w') => (show Calls Tryz.prog 95 #[.agg #[.int .i64 L, .slice va1 fl va2], .slice (some ⟨b, 0, none⟩) O.length c, .string (wordT u), .bool false] w' _ from l3GoesF_c (z := ((L : Int), F)) ⟨_, rfl, TsR.frame _ _ _ _ (TsR.frame _ _ _ _ HFr.out HB.out) hb'⟩ Hf.out (TsR.frame _ _ _ _ hTO hb') hu2 H2O.out))
        have k0 := (HB.out.cell (p := ⟨w.heap.size, 0, none⟩) m0).trans c0
        have k1 := (HB.out.cell (p := ⟨w.heap.size, 1, none⟩) m0).trans c1
        have m1 : w.heap.size < wB.heap.size := Nat.lt_of_lt_of_le m0 HB.out.size
        have hki : (k : Int) < (O.length : Int) := by omega
        have HT := Lib.hid (show (O.take (k + 1)).filter (keepB F O) = (O.take k).filter (keepB F O) ++ (if keepB F O u = true then [u] else []) from by rw [← take_snoc' hu, List.filter_append]; congr 1; simp [List.filter_cons])
        have hfl : ((O.take k).filter (keepB F O)).length ≤ 729 := Nat.le_trans (List.length_filter_le _ _) (by simp; omega)
        have HKB := Lib.hid (show keepB F O u = ((O.any fun v => goesB F u v) && (O.any fun v => goesB F v u)) from rfl)
        generalize hfn : ((O.take k).filter (keepB F O)) = fl' at HS HT hfl
        obtain ⟨p1, hp1⟩ : ∃ x, x = (O.any fun v => goesB F u v) := ⟨_, rfl⟩
        obtain ⟨p2, hp2⟩ : ∃ x, x = (O.any fun v => goesB F v u) := ⟨_, rfl⟩
        simp only at HGT HGF
        rw [← hp1] at HGT HKB
        rw [← hp2] at HGF HKB
        clear hfn hu hq hc hu2 hTO hsO hp1 hp2
        have HSS := Lib.hid (fun (w' : World) (hb' : Below wB.heap.size wB w') => (show w'.cell? ⟨w.heap.size, 0, none⟩ = some (.int .i64 L) ∧ w'.cell? ⟨w.heap.size, 1, none⟩ = some (.slice va1 fl va2) ∧ w'.cell? ⟨b, k, none⟩ = some (.string (wordT u)) from ⟨(hb'.cell (p := ⟨w.heap.size, 0, none⟩) m1).trans k0, (hb'.cell (p := ⟨w.heap.size, 1, none⟩) m1).trans k1, (hb'.cell (p := ⟨b, k, none⟩) hb).trans g0⟩))
        have hS0 := HSS.out _ (Below.refl _ _)
        have B1 := (Below.refl wB.heap.size wB).drew
        have hSd := HSS.out _ B1
        cases p1 with
        | false =>
          have HT2 := Lib.hid (show (O.take (k + 1)).filter (keepB F O) = fl' from by rw [HT.out, HKB.out]; simp)
          clear HT
          go_wp2
          refine wp_region_L (fun w' => w'.cell? ⟨w.heap.size, 0, none⟩ = some (.int .i64 L) ∧ w'.cell? ⟨w.heap.size, 1, none⟩ = some (.slice va1 fl va2) ∧ w'.cell? ⟨b, k, none⟩ = some (.string (wordT u))) (by kernel_rfl) ?_
          refine wpAnyL_take 1 (v := ?_) rfl (by kernel_rfl) (by kernel_rfl) (by kernel_rfl) (by kernel_rfl) (fun _ _ _ h => h) (Or.inl ⟨by rfl, ?_⟩) hSd ?_
          rotate_left
          · (intro w hSw; (try dsimp only at hSw); go_simp) <;> (try with_reducible rfl)
          try simp only [Act.put, List.getElem_toArray, List.getElem_cons_zero, List.getElem_cons_succ, List.setIfInBounds_toArray, List.set_cons_zero, List.set_cons_succ]
          refine wpAnyL_take 2 (v := ?_) rfl (by kernel_rfl) (by kernel_rfl) (by kernel_rfl) (by kernel_rfl) (fun _ _ _ h => h) (Or.inl ⟨by rfl, ?_⟩) hSd ?_
          rotate_left
          · (intro w hSw; (try dsimp only at hSw); go_simp) <;> (try with_reducible rfl)
          try simp only [Act.put, List.getElem_toArray, List.getElem_cons_zero, List.getElem_cons_succ, List.setIfInBounds_toArray, List.set_cons_zero, List.set_cons_succ]
          refine wpAnyL_take 3 (v := ?_) rfl (by kernel_rfl) (by kernel_rfl) (by kernel_rfl) (by kernel_rfl) (fun _ _ _ h => h) (Or.inl ⟨by rfl, ?_⟩) hSd ?_
          rotate_left
          · (intro w hSw; (try dsimp only at hSw); go_simp) <;> (try with_reducible rfl)
          try simp only [Act.put, List.getElem_toArray, List.getElem_cons_zero, List.getElem_cons_succ, List.setIfInBounds_toArray, List.set_cons_zero, List.set_cons_succ]
          refine wpAnyL_take 0 (v := ?_) rfl (by kernel_rfl) (by kernel_rfl) (by kernel_rfl) (by kernel_rfl) (fun _ _ _ h => h) (Or.inl ⟨by rfl, ?_⟩) hSd ?_
          rotate_left
          · (intro w hSw; (try dsimp only at hSw); go_simp) <;> (try with_reducible rfl)
          try simp only [Act.put, List.getElem_toArray, List.getElem_cons_zero, List.getElem_cons_succ, List.setIfInBounds_toArray, List.set_cons_zero, List.set_cons_succ]
          refine wpAnyL_take 4 (v := ?_) rfl (by kernel_rfl) (by kernel_rfl) (by kernel_rfl) (by kernel_rfl) (fun _ _ _ h => h) (Or.inl ⟨by rfl, ?_⟩) hSd ?_
          rotate_left
          · (intro w hSw; (try dsimp only at hSw); go_simp) <;> (try with_reducible rfl)
          try simp only [Act.put, List.getElem_toArray, List.getElem_cons_zero, List.getElem_cons_succ, List.setIfInBounds_toArray, List.set_cons_zero, List.set_cons_succ]
          refine wpAnyL_take 5 (v := ?_) rfl (by kernel_rfl) (by kernel_rfl) (by kernel_rfl) (by kernel_rfl) (fun _ _ _ h => h) (Or.inl ⟨by rfl, ?_⟩) hSd ?_
          rotate_left
          · (intro w hSw; (try dsimp only at hSw); go_simp) <;> (try with_reducible rfl)
          try simp only [Act.put, List.getElem_toArray, List.getElem_cons_zero, List.getElem_cons_succ, List.setIfInBounds_toArray, List.set_cons_zero, List.set_cons_succ]
          refine wpAnyL_one 6 (by kernel_rfl) rfl (fun K hK => ?_)
          go_simp
          (with_reducible refine (HGT.out _ B1).mono ?_)
          rintro e u1 ⟨rfl, q1⟩
          have B2 := B1.trans (q1.mono B1.size)
          have hS2 := HSS.out _ B2
          go_wp2_with fail
          refine hK.out _ _ (fun _ => hS2) ?_
          clear hK K
          try simp only [Act.put, List.getElem_toArray, List.getElem_cons_zero, List.getElem_cons_succ, List.setIfInBounds_toArray, List.set_cons_zero, List.set_cons_succ]
          refine wpAnyL_take 7 (v := ?_) rfl (by kernel_rfl) (by kernel_rfl) (by kernel_rfl) (by kernel_rfl) (fun _ _ _ h => h) (Or.inl ⟨by rfl, ?_⟩) hS2 ?_
          rotate_left
          · (intro w hSw; (try dsimp only at hSw); go_simp) <;> (try with_reducible rfl)
          try simp only [Act.put, List.getElem_toArray, List.getElem_cons_zero, List.getElem_cons_succ, List.setIfInBounds_toArray, List.set_cons_zero, List.set_cons_succ]
          refine wpAnyL_take 8 (v := undef) rfl (by kernel_rfl) (by kernel_rfl) (by kernel_rfl) (by kernel_rfl) (fun _ _ _ h => h) (Or.inr ⟨by rfl, rfl⟩) hS2 ?_
          try simp only [Act.put, List.getElem_toArray, List.getElem_cons_zero, List.getElem_cons_succ, List.setIfInBounds_toArray, List.set_cons_zero, List.set_cons_succ]
          refine wpAnyL_take 9 (v := undef) rfl (by kernel_rfl) (by kernel_rfl) (by kernel_rfl) (by kernel_rfl) (fun _ _ _ h => h) (Or.inr ⟨by rfl, rfl⟩) hS2 ?_
          try simp only [Act.put, List.getElem_toArray, List.getElem_cons_zero, List.getElem_cons_succ, List.setIfInBounds_toArray, List.set_cons_zero, List.set_cons_succ]
          refine wpAnyL_take 10 (v := undef) rfl (by kernel_rfl) (by kernel_rfl) (by kernel_rfl) (by kernel_rfl) (fun _ _ _ h => h) (Or.inr ⟨by rfl, rfl⟩) hS2 ?_
          try simp only [Act.put, List.getElem_toArray, List.getElem_cons_zero, List.getElem_cons_succ, List.setIfInBounds_toArray, List.set_cons_zero, List.set_cons_succ]
          refine wpAnyL_take 11 (v := undef) rfl (by kernel_rfl) (by kernel_rfl) (by kernel_rfl) (by kernel_rfl) (fun _ _ _ h => h) (Or.inr ⟨by rfl, rfl⟩) hS2 ?_
          try simp only [Act.put, List.getElem_toArray, List.getElem_cons_zero, List.getElem_cons_succ, List.setIfInBounds_toArray, List.set_cons_zero, List.set_cons_succ]
          refine wpAnyL_take 12 (v := undef) rfl (by kernel_rfl) (by kernel_rfl) (by kernel_rfl) (by kernel_rfl) (fun _ _ _ h => h) (Or.inr ⟨by rfl, rfl⟩) hS2 ?_
          try simp only [Act.put, List.getElem_toArray, List.getElem_cons_zero, List.getElem_cons_succ, List.setIfInBounds_toArray, List.set_cons_zero, List.set_cons_succ]
          refine wpAnyL_take 13 (v := undef) rfl (by kernel_rfl) (by kernel_rfl) (by kernel_rfl) (by kernel_rfl) (fun _ _ _ h => h) (Or.inr ⟨by rfl, rfl⟩) hS2 ?_
          try simp only [Act.put, List.getElem_toArray, List.getElem_cons_zero, List.getElem_cons_succ, List.setIfInBounds_toArray, List.set_cons_zero, List.set_cons_succ]
          refine wpAnyL_take 14 (v := undef) rfl (by kernel_rfl) (by kernel_rfl) (by kernel_rfl) (by kernel_rfl) (fun _ _ _ h => h) (Or.inr ⟨by rfl, rfl⟩) hS2 ?_
          try simp only [Act.put, List.getElem_toArray, List.getElem_cons_zero, List.getElem_cons_succ, List.setIfInBounds_toArray, List.set_cons_zero, List.set_cons_succ]
          refine wpAnyL_one 15 (by kernel_rfl) rfl (fun K hK => ?_)
          go_simp
          refine hK.out _ _ (fun h => absurd h (not_rem (by kernel_rfl))) ?_
          clear hK K
          try simp only [Act.put, List.getElem_toArray, List.getElem_cons_zero, List.getElem_cons_succ, List.setIfInBounds_toArray, List.set_cons_zero, List.set_cons_succ]
          refine wpAnyL_done (by kernel_rfl) ?_ _
          have HS2 := Lib.hid (HS.out.below B2 (Nat.le_refl _))
          have HB2 := Lib.hid (HB.out.trans (B2.mono HB.out.size))
          go_wp2
          go_roundg g2
          case measure => omega
          case rel => exact ⟨k + 1, _, _, by rw [HT2.out], by go_num, by omega, by rw [HT2.out]; exact HS2, HB2⟩
        | true =>
          cases p2 with
          | false =>
            go_wp2
            go_region_held3 (fun w' => w'.cell? ⟨w.heap.size, 0, none⟩ = some (.int .i64 L) ∧ w'.cell? ⟨w.heap.size, 1, none⟩ = some (.slice va1 fl va2) ∧ w'.cell? ⟨b, k, none⟩ = some (.string (wordT u)))
              (first | with_reducible exact hS3 | with_reducible exact hS2 | with_reducible exact hSd | with_reducible exact hS0 | go_keep)
              ((first
                | (go_at_call 95; (first
                  | (have HQ := HGT.out _ B1; (with_reducible refine HQ.mono ?_); clear HQ; rintro e u1 ⟨rfl, q1⟩; have B2 := B1.trans (q1.mono B1.size); have hS2 := HSS.out _ B2)
                  | (have HQ := HGF.out _ B2; (with_reducible refine HQ.mono ?_); clear HQ; rintro e u2 ⟨rfl, q2⟩; have B3 := B2.trans (q2.mono B2.size); have hS3 := HSS.out _ B3)))
                | fail))
            have HT2 := Lib.hid (show (O.take (k + 1)).filter (keepB F O) = fl' from by rw [HT.out, HKB.out]; simp)
            have HS2 := Lib.hid (HS.out.below B3 (Nat.le_refl _))
            have HB2 := Lib.hid (HB.out.trans (B3.mono HB.out.size))
            clear HT
            go_wp2
            go_roundg g2
            case measure => omega
            case rel => exact ⟨k + 1, _, _, by rw [HT2.out], by go_num, by omega, by rw [HT2.out]; exact HS2, HB2⟩
          | true =>
            go_wp2
            go_region_held3 (fun w' => w'.cell? ⟨w.heap.size, 0, none⟩ = some (.int .i64 L) ∧ w'.cell? ⟨w.heap.size, 1, none⟩ = some (.slice va1 fl va2) ∧ w'.cell? ⟨b, k, none⟩ = some (.string (wordT u)))
              (first | with_reducible exact hS3 | with_reducible exact hS2 | with_reducible exact hSd | with_reducible exact hS0 | go_keep)
              ((first
                | (go_at_call 95; (first
                  | (have HQ := HGT.out _ B1; (with_reducible refine HQ.mono ?_); clear HQ; rintro e u1 ⟨rfl, q1⟩; have B2 := B1.trans (q1.mono B1.size); have hS2 := HSS.out _ B2)
                  | (have HQ := HGF.out _ B2; (with_reducible refine HQ.mono ?_); clear HQ; rintro e u2 ⟨rfl, q2⟩; have B3 := B2.trans (q2.mono B2.size); have hS3 := HSS.out _ B3)))
                | fail))
            have HT2 := Lib.hid (show (O.take (k + 1)).filter (keepB F O) = fl' ++ [u] from by rw [HT.out, HKB.out]; simp)
            have hs2 := HS.out.below B3 (Nat.le_refl _)
            have hb2 := HB.out.trans (B3.mono HB.out.size)
            have g2' := (B3.cell (p := ⟨b, k, none⟩) hb).trans g0
            have hz2 := hb2.size
            obtain ⟨v', w3, hr, hs3, hb3⟩ := Sep.push (P := Tryz.prog) OStr.kept 29 29 (.string ⟨#[]⟩) 16 Tryz.underlying29 infoStr rfl hs2 hz2 (w1 := u2.alloc (.cells #[.string (wordT u)] 9)) ((Below.refl _ _).alloc (Nat.le_refl _) _) (q := .string (wordT u)) (x := wordT u) ⟨[], ⟨rfl, rfl⟩, by simp [Fresh]⟩ (bb := u2.heap.size) (c := 1) (World.cell?_alloc_at _ _ _ 0 rfl) (by simp; omega) (by simp; omega)
            obtain ⟨a', c', ev, _⟩ := hs3.strsAt
            subst ev
            have e5 : (fl'.map wordT ++ [wordT u]).length = (fl' ++ [u]).length := by simp
            have e6 : fl'.map wordT ++ [wordT u] = (fl' ++ [u]).map wordT := by simp
            rw [e5, e6] at hs3
            rw [e5] at hr
            have e7 : (fl' ++ [u]).length = fl'.length + 1 := by simp
            rw [e7] at hs3 hr
            have HS3 := Lib.hid hs3
            have HB3 := Lib.hid (hb2.trans hb3)
            have Hr := Lib.hid hr
            have E7 := Lib.hid e7
            clear hs3 hr hb3 e5 e6 e7 hs2 hb2 HS HB HGT HGF HT B1 B2 B3 q1 q2
            go_wp2_with (first
              | (at_builtin; refine wpl_append_run rfl (.tmp 31) (.tmp 36) 29 rfl rfl rfl Hr.out ?_)
              | fail)
            go_roundg g2
            case measure => omega
            case rel => exact ⟨k + 1, _, _, by rw [HT2.out, E7.out], by go_num, by omega, by rw [HT2.out, E7.out]; exact HS3, HB3⟩
      · have hki : ¬ ((k : Int) < (O.length : Int)) := by omega
        obtain ⟨l2, hl2⟩ : ∃ x, x = maskF (keepB F (pick W l)) W l := ⟨_, rfl⟩
        have hX : O.filter (keepB F O) = pick W l2 := by rw [HO.out, hl2]; exact pick_filter _ _ _
        have hl2w : l2.length = W.length := by rw [hl2, maskF_len, hlw]
        have hs9 : Sep w0.heap.size wB [Res.strs 9 (.slice na (pick W l2).length nc) ((pick W l2).map wordT), Res.strs 9 (.slice a O.length c) (O.map wordT)] := by
          have h := HS.out
          rw [List.take_of_length_le (by omega), hX] at h
          exact h
        rw [List.take_of_length_le (by omega), hX]
        have hOn : O.length = (pick W l).length := by rw [HO.out]
        have hP2 : (pick W l2).length ≤ 729 := by rw [pick_len _ _ hl2w]; exact Nat.le_trans cntT_le (by omega)
        clear HS
        by_cases he : (pick W l2).length = O.length
        · have hend := keep_end HSup.out (by rw [← hl2, he, hOn])
          have t9 : (((pick W l2).length : Int) == (O.length : Int)) = true := by rw [he]; simp
          have HR := Lib.hid (show New (OStrL 9) w.heap.size wB (.slice a O.length c) (PM.map wordT) from by
            have h := hs9.swap.headNew
            rw [HP.out, ← hend, ← HO.out]
            exact h.mono (Nat.le_of_lt m0))
          have HBf := Lib.hid (HB0.out.trans (HB.out.mono (Nat.le_of_lt m0)))
          generalize (pick W l2).length = q1 at t9 ⊢
          generalize O.length = q2 at t9 HR hki ⊢
          clear hs9 he hend hX hl2 HB
          go_wp2
          go_ret
          exact ⟨_, rfl, HR.out, HBf.out⟩
        · have t9 : (((pick W l2).length : Int) == (O.length : Int)) = false := by simp; omega
          have hless := keep_less hlw (by rw [← hl2, ← hOn]; exact he)
          rw [← hl2] at hless
          have HS9 := Lib.hid (show Sep w0.heap.size wB [Res.strs 9 (.slice na (pick W l2).length nc) ((pick W l2).map wordT)] from hs9.swap.tail)
          have HSu := Lib.hid (show Sup (EG F W) W.length l2 from by rw [hl2]; exact keep_sup HSup.out)
          clear hs9 he hX hl2
          go_wp2
          go_roundg (cntT l2 + 1)
          case measure => omega
          case rel => exact ⟨l2, na, nc, rfl, rfl, HSu, HS9, HB⟩
end Go.Proofs.YtcilgihmaaobeaaGreatDoor
end
