/-
  Texts of this claim joined: laws for its walks, contracts of the functions that the law reaches.
-/
import Derived.Test.YtcilgihmaaobeaaDoorRows
import Derived.Test.YtcilgihmaaobeaaDoorFnSyncM1
import Derived.Test.YtcilgihmaaobeaaDoorFnSyncM8
import Derived.Test.YtcilgihmaaobeaaDoorFnSyncM10
import Derived.Test.YtcilgihmaaobeaaDoorFnSyncM11
import Derived.Test.YtcilgihmaaobeaaDoorFnSyncM2
import Derived.IntWalk
import Derived.BigQuiet
import Derived.Deep.RegionHeld3
import Derived.Deep.DeepCutAuto
import Derived.Test.YtcilgihmaaobeaaDoorFnSyncM5
import Derived.Test.YtcilgihmaaobeaaDoorFnSyncM9
import Derived.Test.YtcilgihmaaobeaaDoorFnSyncM6
set_option linter.unusedVariables false
set_option linter.unusedSimpArgs false
section
namespace Go.Proofs.YtcilgihmaaobeaaDoor
open Go.RowKit Go.Deep Go.Sd
set_option linter.unusedSimpArgs false
theorem pick_sub {α : Type} {xs : List α} {l : List Bool} {x : α} (h : x ∈ pick xs l) : x ∈ xs := by
  obtain ⟨i, -, h2⟩ := (pick_mem _ _ _).1 h
  exact List.mem_of_getElem? h2
set_option maxHeartbeats 4000000 in
set_option maxRecDepth 100000 in
theorem l3Pairs_c {w : World} {vs : Value} {L : Nat} {F : List ByteArray} (hz : ShR w vs ((L : Int), F)) (h0 : 0 < L) (h3 : L ≤ 3) (hf : ∀ f, f ∈ F → f.size ≤ 1048576) :
    Calls Tryd.prog 94 #[vs] w (Makes (OStrL 9) w ((pairsM F L).map wordT)) := by
  obtain ⟨va, rfl, ht⟩ := hz
  simp only at ht
  obtain ⟨w0, e0, hb0, c0, c1, m0⟩ := boxA_ex w 92 (.int .i64 L) va
  have hFr := TsR.frame _ _ _ _ ht hb0
  obtain ⟨va1, va2, rfl, -⟩ := hFr.shape
  have HFr := Lib.hid hFr
  generalize hfl : F.length = fl at c1 e0 HFr ⊢
  have Hf := Lib.hid hf
  have HB0 := Lib.hid hb0
  have HW := Lib.hid (show Calls Tryd.prog 97 #[.agg #[.int .i64 L, .slice va1 fl va2], .int .i64 2] w0 _ from l3Words_c (L := L) (F := F) ⟨_, rfl, HFr.out⟩ h0 h3 hf)
  have H2 := Lib.hid (fun u (h : u ∈ avoW F L) => avoW_two h0 h3 h)
  have hM : (avoW F L).length ≤ 729 := Nat.le_trans (List.length_filter_le _ _) (by rw [allW_len h0]; exact pow_le h3 (by decide))
  have HP := Lib.hid (show pairsM F L = pick (avoW F L) (liveL (EG F (avoW F L)) (avoW F L).length) from rfl)
  generalize pairsM F L = PM at HP ⊢
  generalize avoW F L = W at HW H2 hM HP
  clear hfl hf ht hb0 hFr
  go_enter Tryd.func94, Tryd.ntmps94
  go_wp2_with fail
  (with_reducible refine HW.out.mono ?_)
  rintro e w1 ⟨r, rfl, hn1, hb1⟩
  have hs1 := Sep.one (OwnOf.kept OStr.kept).held hn1
  obtain ⟨ra, rc, er, _⟩ := hs1.strsAt
  subst er
  rw [List.length_map] at hs1 ⊢
  have HS1 := Lib.hid (show Sep w0.heap.size w1 [Res.strs 9 (.slice ra (pick W (List.replicate W.length true)).length rc) ((pick W (List.replicate W.length true)).map wordT)] from by rw [pick_all]; exact hs1)
  have HB1 := Lib.hid hb1
  have HSup := Lib.hid (Sup.start (E := EG F W) (n := W.length))
  clear hn1 hb1 hs1
  go_wp2
  go_loopg [3] (cntT (List.replicate W.length true) + 1) (fun g ov wr => ∃ (l : List Bool) (a : Option Addr) (c : Nat), ov = .slice a (pick W l).length c ∧ cntT l + 1 = g ∧ Hid (Sup (EG F W) W.length l) ∧ Hid (Sep w0.heap.size wr [Res.strs 9 (.slice a (pick W l).length c) ((pick W l).map wordT)]) ∧ Hid (Below w0.heap.size w0 wr))
  case atStart => exact ⟨_, ra, rc, by rw [pick_all], rfl, HSup, HS1, HB1⟩
  case round =>
    clear HS1 HB1 HSup
    obtain ⟨l, a, c, rfl, hg, HSup, HS, HB⟩ := hrel
    obtain ⟨wA, rfl⟩ : ∃ x, x = wr := ⟨_, rfl⟩
    have hz := HB.out.size
    have hlw := HSup.out.1
    have H2O := Lib.hid (fun u (h : u ∈ pick W l) => H2.out u (pick_sub h))
    have HK := Lib.hid (fun (n2 : Nat) (hn : (pick W (maskF (keepB F (pick W l)) W l)).length = n2) => (show (pick W l).filter (keepB F (pick W l)) = pick W (maskF (keepB F (pick W l)) W l) from pick_filter _ _ _))
    have hOl : (pick W l).length ≤ 729 := by rw [pick_len _ _ hlw]; exact Nat.le_trans cntT_le (by omega)
    have HS0 := Lib.hid ((HS.out.new (OwnOf.kept OStr.kept).held ((Below.refl _ _).alloc (Nat.le_refl _) _) hz (New.empty (e := 9) (R := OValR Value.string) wA (Nat.le_refl _))))
    obtain ⟨wN, eN⟩ : ∃ x, x = wA.alloc (.cells #[] 9) := ⟨_, rfl⟩
    rw [← eN] at HS0
    have HBN := Lib.hid (show Below w0.heap.size w0 wN from by rw [eN]; exact HB.out.alloc hz _)
    have eNs := eN.symm
    clear eN HS HB hz
    obtain ⟨O, hO⟩ : ∃ O, O = pick W l := ⟨_, rfl⟩
    have HO := Lib.hid hO
    rw [← hO] at H2O HK hOl HS0 ⊢
    clear hO
    go_wp2
    clear eNs
    go_loopg [4, 5] O.length (fun g vs i wr => ∃ (k : Nat) (na : Option Addr) (nc : Nat), vs = .slice na ((O.take k).filter (keepB F O)).length nc ∧ i = .int .i64 k ∧ k + g = O.length ∧ Hid (Sep w0.heap.size wr [Res.strs 9 (.slice na ((O.take k).filter (keepB F O)).length nc) (((O.take k).filter (keepB F O)).map wordT), Res.strs 9 (.slice a O.length c) (O.map wordT)]) ∧ Hid (Below w0.heap.size w0 wr))
    case atStart => exact ⟨0, _, _, rfl, rfl, by omega, HS0, HBN⟩
    case round =>
      clear HS0 HBN
      obtain ⟨k, na, nc, rfl, rfl, hk, HS, HB⟩ := hrel
      obtain ⟨wB, rfl⟩ : ∃ x, x = wr := ⟨_, rfl⟩
      by_cases hlt : k < O.length
      · obtain ⟨g2, rfl⟩ : ∃ x, gk = x + 1 := ⟨gk - 1, by omega⟩
        obtain ⟨u, hu, _⟩ := at_lt hlt
        have hsO := HS.out.swap
        obtain ⟨_, _, hv, hq⟩ := hsO.strsAt
        obtain ⟨b, e1, hb, hc⟩ := hq (by simp; omega)
        simp at hv
        obtain ⟨rfl, rfl⟩ := hv
        subst e1
        have g0 := hc k (wordT u) (by simp [hu])
        have hu2 := H2O.out u (List.mem_of_getElem? hu)
        have hTO : TsR wB (.slice (some ⟨b, 0, none⟩) O.length c) (O.map wordT) := by
          obtain ⟨G, hG, -⟩ := hsO.headNew
          exact OwnOf.reads (fun _ _ _ _ h => h.1) hG
        have HGT := Lib.hid (fun (w' : World) (hb' : Below wB.heap.size wB w') => (show Calls Tryd.prog 98 #[.agg #[.int .i64 L, .slice va1 fl va2], .slice (some ⟨b, 0, none⟩) O.length c, .string (wordT u), .bool true] w' _ from l3GoesT_c (z := ((L : Int), F)) ⟨_, rfl, TsR.frame _ _ _ _ (TsR.frame _ _ _ _ HFr.out HB.out) hb'⟩ Hf.out (TsR.frame _ _ _ _ hTO hb') hu2 H2O.out))
        have HGF := Lib.hid (fun (w' : World) (hb' : Below wB.heap.size wB w') => (show Calls Tryd.prog 98 #[.agg #[.int .i64 L, .slice va1 fl va2], .slice (some ⟨b, 0, none⟩) O.length c, .string (wordT u), .bool false] w' _ from l3GoesF_c (z := ((L : Int), F)) ⟨_, rfl, TsR.frame _ _ _ _ (TsR.frame _ _ _ _ HFr.out HB.out) hb'⟩ Hf.out (TsR.frame _ _ _ _ hTO hb') hu2 H2O.out))
        have k0 := (HB.out.cell (p := ⟨w.heap.size, 0, none⟩) m0).trans c0
        have k1 := (HB.out.cell (p := ⟨w.heap.size, 1, none⟩) m0).trans c1
        have m1 : w.heap.size < wB.heap.size := Nat.lt_of_lt_of_le m0 HB.out.size
        have hki : (k : Int) < (O.length : Int) := by omega
        have HT := Lib.hid (show (O.take (k + 1)).filter (keepB F O) = (O.take k).filter (keepB F O) ++ (if keepB F O u = true then [u] else []) from by rw [← take_snoc' hu, List.filter_append]; congr 1; simp [List.filter_cons])
        have hfl : ((O.take k).filter (keepB F O)).length ≤ 729 := Nat.le_trans (List.length_filter_le _ _) (by simp; omega)
        have HKB := Lib.hid (show keepB F O u = ((O.any fun v => goesB F u v) && (O.any fun v => goesB F v u)) from rfl)
        generalize hfn : ((O.take k).filter (keepB F O)) = fl' at HS HT hfl
        obtain ⟨p1, hp1⟩ : ∃ x, x = (O.any fun v => goesB F u v) := ⟨_, rfl⟩
        obtain ⟨p2, hp2⟩ : ∃ x, x = (O.any fun v => goesB F v u) := ⟨_, rfl⟩
        simp only at HGT HGF
        rw [← hp1] at HGT HKB
        rw [← hp2] at HGF HKB
        clear hfn hu hq hc hu2 hTO hsO hp1 hp2
        have HSS := Lib.hid (fun (w' : World) (hb' : Below wB.heap.size wB w') => (show w'.cell? ⟨w.heap.size, 0, none⟩ = some (.int .i64 L) ∧ w'.cell? ⟨w.heap.size, 1, none⟩ = some (.slice va1 fl va2) ∧ w'.cell? ⟨b, k, none⟩ = some (.string (wordT u)) from ⟨(hb'.cell (p := ⟨w.heap.size, 0, none⟩) m1).trans k0, (hb'.cell (p := ⟨w.heap.size, 1, none⟩) m1).trans k1, (hb'.cell (p := ⟨b, k, none⟩) hb).trans g0⟩))
        have hS0 := HSS.out _ (Below.refl _ _)
        have B1 := (Below.refl wB.heap.size wB).drew
        have hSd := HSS.out _ B1
        cases p1 with
        | false =>
          have HT2 := Lib.hid (show (O.take (k + 1)).filter (keepB F O) = fl' from by rw [HT.out, HKB.out]; simp)
          clear HT
          go_wp2
          refine wp_region_L (fun w' => w'.cell? ⟨w.heap.size, 0, none⟩ = some (.int .i64 L) ∧ w'.cell? ⟨w.heap.size, 1, none⟩ = some (.slice va1 fl va2) ∧ w'.cell? ⟨b, k, none⟩ = some (.string (wordT u))) (by kernel_rfl) ?_
          refine wpAnyL_take 1 (v := ?_) rfl (by kernel_rfl) (by kernel_rfl) (by kernel_rfl) (by kernel_rfl) (fun _ _ _ h => h) (Or.inl ⟨by rfl, ?_⟩) hSd ?_
          rotate_left
          · (intro w hSw; (try dsimp only at hSw); go_simp) <;> (try with_reducible rfl)
          try simp only [Act.put, List.getElem_toArray, List.getElem_cons_zero, List.getElem_cons_succ, List.setIfInBounds_toArray, List.set_cons_zero, List.set_cons_succ]
          refine wpAnyL_take 2 (v := ?_) rfl (by kernel_rfl) (by kernel_rfl) (by kernel_rfl) (by kernel_rfl) (fun _ _ _ h => h) (Or.inl ⟨by rfl, ?_⟩) hSd ?_
          rotate_left
          · (intro w hSw; (try dsimp only at hSw); go_simp) <;> (try with_reducible rfl)
          try simp only [Act.put, List.getElem_toArray, List.getElem_cons_zero, List.getElem_cons_succ, List.setIfInBounds_toArray, List.set_cons_zero, List.set_cons_succ]
          refine wpAnyL_take 3 (v := ?_) rfl (by kernel_rfl) (by kernel_rfl) (by kernel_rfl) (by kernel_rfl) (fun _ _ _ h => h) (Or.inl ⟨by rfl, ?_⟩) hSd ?_
          rotate_left
          · (intro w hSw; (try dsimp only at hSw); go_simp) <;> (try with_reducible rfl)
          try simp only [Act.put, List.getElem_toArray, List.getElem_cons_zero, List.getElem_cons_succ, List.setIfInBounds_toArray, List.set_cons_zero, List.set_cons_succ]
          refine wpAnyL_take 0 (v := ?_) rfl (by kernel_rfl) (by kernel_rfl) (by kernel_rfl) (by kernel_rfl) (fun _ _ _ h => h) (Or.inl ⟨by rfl, ?_⟩) hSd ?_
          rotate_left
          · (intro w hSw; (try dsimp only at hSw); go_simp) <;> (try with_reducible rfl)
          try simp only [Act.put, List.getElem_toArray, List.getElem_cons_zero, List.getElem_cons_succ, List.setIfInBounds_toArray, List.set_cons_zero, List.set_cons_succ]
          refine wpAnyL_take 4 (v := ?_) rfl (by kernel_rfl) (by kernel_rfl) (by kernel_rfl) (by kernel_rfl) (fun _ _ _ h => h) (Or.inl ⟨by rfl, ?_⟩) hSd ?_
          rotate_left
          · (intro w hSw; (try dsimp only at hSw); go_simp) <;> (try with_reducible rfl)
          try simp only [Act.put, List.getElem_toArray, List.getElem_cons_zero, List.getElem_cons_succ, List.setIfInBounds_toArray, List.set_cons_zero, List.set_cons_succ]
          refine wpAnyL_take 5 (v := ?_) rfl (by kernel_rfl) (by kernel_rfl) (by kernel_rfl) (by kernel_rfl) (fun _ _ _ h => h) (Or.inl ⟨by rfl, ?_⟩) hSd ?_
          rotate_left
          · (intro w hSw; (try dsimp only at hSw); go_simp) <;> (try with_reducible rfl)
          try simp only [Act.put, List.getElem_toArray, List.getElem_cons_zero, List.getElem_cons_succ, List.setIfInBounds_toArray, List.set_cons_zero, List.set_cons_succ]
          refine wpAnyL_one 6 (by kernel_rfl) rfl (fun K hK => ?_)
          go_simp
          (with_reducible refine (HGT.out _ B1).mono ?_)
          rintro e u1 ⟨rfl, q1⟩
          have B2 := B1.trans (q1.mono B1.size)
          have hS2 := HSS.out _ B2
          go_wp2_with fail
          refine hK.out _ _ (fun _ => hS2) ?_
          clear hK K
          try simp only [Act.put, List.getElem_toArray, List.getElem_cons_zero, List.getElem_cons_succ, List.setIfInBounds_toArray, List.set_cons_zero, List.set_cons_succ]
          refine wpAnyL_take 7 (v := ?_) rfl (by kernel_rfl) (by kernel_rfl) (by kernel_rfl) (by kernel_rfl) (fun _ _ _ h => h) (Or.inl ⟨by rfl, ?_⟩) hS2 ?_
          rotate_left
          · (intro w hSw; (try dsimp only at hSw); go_simp) <;> (try with_reducible rfl)
          try simp only [Act.put, List.getElem_toArray, List.getElem_cons_zero, List.getElem_cons_succ, List.setIfInBounds_toArray, List.set_cons_zero, List.set_cons_succ]
          refine wpAnyL_take 8 (v := undef) rfl (by kernel_rfl) (by kernel_rfl) (by kernel_rfl) (by kernel_rfl) (fun _ _ _ h => h) (Or.inr ⟨by rfl, rfl⟩) hS2 ?_
          try simp only [Act.put, List.getElem_toArray, List.getElem_cons_zero, List.getElem_cons_succ, List.setIfInBounds_toArray, List.set_cons_zero, List.set_cons_succ]
          refine wpAnyL_take 9 (v := undef) rfl (by kernel_rfl) (by kernel_rfl) (by kernel_rfl) (by kernel_rfl) (fun _ _ _ h => h) (Or.inr ⟨by rfl, rfl⟩) hS2 ?_
          try simp only [Act.put, List.getElem_toArray, List.getElem_cons_zero, List.getElem_cons_succ, List.setIfInBounds_toArray, List.set_cons_zero, List.set_cons_succ]
          refine wpAnyL_take 10 (v := undef) rfl (by kernel_rfl) (by kernel_rfl) (by kernel_rfl) (by kernel_rfl) (fun _ _ _ h => h) (Or.inr ⟨by rfl, rfl⟩) hS2 ?_
          try simp only [Act.put, List.getElem_toArray, List.getElem_cons_zero, List.getElem_cons_succ, List.setIfInBounds_toArray, List.set_cons_zero, List.set_cons_succ]
          refine wpAnyL_take 11 (v := undef) rfl (by kernel_rfl) (by kernel_rfl) (by kernel_rfl) (by kernel_rfl) (fun _ _ _ h => h) (Or.inr ⟨by rfl, rfl⟩) hS2 ?_
          try simp only [Act.put, List.getElem_toArray, List.getElem_cons_zero, List.getElem_cons_succ, List.setIfInBounds_toArray, List.set_cons_zero, List.set_cons_succ]
          refine wpAnyL_take 12 (v := undef) rfl (by kernel_rfl) (by kernel_rfl) (by kernel_rfl) (by kernel_rfl) (fun _ _ _ h => h) (Or.inr ⟨by rfl, rfl⟩) hS2 ?_
          try simp only [Act.put, List.getElem_toArray, List.getElem_cons_zero, List.getElem_cons_succ, List.setIfInBounds_toArray, List.set_cons_zero, List.set_cons_succ]
          refine wpAnyL_take 13 (v := undef) rfl (by kernel_rfl) (by kernel_rfl) (by kernel_rfl) (by kernel_rfl) (fun _ _ _ h => h) (Or.inr ⟨by rfl, rfl⟩) hS2 ?_
          try simp only [Act.put, List.getElem_toArray, List.getElem_cons_zero, List.getElem_cons_succ, List.setIfInBounds_toArray, List.set_cons_zero, List.set_cons_succ]
          refine wpAnyL_take 14 (v := undef) rfl (by kernel_rfl) (by kernel_rfl) (by kernel_rfl) (by kernel_rfl) (fun _ _ _ h => h) (Or.inr ⟨by rfl, rfl⟩) hS2 ?_
          try simp only [Act.put, List.getElem_toArray, List.getElem_cons_zero, List.getElem_cons_succ, List.setIfInBounds_toArray, List.set_cons_zero, List.set_cons_succ]
          refine wpAnyL_one 15 (by kernel_rfl) rfl (fun K hK => ?_)
          go_simp
          refine hK.out _ _ (fun h => absurd h (not_rem (by kernel_rfl))) ?_
          clear hK K
          try simp only [Act.put, List.getElem_toArray, List.getElem_cons_zero, List.getElem_cons_succ, List.setIfInBounds_toArray, List.set_cons_zero, List.set_cons_succ]
          refine wpAnyL_done (by kernel_rfl) ?_ _
          have HS2 := Lib.hid (HS.out.below B2 (Nat.le_refl _))
          have HB2 := Lib.hid (HB.out.trans (B2.mono HB.out.size))
          go_wp2
          go_roundg g2
          case measure => omega
          case rel => exact ⟨k + 1, _, _, by rw [HT2.out], by go_num, by omega, by rw [HT2.out]; exact HS2, HB2⟩
        | true =>
          cases p2 with
          | false =>
            go_wp2
            go_region_held3 (fun w' => w'.cell? ⟨w.heap.size, 0, none⟩ = some (.int .i64 L) ∧ w'.cell? ⟨w.heap.size, 1, none⟩ = some (.slice va1 fl va2) ∧ w'.cell? ⟨b, k, none⟩ = some (.string (wordT u)))
              (first | with_reducible exact hS3 | with_reducible exact hS2 | with_reducible exact hSd | with_reducible exact hS0 | go_keep)
              ((first
                | (go_at_call 98; (first
                  | (have HQ := HGT.out _ B1; (with_reducible refine HQ.mono ?_); clear HQ; rintro e u1 ⟨rfl, q1⟩; have B2 := B1.trans (q1.mono B1.size); have hS2 := HSS.out _ B2)
                  | (have HQ := HGF.out _ B2; (with_reducible refine HQ.mono ?_); clear HQ; rintro e u2 ⟨rfl, q2⟩; have B3 := B2.trans (q2.mono B2.size); have hS3 := HSS.out _ B3)))
                | fail))
            have HT2 := Lib.hid (show (O.take (k + 1)).filter (keepB F O) = fl' from by rw [HT.out, HKB.out]; simp)
            have HS2 := Lib.hid (HS.out.below B3 (Nat.le_refl _))
            have HB2 := Lib.hid (HB.out.trans (B3.mono HB.out.size))
            clear HT
            go_wp2
            go_roundg g2
            case measure => omega
            case rel => exact ⟨k + 1, _, _, by rw [HT2.out], by go_num, by omega, by rw [HT2.out]; exact HS2, HB2⟩
          | true =>
            go_wp2
            go_region_held3 (fun w' => w'.cell? ⟨w.heap.size, 0, none⟩ = some (.int .i64 L) ∧ w'.cell? ⟨w.heap.size, 1, none⟩ = some (.slice va1 fl va2) ∧ w'.cell? ⟨b, k, none⟩ = some (.string (wordT u)))
              (first | with_reducible exact hS3 | with_reducible exact hS2 | with_reducible exact hSd | with_reducible exact hS0 | go_keep)
              ((first
                | (go_at_call 98; (first
                  | (have HQ := HGT.out _ B1; (with_reducible refine HQ.mono ?_); clear HQ; rintro e u1 ⟨rfl, q1⟩; have B2 := B1.trans (q1.mono B1.size); have hS2 := HSS.out _ B2)
                  | (have HQ := HGF.out _ B2; (with_reducible refine HQ.mono ?_); clear HQ; rintro e u2 ⟨rfl, q2⟩; have B3 := B2.trans (q2.mono B2.size); have hS3 := HSS.out _ B3)))
                | fail))
            have HT2 := Lib.hid (show (O.take (k + 1)).filter (keepB F O) = fl' ++ [u] from by rw [HT.out, HKB.out]; simp)
            have hs2 := HS.out.below B3 (Nat.le_refl _)
            have hb2 := HB.out.trans (B3.mono HB.out.size)
            have g2' := (B3.cell (p := ⟨b, k, none⟩) hb).trans g0
            have hz2 := hb2.size
            obtain ⟨v', w3, hr, hs3, hb3⟩ := Sep.push (P := Tryd.prog) OStr.kept 48 48 (.string ⟨#[]⟩) 16 Tryd.underlying48 infoStr rfl hs2 hz2 (w1 := u2.alloc (.cells #[.string (wordT u)] 9)) ((Below.refl _ _).alloc (Nat.le_refl _) _) (q := .string (wordT u)) (x := wordT u) ⟨[], ⟨rfl, rfl⟩, by simp [Fresh]⟩ (bb := u2.heap.size) (c := 1) (World.cell?_alloc_at _ _ _ 0 rfl) (by simp; omega) (by simp; omega)
            obtain ⟨a', c', ev, _⟩ := hs3.strsAt
            subst ev
            have e5 : (fl'.map wordT ++ [wordT u]).length = (fl' ++ [u]).length := by simp
            have e6 : fl'.map wordT ++ [wordT u] = (fl' ++ [u]).map wordT := by simp
            rw [e5, e6] at hs3
            rw [e5] at hr
            have e7 : (fl' ++ [u]).length = fl'.length + 1 := by simp
            rw [e7] at hs3 hr
            have HS3 := Lib.hid hs3
            have HB3 := Lib.hid (hb2.trans hb3)
            have Hr := Lib.hid hr
            have E7 := Lib.hid e7
            clear hs3 hr hb3 e5 e6 e7 hs2 hb2 HS HB HGT HGF HT B1 B2 B3 q1 q2
            go_wp2_with (first
              | (at_builtin; refine wpl_append_run rfl (.tmp 31) (.tmp 36) 48 rfl rfl rfl Hr.out ?_)
              | fail)
            go_roundg g2
            case measure => omega
            case rel => exact ⟨k + 1, _, _, by rw [HT2.out, E7.out], by go_num, by omega, by rw [HT2.out, E7.out]; exact HS3, HB3⟩
      · have hki : ¬ ((k : Int) < (O.length : Int)) := by omega
        obtain ⟨l2, hl2⟩ : ∃ x, x = maskF (keepB F (pick W l)) W l := ⟨_, rfl⟩
        have hX : O.filter (keepB F O) = pick W l2 := by rw [HO.out, hl2]; exact pick_filter _ _ _
        have hl2w : l2.length = W.length := by rw [hl2, maskF_len, hlw]
        have hs9 : Sep w0.heap.size wB [Res.strs 9 (.slice na (pick W l2).length nc) ((pick W l2).map wordT), Res.strs 9 (.slice a O.length c) (O.map wordT)] := by
          have h := HS.out
          rw [List.take_of_length_le (by omega), hX] at h
          exact h
        rw [List.take_of_length_le (by omega), hX]
        have hOn : O.length = (pick W l).length := by rw [HO.out]
        have hP2 : (pick W l2).length ≤ 729 := by rw [pick_len _ _ hl2w]; exact Nat.le_trans cntT_le (by omega)
        clear HS
        by_cases he : (pick W l2).length = O.length
        · have hend := keep_end HSup.out (by rw [← hl2, he, hOn])
          have t9 : (((pick W l2).length : Int) == (O.length : Int)) = true := by rw [he]; simp
          have HR := Lib.hid (show New (OStrL 9) w.heap.size wB (.slice a O.length c) (PM.map wordT) from by
            have h := hs9.swap.headNew
            rw [HP.out, ← hend, ← HO.out]
            exact h.mono (Nat.le_of_lt m0))
          have HBf := Lib.hid (HB0.out.trans (HB.out.mono (Nat.le_of_lt m0)))
          generalize (pick W l2).length = q1 at t9 ⊢
          generalize O.length = q2 at t9 HR hki ⊢
          clear hs9 he hend hX hl2 HB
          go_wp2
          go_ret
          exact ⟨_, rfl, HR.out, HBf.out⟩
        · have t9 : (((pick W l2).length : Int) == (O.length : Int)) = false := by simp; omega
          have hless := keep_less hlw (by rw [← hl2, ← hOn]; exact he)
          rw [← hl2] at hless
          have HS9 := Lib.hid (show Sep w0.heap.size wB [Res.strs 9 (.slice na (pick W l2).length nc) ((pick W l2).map wordT)] from hs9.swap.tail)
          have HSu := Lib.hid (show Sup (EG F W) W.length l2 from by rw [hl2]; exact keep_sup HSup.out)
          clear hs9 he hX hl2
          go_wp2
          go_roundg (cntT l2 + 1)
          case measure => omega
          case rel => exact ⟨l2, na, nc, rfl, rfl, HSu, HS9, HB⟩
end Go.Proofs.YtcilgihmaaobeaaDoor
end

section
namespace Go.Proofs.YtcilgihmaaobeaaDoor
open Go.RowKit Go.Deep Go.Sd
theorem stepL_bit {s : Nat} {x : Int} {j : Nat} : ∀ {xs : List Arc3} {out : Nat}, (stepL s x xs out).testBit j = true ↔ out.testBit j = true ∨ ∃ a, a ∈ xs ∧ a.2.2 = x ∧ s.testBit a.1.toNat = true ∧ a.2.1.toNat = j
  | [], out => by simp [stepL]
  | a :: ys, out => by
    unfold stepL
    rw [stepL_bit]
    have key : (if hit s x a = true then out ||| 2 ^ a.2.1.toNat else out).testBit j = true ↔ out.testBit j = true ∨ (a.2.2 = x ∧ s.testBit a.1.toNat = true ∧ a.2.1.toNat = j) := by
      unfold hit
      by_cases h : a.2.2 = x ∧ s.testBit a.1.toNat = true
      · rw [if_pos (by simp [h]), Nat.testBit_or, Bool.or_eq_true, Nat.testBit_two_pow, decide_eq_true_eq]
        simp [h]
      · rw [if_neg (by simpa using h)]
        constructor
        · exact Or.inl
        · rintro (h1 | h1)
          · exact h1
          · exact absurd ⟨h1.1, h1.2.1⟩ h
    rw [key]
    constructor
    · rintro ((h | h) | ⟨b, hb, h⟩)
      · exact Or.inl h
      · exact Or.inr ⟨a, by simp, h⟩
      · exact Or.inr ⟨b, by simp [hb], h⟩
    · rintro (h | ⟨b, hb, h⟩)
      · exact Or.inl (Or.inl h)
      · rcases List.mem_cons.1 hb with e | hb
        · subst e; exact Or.inl (Or.inr h)
        · exact Or.inr ⟨b, hb, h⟩
theorem stepN_bit {xs : List Arc3} {s : Nat} {x : Int} {j : Nat} : (stepN xs s x).testBit j = true ↔ ∃ a, a ∈ xs ∧ a.2.2 = x ∧ s.testBit a.1.toNat = true ∧ a.2.1.toNat = j := by
  unfold stepN
  rw [stepL_bit]
  simp
theorem allN_bit (S : Int) (i : Nat) : (allN S).testBit i = true ↔ i < S.toNat := by
  unfold allN
  rw [Nat.testBit_two_pow_sub_one, decide_eq_true_eq]
theorem nat_zero {s : Nat} : s = 0 ↔ ∀ i, ¬ s.testBit i = true := by
  constructor
  · rintro rfl i
    simp
  · intro h
    refine Nat.eq_of_testBit_eq fun i => ?_
    have := h i
    simp at this ⊢
    exact this
/-- A part of a set. -/
def Sub (s t : Nat) : Prop := ∀ i, s.testBit i = true → t.testBit i = true
theorem Sub.step {s t : Nat} (h : Sub s t) (xs : List Arc3) (x : Int) : Sub (stepN xs s x) (stepN xs t x) := fun i hi => by
  obtain ⟨a, ha, hx, hs, hj⟩ := stepN_bit.1 hi
  exact stepN_bit.2 ⟨a, ha, hx, h _ hs, hj⟩
theorem Sub.read {xs : List Arc3} : ∀ (w : List UInt8) {s t : Nat}, Sub s t → Sub (readB xs w s) (readB xs w t)
  | [], _, _, h => h
  | c :: w, _, _, h => Sub.read w (h.step xs _)
/-- What is reached lies among the states. -/
theorem step_all {S L : Nat} {xs : List Arc3} (ho : ∀ a, a ∈ xs → okArc L S a) (s : Nat) (x : Int) (i : Nat) (h : (stepN xs s x).testBit i = true) : i < S := by
  obtain ⟨a, ha, -, -, hj⟩ := stepN_bit.1 h
  have := ho a ha
  unfold okArc at this
  omega
theorem readB_append (xs : List Arc3) : ∀ (u w : List UInt8) (s : Nat), readB xs (u ++ w) s = readB xs w (readB xs u s)
  | [], _, _ => rfl
  | _ :: u, w, _ => readB_append xs u w _
/-! Graphs made of sorted arcs. -/
end Go.Proofs.YtcilgihmaaobeaaDoor
end

section
namespace Go.Proofs.YtcilgihmaaobeaaDoor
open Go.RowKit Go.Deep Go.Sd
def bl (w : List Nat) : List UInt8 := w.map fun x => UInt8.ofNat (97 + x)
theorem bl_data (w : List Nat) : (wordT w).data.toList = bl w := rfl
theorem bl_append (u v : List Nat) : bl (u ++ v) = bl u ++ bl v := List.map_append
theorem bl_step {A : List Arc3} {s x : Nat} (hx : x < 3) : readB A (bl [x]) s = stepN A s (x : Int) := by
  show stepN _ _ (((UInt8.ofNat (97 + x)).toNat : Int) - 97) = _
  congr 1
  simp
  omega
theorem bl_snoc {A : List Arc3} {s x : Nat} (hx : x < 3) (wd : List Nat) : readB A (bl (wd ++ [x])) s = stepN A (readB A (bl wd) s) (x : Int) := by
  rw [bl_append, readB_append, bl_step hx]
theorem bl_cons {A : List Arc3} {s x : Nat} (hx : x < 3) (wd : List Nat) : readB A (bl (x :: wd)) s = readB A (bl wd) (stepN A s (x : Int)) := by
  rw [show x :: wd = [x] ++ wd from rfl, bl_append, readB_append, bl_step hx]
/-- A word in letters below a number. -/
def Lets (N : Nat) (wd : List Nat) : Prop := ∀ x, x ∈ wd → x < N
theorem Lets.nil (N : Nat) : Lets N [] := fun x h => by cases h
theorem Lets.snoc {N : Nat} {wd : List Nat} {x : Nat} (h : Lets N wd) (hx : x < N) : Lets N (wd ++ [x]) := fun y hy => by
  rcases List.mem_append.1 hy with hy | hy
  · exact h y hy
  · simp at hy; omega
theorem Lets.pre {N : Nat} {u v : List Nat} (h : Lets N (u ++ v)) : Lets N u := fun y hy => h y (by simp [hy])
theorem Lets.last {N : Nat} {u : List Nat} {x : Nat} (h : Lets N (u ++ [x])) : x < N := h x (by simp)
/-- Words from behind. -/
theorem snoc_ind {p : List Nat → Prop} (h0 : p []) (h1 : ∀ u x, p u → p (u ++ [x])) : ∀ (n : Nat) (w : List Nat), w.length = n → p w
  | 0, w, h => by rw [List.length_eq_zero_iff] at h; subst h; exact h0
  | n + 1, w, h => by
    rcases List.eq_nil_or_concat w with e | ⟨u, x, e⟩
    · subst e; cases h
    · rw [List.concat_eq_append] at e
      subst e
      exact h1 u x (snoc_ind h0 h1 n u (by simpa using h))
theorem snoc_rec {p : List Nat → Prop} (w : List Nat) (h0 : p []) (h1 : ∀ u x, p u → p (u ++ [x])) : p w := snoc_ind h0 h1 _ w rfl
end Go.Proofs.YtcilgihmaaobeaaDoor
end

section
namespace Go.Proofs.YtcilgihmaaobeaaDoor
open Go.RowKit Go.Deep Go.Sd
/-! Texts as lists of bytes. -/
theorem occB_infix (w f : ByteArray) : occB w f = true ↔ f.data.toList <:+: w.data.toList := by
  rw [occB_iff]
  constructor
  · rintro ⟨i, h1, h2⟩
    rw [← h2, extract_list]
    exact (List.take_prefix _ _).isInfix.trans (List.drop_suffix _ _).isInfix
  · rintro ⟨s, t, h⟩
    have hl := congrArg List.length h
    rw [List.length_append, List.length_append, size_list, size_list] at hl
    refine ⟨s.length, by omega, ?_⟩
    apply ByteArray.ext
    apply Array.toList_inj.1
    rw [extract_list, ← h, List.append_assoc, List.drop_left, show s.length + f.size - s.length = f.data.toList.length by rw [size_list]; omega, List.take_left]
def avoP (F : List ByteArray) (l : List UInt8) : Prop := ∀ f, f ∈ F → ¬ f.data.toList <:+: l
theorem avoM_iff (F : List ByteArray) (s : ByteArray) : avoM F s = true ↔ avoP F s.data.toList := by
  unfold avoM avoP
  rw [List.all_eq_true]
  refine forall_congr' fun f => forall_congr' fun _ => ?_
  rw [Bool.not_eq_true', ← Bool.not_eq_true, occB_infix]
theorem avoM_word (F : List ByteArray) (u : List Nat) : avoM F (wordT u) = true ↔ avoP F (bl u) := avoM_iff F (wordT u)
/-- The forbidden words are short, and not empty. -/
def ShortF (F : List ByteArray) : Prop := ∀ f, f ∈ F → 1 ≤ f.size ∧ f.size ≤ 3
theorem shiftP.short {s : Sh} (h : shiftP s) : ShortF s.2 := fun f hf => by
  obtain ⟨k, hk⟩ := List.getElem?_of_mem hf
  exact ⟨(h.2.2 k f hk).2.1, (h.2.2 k f hk).2.2.1⟩
section
variable {F : List ByteArray} (hF : ShortF F)
include hF
end
/-! All words. -/
theorem allW_of {L : Nat} : ∀ {n : Nat} {w : List Nat}, w.length = n → (∀ x, x ∈ w → x < L) → w ∈ allW L n
  | 0, w, h, _ => by
    rw [List.length_eq_zero_iff] at h
    subst h
    simp [allW]
  | n + 1, w, h, hx => by
    rcases List.eq_nil_or_concat w with e | ⟨u, x, e⟩
    · subst e; cases h
    · rw [List.concat_eq_append] at e
      subst e
      unfold allW
      rw [List.mem_flatMap]
      refine ⟨u, allW_of (by simpa using h) (fun y hy => hx y (by simp [hy])), ?_⟩
      rw [List.mem_map]
      exact ⟨x, List.mem_range.2 (hx x (by simp)), rfl⟩
theorem bt_inj {a b : Nat} (ha : a < 3) (hb : b < 3) (h : UInt8.ofNat (97 + a) = UInt8.ofNat (97 + b)) : a = b := by
  have := congrArg UInt8.toNat h
  simp at this
  omega
theorem bl_inj : ∀ {u v : List Nat}, (∀ x, x ∈ u → x < 3) → (∀ x, x ∈ v → x < 3) → bl u = bl v → u = v
  | [], [], _, _, _ => rfl
  | [], _ :: _, _, _, h => by cases h
  | _ :: _, [], _, _, h => by cases h
  | a :: u, b :: v, hu, hv, h => by
    have h' := List.cons.inj (show UInt8.ofNat (97 + a) :: bl u = UInt8.ofNat (97 + b) :: bl v from h)
    rw [bt_inj (hu a (by simp)) (hv b (by simp)) h'.1, bl_inj (fun x hx => hu x (by simp [hx])) (fun x hx => hv x (by simp [hx])) h'.2]
theorem wordT_inj {u v : List Nat} (hu : ∀ x, x ∈ u → x < 3) (hv : ∀ x, x ∈ v → x < 3) (h : wordT u = wordT v) : u = v :=
  bl_inj hu hv (congrArg (fun b : ByteArray => b.data.toList) h)
/-! The pairs. -/
theorem goesB_iff {F : List ByteArray} {u v : List Nat} : goesB F u v = true ↔ u.getD 1 0 = v.getD 0 0 ∧ avoP F (bl (u ++ v.drop 1)) := by
  unfold goesB
  rw [Bool.and_eq_true, decide_eq_true_eq, avoM_word]
theorem on_live {E : Nat → Nat → Prop} {n i : Nat} : On (liveL E n) i ↔ Gr E n i := by
  constructor
  · intro h
    have hi : i < n := by have := h.lt; rw [liveL_len] at this; exact this
    unfold On liveL at h
    simp [hi] at h
    exact h
  · intro h
    have hi := h.both.1
    unfold On liveL
    simp [hi, h]
theorem pairs_iff {F : List ByteArray} {L : Nat} {p : List Nat} : p ∈ pairsM F L ↔ ∃ i, Gr (EG F (avoW F L)) (avoW F L).length i ∧ (avoW F L)[i]? = some p := by
  unfold pairsM
  rw [pick_mem]
  exact exists_congr fun i => and_congr_left fun _ => on_live
theorem pairs_sub {F : List ByteArray} {L : Nat} {p : List Nat} (h : p ∈ pairsM F L) : p ∈ avoW F L := by
  obtain ⟨i, _, h⟩ := pairs_iff.1 h
  exact List.mem_of_getElem? h
theorem pairs_succ {F : List ByteArray} {L : Nat} {p : List Nat} (h : p ∈ pairsM F L) : ∃ q, q ∈ pairsM F L ∧ goesB F p q = true := by
  obtain ⟨i, hg, h⟩ := pairs_iff.1 h
  obtain ⟨-, ⟨j, hj, u, v, hu, hv, hgo⟩, -⟩ := hg.both
  rw [h] at hu
  cases hu
  exact ⟨v, pairs_iff.2 ⟨j, hj, hv⟩, hgo⟩
theorem avoW_iff {F : List ByteArray} {L : Nat} (h0 : 0 < L) {p : List Nat} : p ∈ avoW F L ↔ (∃ a b, p = [a, b] ∧ a < L ∧ b < L) ∧ avoP F (bl p) := by
  unfold avoW
  rw [List.mem_filter, avoM_word]
  refine and_congr_left fun _ => ⟨fun h => ?_, ?_⟩
  · obtain ⟨h1, h2⟩ := allW_mem h0 h
    match p, h1 with
    | [a, b], _ => exact ⟨a, b, rfl, h2 a (by simp), h2 b (by simp)⟩
  · rintro ⟨a, b, rfl, ha, hb⟩
    refine allW_of rfl fun x hx => ?_
    simp at hx
    rcases hx with rfl | rfl
    · exact ha
    · exact hb
theorem has_iff {L : Nat} (h3 : L ≤ 3) {P : List (List Nat)} (hP : ∀ p, p ∈ P → ∀ x, x ∈ p → x < L) {u : List Nat} (hu : ∀ x, x ∈ u → x < L) : hasB (P.map wordT) (wordT u) = true ↔ u ∈ P := by
  rw [hasB_iff, List.mem_map]
  constructor
  · rintro ⟨p, hp, e⟩
    rw [← wordT_inj (fun x hx => by have := hP p hp x hx; omega) (fun x hx => by have := hu x hx; omega) e]
    exact hp
  · exact fun h => ⟨u, h, rfl⟩
theorem pairs_let {F : List ByteArray} {L : Nat} (h0 : 0 < L) {p : List Nat} (h : p ∈ pairsM F L) : ∀ x, x ∈ p → x < L := by
  obtain ⟨⟨a, b, rfl, ha, hb⟩, -⟩ := (avoW_iff h0).1 (pairs_sub h)
  intro x hx
  simp at hx
  rcases hx with rfl | rfl
  · exact ha
  · exact hb
theorem states_iff {F : List ByteArray} {L : Nat} (h0 : 0 < L) (h3 : L ≤ 3) {p : List Nat} : p ∈ statesM F L ↔ p ∈ pairsM F L := by
  unfold statesM
  rw [List.mem_filter, Bool.and_eq_true]
  constructor
  · rintro ⟨h1, -, h2⟩
    exact (has_iff h3 (fun p hp => pairs_let h0 hp) (allW_mem h0 h1).2).1 h2
  · intro h
    have h1 := pairs_sub h
    unfold avoW at h1
    rw [List.mem_filter] at h1
    exact ⟨h1.1, h1.2, (has_iff h3 (fun p hp => pairs_let h0 hp) (pairs_let h0 h)).2 h⟩
/-! The graph. -/
/-- The arcs from one state, and all. -/
def garcR (F : List ByteArray) (W : List (List Nat)) (i m : Nat) : List Arc3 := ((List.range m).filter fun j => goesB F (W.getD i []) (W.getD j [])).map fun j : Nat => ((i : Int), (j : Int), (((W.getD j []).getD 1 0 : Nat) : Int))
def garcs (F : List ByteArray) (W : List (List Nat)) (k : Nat) : List Arc3 := (List.range k).flatMap fun i => garcR F W i W.length
theorem garcs_succ (F : List ByteArray) (W : List (List Nat)) (k : Nat) : garcs F W (k + 1) = garcs F W k ++ garcR F W k W.length := by
  unfold garcs
  rw [List.range_succ, List.flatMap_append]
  simp
theorem garcR_succ (F : List ByteArray) (W : List (List Nat)) (i m : Nat) : garcR F W i (m + 1) = garcR F W i m ++ (if goesB F (W.getD i []) (W.getD m []) = true then [((i : Int), (m : Int), (((W.getD m []).getD 1 0 : Nat) : Int))] else []) := by
  unfold garcR
  rw [List.range_succ, List.filter_append, List.map_append]
  congr 1
  rw [List.filter_cons]
  split <;> rfl
theorem garcs_mem {F : List ByteArray} {W : List (List Nat)} {k : Nat} {a : Arc3} : a ∈ garcs F W k ↔ ∃ i j : Nat, i < k ∧ j < W.length ∧ goesB F (W.getD i []) (W.getD j []) = true ∧ a = ((i : Int), (j : Int), (((W.getD j []).getD 1 0 : Nat) : Int)) := by
  unfold garcs garcR
  rw [List.mem_flatMap]
  constructor
  · rintro ⟨i, hi, h⟩
    obtain ⟨j, hj, rfl⟩ := List.mem_map.1 h
    rw [List.mem_filter] at hj
    exact ⟨i, j, List.mem_range.1 hi, List.mem_range.1 hj.1, hj.2, rfl⟩
  · rintro ⟨i, j, hi, hj, hg, rfl⟩
    exact ⟨i, List.mem_range.2 hi, List.mem_map.2 ⟨j, List.mem_filter.2 ⟨List.mem_range.2 hj, hg⟩, rfl⟩⟩
noncomputable def lofOk (s : Sh) : Bool := shiftM s && decide ((statesM s.2 s.1.toNat).length ≠ 0)
noncomputable def lofV (s : Sh) : Lb := if lofOk s = true then (s.1, ((statesM s.2 s.1.toNat).length : Int), garcs s.2 (statesM s.2 s.1.toNat) (statesM s.2 s.1.toNat).length) else (0, 0, [])
/-- Words of two letters in order. -/
def Lex2 (W : List (List Nat)) : Prop := W.Pairwise fun u v => u.getD 0 0 < v.getD 0 0 ∨ (u.getD 0 0 = v.getD 0 0 ∧ u.getD 1 0 < v.getD 1 0)
theorem allW_lex {L : Nat} (h0 : 0 < L) : Lex2 (allW L 2) := by
  unfold Lex2
  rw [allW_eq h0, List.pairwise_map]
  refine List.Pairwise.imp_of_mem (R := fun a b => a < b) (fun {a b} ha hb hab => ?_) List.pairwise_lt_range
  have ha := List.mem_range.1 ha
  have hb := List.mem_range.1 hb
  have ea : (wordD L 2 a).getD 0 0 = a / L % L ∧ (wordD L 2 a).getD 1 0 = a % L := ⟨rfl, rfl⟩
  have eb : (wordD L 2 b).getD 0 0 = b / L % L ∧ (wordD L 2 b).getD 1 0 = b % L := ⟨rfl, rfl⟩
  rw [ea.1, ea.2, eb.1, eb.2]
  rw [Nat.pow_two] at ha hb
  have ha2 : a / L < L := Nat.div_lt_of_lt_mul ha
  have hb2 : b / L < L := Nat.div_lt_of_lt_mul hb
  rw [Nat.mod_eq_of_lt ha2, Nat.mod_eq_of_lt hb2]
  have h1 : a / L ≤ b / L := Nat.div_le_div_right (Nat.le_of_lt hab)
  have e1 := Nat.div_add_mod a L
  have e2 := Nat.div_add_mod b L
  by_cases e : a / L = b / L
  · right
    refine ⟨e, ?_⟩
    rw [e] at e1
    omega
  · left
    omega
theorem states_lex (F : List ByteArray) {L : Nat} (h0 : 0 < L) : Lex2 (statesM F L) := (allW_lex h0).filter _
theorem states_len (F : List ByteArray) {L : Nat} (h0 : 0 < L) (h3 : L ≤ 3) : (statesM F L).length ≤ 9 := by
  have h1 : (statesM F L).length ≤ (allW L 2).length := List.length_filter_le _ _
  rw [allW_len h0] at h1
  exact Nat.le_trans h1 (Nat.pow_le_pow_left h3 2)
theorem getD_of {W : List (List Nat)} {i : Nat} {p : List Nat} (h : W[i]? = some p) : W.getD i [] = p := by simp [List.getD, h]
theorem at_of {W : List (List Nat)} {i : Nat} (h : i < W.length) : W[i]? = some (W.getD i []) := by simp [List.getD, List.getElem?_eq_getElem h]
theorem garcs_sort {F : List ByteArray} {W : List (List Nat)} (hW : Lex2 W) (hx : ∀ p, p ∈ W → p.getD 1 0 < 3) (k : Nat) : SortK (garcs F W k) := by
  have hrow : ∀ i, SortK (garcR F W i W.length) := fun i => by
    unfold SortK garcR
    rw [List.pairwise_map]
    refine List.Pairwise.imp_of_mem (R := fun a b => a < b) (fun {a b} ha hb hab => ?_) (List.pairwise_lt_range.filter _)
    rw [List.mem_filter] at ha hb
    have la := List.mem_range.1 ha.1
    have lb := List.mem_range.1 hb.1
    have ga := (goesB_iff.1 ha.2).1
    have gb := (goesB_iff.1 hb.2).1
    have h := List.pairwise_iff_getElem.1 hW a b la lb hab
    have e1 : W[a] = W.getD a [] := by simp [List.getD, List.getElem?_eq_getElem la]
    have e2 : W[b] = W.getD b [] := by simp [List.getD, List.getElem?_eq_getElem lb]
    rw [e1, e2] at h
    unfold akey
    simp only
    omega
  induction k with
  | zero => exact List.Pairwise.nil
  | succ k ih =>
    rw [garcs_succ]
    unfold SortK
    rw [List.pairwise_append]
    refine ⟨ih, hrow k, fun a ha b hb => ?_⟩
    obtain ⟨i, j, hi, hj, -, rfl⟩ := garcs_mem.1 ha
    unfold garcR at hb
    obtain ⟨m, hm, rfl⟩ := List.mem_map.1 hb
    have h1 := hx (W.getD j []) (List.mem_of_getElem? (at_of hj))
    unfold akey
    simp only
    omega
theorem states_let {F : List ByteArray} {L : Nat} (h0 : 0 < L) {p : List Nat} (h : p ∈ statesM F L) : ∃ a b, p = [a, b] ∧ a < L ∧ b < L := by
  obtain ⟨h1, h2⟩ := allW_mem h0 (List.mem_filter.1 h).1
  match p, h1 with
  | [a, b], _ => exact ⟨a, b, rfl, h2 a (by simp), h2 b (by simp)⟩
theorem garcs_ok {F : List ByteArray} {L : Nat} (h0 : 0 < L) : ∀ a, a ∈ garcs F (statesM F L) (statesM F L).length → okArc L (statesM F L).length a := by
  intro a ha
  obtain ⟨i, j, hi, hj, -, rfl⟩ := garcs_mem.1 ha
  obtain ⟨x, y, e, -, hy⟩ := states_let h0 (List.mem_of_getElem? (at_of hj))
  rw [e]
  unfold okArc
  simp
  omega
/-! Reading. -/
/-- Is a word in the language, for some pairs? -/
def inM (F P : List ByteArray) (s : ByteArray) : Bool :=
  decide (P.length ≠ 0) && (avoM F s && (if 2 ≤ s.size then hasB P (s.extract 0 2) && hasB P (s.extract (s.size - 2) s.size) else P.any fun p => occB p s))
noncomputable def lanM (s : Sh) (n : Int) : List ByteArray := if (shiftM s && decide (0 ≤ n ∧ n ≤ 6)) = true then ((allW s.1.toNat n.toNat).filter fun wd => inM s.2 ((pairsM s.2 s.1.toNat).map wordT) (wordT wd)).map wordT else []
section
variable {F : List ByteArray} {L : Nat} (hF : ShortF F) (h0 : 0 < L) (h3 : L ≤ 3)
include hF h0 h3
theorem idx_of {p : List Nat} (h : p ∈ pairsM F L) : ∃ j, (statesM F L)[j]? = some p ∧ j < (statesM F L).length := by
  have _ := hF
  obtain ⟨j, hj⟩ := List.getElem?_of_mem ((states_iff h0 h3).2 h)
  exact ⟨j, hj, (List.getElem?_eq_some_iff.1 hj).1⟩
end
end Go.Proofs.YtcilgihmaaobeaaDoor
end

section
namespace Go.Proofs.YtcilgihmaaobeaaDoor
open Go.RowKit Go.Deep Go.Sd
set_option linter.unusedSimpArgs false
set_option maxHeartbeats 2000000 in
set_option maxRecDepth 100000 in
theorem l3In_c {w : World} {vs vp : Value} {z : Sh} {P : List ByteArray} {s : ByteArray} (hz : ShR w vs z) (hf : ∀ f, f ∈ z.2 → f.size ≤ 1048576) (hp : TsR w vp P) (hP : ∀ p, p ∈ P → p.size ≤ 1000) (hs : s.size ≤ 1000) :
    Calls Tryd.prog 95 #[vs, vp, .string s] w fun e w' => e = .returned (.bool (inM z.2 P s)) ∧ Below w.heap.size w w' := by
  obtain ⟨L, F⟩ := z
  obtain ⟨va, rfl, ht⟩ := hz
  simp only at ht hf ⊢
  obtain ⟨w0, e0, hb0, c0, c1, m0⟩ := boxA_ex w 92 (.int .i64 L) va
  have hFr := TsR.frame _ _ _ _ ht hb0
  have hpr := TsR.frame _ _ _ _ hp hb0
  have HB := Lib.hid hb0
  have HA := Lib.hid (l3Avoids_c (s := s) hFr hs hf)
  have HH := Lib.hid (fun u => l2HasText_c (s := u) hpr)
  have HO := Lib.hid (fun (p : ByteArray) (h : p ∈ P) => (show Calls Tryd.prog 93 #[.string p, .string s] w0 _ from OccursIn_c p s (hP p h) (by omega)))
  obtain ⟨va1, va2, rfl, -⟩ := hFr.shape
  have hplen := hpr.len
  obtain ⟨pa, pc, rfl, -, -, hcell⟩ := hpr.shape
  have HT := Lib.hid (show inM F P s = (decide (P.length ≠ 0) && (avoM F s && (if 2 ≤ s.size then hasB P (s.extract 0 2) && hasB P (s.extract (s.size - 2) s.size) else P.any fun p => occB p s))) from rfl)
  generalize inM F P s = T at HT ⊢
  generalize F.length = fl at HA c1 e0 ⊢
  generalize avoM F s = av at HA HT
  obtain ⟨n, hn⟩ : ∃ n, n = P.length := ⟨_, rfl⟩
  have Hn := Lib.hid hn
  rw [← hn] at hcell hplen HH HT ⊢
  have Hcell := Lib.hid hcell
  clear hFr hpr ht hp hb0 hf hP hn hcell
  go_enter Tryd.func95, Tryd.ntmps95
  by_cases hn0 : n = 0
  · have HR := Lib.hid (show T = false from by rw [HT.out, hn0]; rfl)
    subst hn0
    clear HT
    go_wp2
    go_ret
    exact ⟨by rw [HR.out]; rfl, HB.out⟩
  · have hni : ¬ (n : Int) = 0 := by omega
    have t0 : ((n : Int) == 0) = false := by simp; omega
    have HT1 := Lib.hid (show T = (av && (if 2 ≤ s.size then hasB P (s.extract 0 2) && hasB P (s.extract (s.size - 2) s.size) else P.any fun p => occB p s)) from by rw [HT.out, decide_eq_true hn0, Bool.true_and])
    clear HT
    cases av with
    | false =>
      have HR := Lib.hid (show T = false from by rw [HT1.out]; rfl)
      clear HT1
      go_wp2_with fail
      (with_reducible refine HA.out.mono ?_)
      rintro e w9 ⟨rfl, hw9⟩
      rw [← hw9]
      clear hw9 w9
      go_wp2
      go_ret
      exact ⟨by rw [HR.out]; rfl, HB.out⟩
    | true =>
      by_cases h2 : 2 ≤ s.size
      · have HT2 := Lib.hid (show T = (hasB P (s.extract 0 2) && hasB P (s.extract (s.size - 2) s.size)) from by rw [HT1.out, if_pos h2, Bool.true_and])
        obtain ⟨d, hd⟩ : ∃ d, d = s.size - 2 := ⟨_, rfl⟩
        have h2i : (2 : Int) ≤ (s.size : Int) := by omega
        have h2a : ((s.size : Int) - 2).toNat = d := by omega
        have h2b : (0 : Int) ≤ (s.size : Int) - 2 := by omega
        have h2c : (s.size : Int) - 2 ≤ (s.size : Int) := by omega
        have hsi : (s.size : Int) ≤ 1000 := by omega
        have h2w : wrap64 ((s.size : Int) - 2) = (s.size : Int) - 2 := IntWalk.wrap64_in _ (by omega)
        rw [← hd] at HT2
        have HH1 := Lib.hid (HH.out (s.extract 0 2))
        have HH2 := Lib.hid (HH.out (s.extract d s.size))
        generalize hasB P (s.extract 0 2) = b1 at HT2 HH1
        generalize hasB P (s.extract d s.size) = b2 at HT2 HH2
        have Hd := Lib.hid hd
        clear HT1 HH hd hs
        cases b1 with
        | false =>
          have HR := Lib.hid (show T = false from by rw [HT2.out]; rfl)
          clear HT2
          go_wp2_with fail
          (with_reducible refine HA.out.mono ?_)
          rintro e w9 ⟨rfl, hw9⟩
          rw [← hw9]
          clear hw9 w9
          go_wp2_with fail
          (with_reducible refine HH1.out.mono ?_)
          rintro e w9 ⟨rfl, hw9⟩
          rw [← hw9]
          clear hw9 w9
          go_wp2
          go_ret
          exact ⟨by rw [HR.out]; rfl, HB.out⟩
        | true =>
          have HR := Lib.hid (show T = b2 from by rw [HT2.out]; rfl)
          clear HT2
          go_wp2_with fail
          (with_reducible refine HA.out.mono ?_)
          rintro e w9 ⟨rfl, hw9⟩
          rw [← hw9]
          clear hw9 w9
          go_wp2_with fail
          (with_reducible refine HH1.out.mono ?_)
          rintro e w9 ⟨rfl, hw9⟩
          rw [← hw9]
          clear hw9 w9
          go_wp2_with fail
          (with_reducible refine HH2.out.mono ?_)
          rintro e w9 ⟨rfl, hw9⟩
          rw [← hw9]
          clear hw9 w9
          go_wp2
          go_ret
          exact ⟨by rw [HR.out]; rfl, HB.out⟩
      · have HT2 := Lib.hid (show T = (P.any fun p => occB p s) from by rw [HT1.out, if_neg h2, Bool.true_and])
        have h2i : ¬ (2 : Int) ≤ (s.size : Int) := by omega
        clear HT1 HH
        go_wp2_with fail
        (with_reducible refine HA.out.mono ?_)
        rintro e w9 ⟨rfl, hw9⟩
        rw [← hw9]
        clear hw9 w9
        go_wp2
        go_loopg [7] n (fun g i wr => ∃ (j : Nat), i = .int .i64 j ∧ j + g = n ∧ Hid (∀ (k : Nat) (p : ByteArray), k < j → P[k]? = some p → occB p s = false) ∧ w0 = wr)
        case atStart => exact ⟨0, rfl, by omega, Lib.hid (fun k f hk => absurd hk (Nat.not_lt_zero _)), rfl⟩
        case round =>
          obtain ⟨j, rfl, hj, HK, rfl⟩ := hrel
          by_cases h1 : j < n
          · have h1i : (j : Int) < (n : Int) := by omega
            obtain ⟨g, rfl⟩ : ∃ x, gk = x + 1 := ⟨gk - 1, by omega⟩
            obtain ⟨b, o, rfl, -, hx⟩ := Hcell.out (by omega)
            obtain ⟨p, hp, -⟩ := at_lt (xs := P) (k := j) (by rw [← Hn.out]; exact h1)
            obtain ⟨u, hu, hu2⟩ := hx j p hp
            have hu2' : u = .string p := hu2
            subst hu2'
            have HC1 := Lib.hid (HO.out p (List.mem_of_getElem? hp))
            cases ho : occB p s with
            | true =>
              have hT := Lib.hid (show T = true from by rw [HT2.out, List.any_eq_true]; exact ⟨p, List.mem_of_getElem? hp, ho⟩)
              rw [ho] at HC1
              clear hx hp hu2 ho HT2
              go_wp2_with fail
              (with_reducible refine HC1.out.mono ?_)
              rintro e w9 ⟨rfl, hw9⟩
              rw [← hw9]
              clear hw9 w9
              go_wp2
              go_ret
              exact ⟨by rw [hT.out]; rfl, HB.out⟩
            | false =>
              have hK2 := Lib.hid (show ∀ (k : Nat) (p : ByteArray), k < j + 1 → P[k]? = some p → occB p s = false from fun k f' hk hf' => by
                by_cases e : k = j
                · rw [e, hp] at hf'
                  cases hf'
                  exact ho
                · exact HK.out k f' (by omega) hf')
              rw [ho] at HC1
              clear hx hp hu2 ho HK
              go_wp2_with fail
              (with_reducible refine HC1.out.mono ?_)
              rintro e w9 ⟨rfl, hw9⟩
              rw [← hw9]
              clear hw9 w9
              go_wp2
              go_roundg g
              case measure => omega
              case rel => exact ⟨j + 1, by go_num, by omega, hK2, rfl⟩
          · have h1i : ¬ (j : Int) < (n : Int) := by omega
            have hT := Lib.hid (show T = false from by
              rw [HT2.out, List.any_eq_false]
              intro p hp
              obtain ⟨k, hk⟩ := List.getElem?_of_mem hp
              rw [HK.out k p (by have := (List.getElem?_eq_some_iff.1 hk).1; rw [← Hn.out] at this; omega) hk]
              decide)
            clear HK HT2
            go_wp2
            go_ret
            exact ⟨by rw [hT.out]; rfl, HB.out⟩
set_option maxHeartbeats 4000000 in
set_option maxRecDepth 100000 in
theorem spec_LanguageOf_c {w : World} {vs : Value} {z : Sh} {n : Int} (hz : ShR w vs z) (hf : ∀ f, f ∈ z.2 → f.size ≤ 1048576) (hI : I64 n) :
    Calls Tryd.prog 89 #[vs, .int .i64 n] w (Makes (OStrL 9) w (lanM z n)) := by
  have HV := Lib.hid (show lanM z n = if (shiftM z && decide (0 ≤ n ∧ n ≤ 6)) = true then ((allW z.1.toNat n.toNat).filter fun wd => inM z.2 ((pairsM z.2 z.1.toNat).map wordT) (wordT wd)).map wordT else [] from rfl)
  have HIs := Lib.hid (fun w1 (hb : Below w.heap.size w w1) => spec_IsShift_c (ShR.frame _ _ _ _ hz hb) hf)
  have HOf := Lib.hid (fun (h : shiftM z = true) => shiftM_of h)
  have HPa := Lib.hid (fun (h : shiftM z = true) w1 (hb : Below w.heap.size w w1) => l3Pairs_c (w := w1) (vs := vs) (L := z.1.toNat) (F := z.2) (by
    have := (shiftM_of h).1
    obtain ⟨L, F⟩ := z
    obtain ⟨va, e, ht⟩ := hz
    refine ⟨va, ?_, TsR.frame _ _ _ _ ht hb⟩
    rw [e]
    simp only at this ⊢
    rw [Int.toNat_of_nonneg (by omega)]) (by have := (shiftM_of h).1; omega) (by have := (shiftM_of h).1; omega) hf)
  generalize lanM z n = V at HV ⊢
  generalize shiftM z = ok at HV HIs HOf HPa
  obtain ⟨L, F⟩ := z
  obtain ⟨va, rfl, ht⟩ := hz
  simp only at ht hf HV HIs HOf HPa
  obtain ⟨w0, e0, hb0, c0, c1, m0⟩ := boxA_ex w 92 (.int .i64 L) va
  have HFr := Lib.hid (TsR.frame _ _ _ _ ht hb0)
  obtain ⟨va1, va2, rfl, -⟩ := HFr.out.shape
  generalize hfl : F.length = fl at c1 e0 HFr HIs HPa ⊢
  have Hf := Lib.hid hf
  have Ht := Lib.hid (show TsR w (.slice va1 fl va2) F from by rw [← hfl]; exact ht)
  have HB0 := Lib.hid hb0
  have H0 := Lib.hid (New.empty (e := 9) (R := OValR Value.string) w0 (Nat.le_refl _))
  obtain ⟨w1, e1⟩ : ∃ x, x = w0.alloc (.cells #[] 9) := ⟨_, rfl⟩
  have B0 := Lib.hid (show Below w0.heap.size w0 w1 from by rw [e1]; exact (Below.refl _ _).alloc (Nat.le_refl _) _)
  rw [← e1] at H0
  have e1s := e1.symm
  have d0 := (B0.out.cell (p := ⟨w.heap.size, 0, none⟩) m0).trans c0
  have d1 := (B0.out.cell (p := ⟨w.heap.size, 1, none⟩) m0).trans c1
  have m1 : w.heap.size < w1.heap.size := Nat.lt_of_lt_of_le m0 B0.out.size
  have HB1 := Lib.hid (HB0.out.trans (B0.out.mono HB0.out.size))
  have HTop := Lib.hid (B0.out.mono (Nat.le_of_lt m0))
  clear e1 hfl hf ht hb0
  go_enter Tryd.func89, Tryd.ntmps89
  go_wp2_with fail
  (with_reducible refine (HIs.out _ HB1.out).mono ?_)
  rintro e w2 ⟨rfl, hb2⟩
  have d0 := (hb2.cell (p := ⟨w.heap.size, 0, none⟩) m1).trans d0
  have d1 := (hb2.cell (p := ⟨w.heap.size, 1, none⟩) m1).trans d1
  have m2 : w.heap.size < w2.heap.size := Nat.lt_of_lt_of_le m1 hb2.size
  have HB2 := Lib.hid (HB1.out.trans (hb2.mono HB1.out.size))
  have HN2 := Lib.hid ((Sep.one (OwnOf.kept OStr.kept).held H0.out).below hb2 (Nat.le_refl _))
  have HBw := Lib.hid (B0.out.trans (hb2.mono B0.out.size))
  clear hb2 H0 HIs e1s
  cases ok with
  | false =>
    have HR := Lib.hid (show V = [] from by rw [HV.out]; rfl)
    have HN := Lib.hid (show New (OStrL 9) w.heap.size w2 _ V from by rw [HR.out]; exact HN2.out.headNew.mono (Nat.le_of_lt m0))
    clear HV HN2 HPa HOf
    go_wp2
    go_ret
    exact ⟨_, rfl, HN.out, HB2.out⟩
  | true =>
    have hs := HOf.out rfl
    obtain ⟨⟨hL1, hL3⟩, -, -⟩ := hs
    replace HPa := Lib.hid (HPa.out rfl)
    by_cases hn : 0 ≤ n ∧ n ≤ 6
    · have HInT := Lib.hid (fun w1 => (show Calls Tryd.prog 41 #[.int .i64 n, .int .i64 0, .int .i64 6] w1 (fun e w' => e = .returned (.bool true) ∧ w1 = w') from l1In_yes w1 hn.1 hn.2))
      have HVT := Lib.hid (show V = ((allW L.toNat n.toNat).filter fun wd => inM F ((pairsM F L.toNat).map wordT) (wordT wd)).map wordT from by rw [HV.out, decide_eq_true hn]; rfl)
      obtain ⟨hn0, hn6⟩ := hn
      obtain ⟨q, rfl⟩ := Int.eq_ofNat_of_zero_le hn0
      obtain ⟨N, rfl⟩ := Int.eq_ofNat_of_zero_le (show 0 ≤ L by omega)
      rw [show ((N : Nat) : Int).toNat = N from rfl, show ((q : Nat) : Int).toNat = q from rfl] at HVT
      rw [show ((N : Nat) : Int).toNat = N from rfl] at HPa
      have HAl := Lib.hid (fun w1 => (show Calls Tryd.prog 42 #[.int .i64 (N : Int), .int .i64 (q : Int)] w1 _ from l2All_c (w := w1) (n := q) (by omega) (by omega) (by omega)))
      have HPs := Lib.hid (show ∀ p, p ∈ (pairsM F N).map wordT → p.size ≤ 1000 from fun p hp => by
        obtain ⟨u, hu, rfl⟩ := List.mem_map.1 hp
        obtain ⟨⟨a, b, rfl, -, -⟩, -⟩ := (avoW_iff (by omega)).1 (pairs_sub hu)
        rw [wordT_size]
        simp)
      have Hm := Lib.hid (fun wd (h : wd ∈ allW N q) => (show (wordT wd).size ≤ 1000 from by rw [wordT_size, (allW_mem (by omega) h).1]; omega))
      have hM : (allW N q).length ≤ 729 := by rw [allW_len (by omega)]; exact pow_le (by omega) (by omega)
      have HZ := Lib.hid (fun (w' : World) (hb : Below w.heap.size w w') => (show ShR w' (.agg #[.int .i64 (N : Int), .slice va1 fl va2]) ((N : Int), F) from ⟨_, rfl, TsR.frame _ _ _ _ Ht.out hb⟩))
      have HX := Lib.hid (fun (w' : World) (hb : Below w.heap.size w w') (vp : Value) (hp : TsR w' vp ((pairsM F N).map wordT)) (wd : List Nat) (h : wd ∈ allW N q) => (show Calls Tryd.prog 95 #[.agg #[.int .i64 (N : Int), .slice va1 fl va2], vp, .string (wordT wd)] w' (fun e w'' => e = .returned (.bool (inM F ((pairsM F N).map wordT) (wordT wd))) ∧ Below w'.heap.size w' w'') from l3In_c (HZ.out w' hb) Hf.out hp HPs.out (Hm.out wd h)))
      generalize hPN : (pairsM F N).map wordT = PN at HPa HPs HVT HX
      generalize allW N q = A at HAl Hm hM HVT HX
      clear HV HOf hPN
      have hN1 : (1 : Int) ≤ (N : Int) := by omega
      go_wp2_with fail
      (with_reducible refine (HInT.out _).mono ?_)
      rintro e w9 ⟨rfl, hw9⟩
      rw [← hw9]
      clear hw9 w9
      go_wp2_with fail
      (with_reducible refine (HPa.out _ HB2.out).mono ?_)
      rintro e w3 ⟨pv, rfl, hn3, hb3⟩
      have d0 := (hb3.cell (p := ⟨w.heap.size, 0, none⟩) m2).trans d0
      have d1 := (hb3.cell (p := ⟨w.heap.size, 1, none⟩) m2).trans d1
      have m3 : w.heap.size < w3.heap.size := Nat.lt_of_lt_of_le m2 hb3.size
      have z2 := HBw.out.size
      have HN3 := Lib.hid (HN2.out.new (OwnOf.kept OStr.kept).held hb3 z2 hn3)
      have HB3 := Lib.hid (HB2.out.trans (hb3.mono HB2.out.size))
      have HBw3 := Lib.hid (HBw.out.trans (hb3.mono z2))
      clear hb3 hn3 HN2 HB2 HBw HPa
      go_wp2_with fail
      (with_reducible refine (HAl.out _).mono ?_)
      rintro e w4 ⟨av, rfl, hn4, hb4⟩
      have d0 := (hb4.cell (p := ⟨w.heap.size, 0, none⟩) m3).trans d0
      have d1 := (hb4.cell (p := ⟨w.heap.size, 1, none⟩) m3).trans d1
      have m4 : w.heap.size < w4.heap.size := Nat.lt_of_lt_of_le m3 hb4.size
      have z3 := HBw3.out.size
      have hs4 := (HN3.out.new (OwnOf.kept OStr.kept).held hb4 z3 hn4)
      obtain ⟨aa, ac, ea, _⟩ := hs4.strsAt
      obtain ⟨pa, pc, ep, _⟩ := hs4.swap.strsAt
      subst ea ep
      rw [List.length_map] at hs4 ⊢
      have HN4 := Lib.hid hs4.third
      have HB4 := Lib.hid (HB3.out.trans (hb4.mono HB3.out.size))
      have HBw4 := Lib.hid (HBw3.out.trans (hb4.mono z3))
      clear hb4 hn4 HN3 HB3 HBw3 HAl hs4
      go_wp2
      go_loopg [5, 8] A.length (fun g vs i wr => ∃ (k : Nat) (a : Option Addr) (c : Nat), vs = .slice a ((A.take k).filter fun wd => inM F PN (wordT wd)).length c ∧ i = .int .i64 k ∧ k + g = A.length ∧ Hid (Sep w0.heap.size wr [Res.strs 9 (.slice a ((A.take k).filter fun wd => inM F PN (wordT wd)).length c) (((A.take k).filter fun wd => inM F PN (wordT wd)).map wordT), Res.strs 9 (.slice aa A.length ac) (A.map wordT), Res.strs 9 (.slice pa PN.length pc) PN]) ∧ Hid (Below w0.heap.size w4 wr))
      case atStart => exact ⟨0, _, _, rfl, rfl, by omega, HN4, Lib.hid (Below.refl _ _)⟩
      case round =>
        clear HN4
        obtain ⟨k, a, c, rfl, rfl, hk, HS, HB⟩ := hrel
        obtain ⟨wB, rfl⟩ : ∃ x, x = wr := ⟨_, rfl⟩
        by_cases hlt : k < A.length
        · obtain ⟨g, rfl⟩ : ∃ x, gk = x + 1 := ⟨gk - 1, by omega⟩
          obtain ⟨wd, hwd, _⟩ := at_lt hlt
          have hsw := HS.out.swap
          obtain ⟨_, _, hv, hq⟩ := hsw.strsAt
          obtain ⟨b, e1, hb, hc⟩ := hq (by simp; omega)
          simp at hv
          obtain ⟨rfl, rfl⟩ := hv
          subst e1
          have g0 := hc k (wordT wd) (by simp [hwd])
          have k0 := (HB.out.cell (p := ⟨w.heap.size, 0, none⟩) m0).trans d0
          have k1 := (HB.out.cell (p := ⟨w.heap.size, 1, none⟩) m0).trans d1
          have hTP : TsR wB (.slice pa PN.length pc) PN := by
            obtain ⟨G, hG, -⟩ := HS.out.third.headNew
            exact OwnOf.reads (fun _ _ _ _ h => h.1) hG
          have hBw : Below w.heap.size w wB := HB4.out.trans (HB.out.mono (Nat.le_of_lt m0))
          have C1 := Lib.hid (fun (w' : World) (hb' : Below wB.heap.size wB w') => HX.out w' (hBw.trans (hb'.mono hBw.size)) _ (TsR.frame _ _ _ _ hTP hb') wd (List.mem_of_getElem? hwd))
          have zB := HB.out.size
          have mB : w.heap.size < wB.heap.size := Nat.lt_of_lt_of_le m4 zB
          have z4 : w0.heap.size ≤ wB.heap.size := Nat.le_trans HBw4.out.size zB
          have hki : (k : Int) < (A.length : Int) := by omega
          have HT := Lib.hid (show (A.take (k + 1)).filter (fun wd => inM F PN (wordT wd)) = (A.take k).filter (fun wd => inM F PN (wordT wd)) ++ (if inM F PN (wordT wd) = true then [wd] else []) from by rw [← take_snoc' hwd, List.filter_append]; congr 1; simp [List.filter_cons])
          have hfl : ((A.take k).filter fun wd => inM F PN (wordT wd)).length ≤ 729 := Nat.le_trans (List.length_filter_le _ _) (by simp; omega)
          generalize hfn : ((A.take k).filter fun wd => inM F PN (wordT wd)) = fl' at HS HT hfl
          generalize inM F PN (wordT wd) = inn at C1 HT
          have HSS := Lib.hid (fun (w' : World) (hb' : Below wB.heap.size wB w') => (show w'.cell? ⟨w.heap.size, 0, none⟩ = some (.int .i64 N) ∧ w'.cell? ⟨w.heap.size, 1, none⟩ = some (.slice va1 fl va2) ∧ w'.cell? ⟨b, k, none⟩ = some (.string (wordT wd)) from ⟨(hb'.cell (p := ⟨w.heap.size, 0, none⟩) mB).trans k0, (hb'.cell (p := ⟨w.heap.size, 1, none⟩) mB).trans k1, (hb'.cell (p := ⟨b, k, none⟩) hb).trans g0⟩))
          have hS0 := HSS.out _ (Below.refl _ _)
          have B1 := (Below.refl wB.heap.size wB).drew
          have hSd := HSS.out _ B1
          clear hfn hwd hq hc hTP hBw hsw d0 d1
          go_wp2
          go_region_held3 (fun w' => w'.cell? ⟨w.heap.size, 0, none⟩ = some (.int .i64 N) ∧ w'.cell? ⟨w.heap.size, 1, none⟩ = some (.slice va1 fl va2) ∧ w'.cell? ⟨b, k, none⟩ = some (.string (wordT wd)))
            (first | with_reducible exact hS2 | with_reducible exact hSd | with_reducible exact hS0 | go_keep)
            ((first
              | (go_at_call 95; (with_reducible refine (C1.out _ B1).mono ?_); rintro e u1 ⟨rfl, q1⟩; have B2 := B1.trans (q1.mono B1.size); have hS2 := HSS.out _ B2)
              | fail))
          have hs2 := HS.out.below B2 (Nat.le_refl _)
          have hb2 := HB.out.trans (B2.mono z4)
          have g2' := (B2.cell (p := ⟨b, k, none⟩) hb).trans g0
          have hz2 := Nat.le_trans z4 B2.size
          cases inn with
          | false =>
            have HT2 := Lib.hid (show (A.take (k + 1)).filter (fun wd => inM F PN (wordT wd)) = fl' from by rw [HT.out]; simp)
            have HS2 := Lib.hid hs2
            have HB2 := Lib.hid hb2
            clear HT hs2 hb2 HS HB C1 HSS q1
            go_wp2
            go_roundg g
            case measure => omega
            case rel => exact ⟨k + 1, _, _, by rw [HT2.out], by go_num, by omega, by rw [HT2.out]; exact HS2, HB2⟩
          | true =>
            have HT2 := Lib.hid (show (A.take (k + 1)).filter (fun wd => inM F PN (wordT wd)) = fl' ++ [wd] from by rw [HT.out]; simp)
            obtain ⟨v', w5, hr, hs3, hb3⟩ := Sep.push (P := Tryd.prog) OStr.kept 48 48 (.string ⟨#[]⟩) 16 Tryd.underlying48 infoStr rfl hs2 hz2 (w1 := u1.alloc (.cells #[.string (wordT wd)] 9)) ((Below.refl _ _).alloc (Nat.le_refl _) _) (q := .string (wordT wd)) (x := wordT wd) ⟨[], ⟨rfl, rfl⟩, by simp [Fresh]⟩ (bb := u1.heap.size) (c := 1) (World.cell?_alloc_at _ _ _ 0 rfl) (by simp; omega) (by simp; omega)
            obtain ⟨a', c', ev, _⟩ := hs3.strsAt
            subst ev
            have e5 : (fl'.map wordT ++ [wordT wd]).length = (fl' ++ [wd]).length := by simp
            have e6 : fl'.map wordT ++ [wordT wd] = (fl' ++ [wd]).map wordT := by simp
            rw [e5, e6] at hs3
            rw [e5] at hr
            have e7 : (fl' ++ [wd]).length = fl'.length + 1 := by simp
            rw [e7] at hs3 hr
            have HS3 := Lib.hid hs3
            have HB3 := Lib.hid (hb2.trans hb3)
            have Hr := Lib.hid hr
            have E7 := Lib.hid e7
            clear HT hs3 hr hb3 e5 e6 e7 hs2 hb2 HS HB C1 HSS q1 B1 B2
            go_wp2_with (first
              | (at_builtin; refine wpl_append_run rfl (.tmp 38) (.tmp 43) 48 rfl rfl rfl Hr.out ?_)
              | fail)
            go_roundg g
            case measure => omega
            case rel => exact ⟨k + 1, _, _, by rw [HT2.out, E7.out], by go_num, by omega, by rw [HT2.out, E7.out]; exact HS3, HB3⟩
        · have HR := Lib.hid (show New (OStrL 9) w0.heap.size wB (.slice a ((A.take k).filter fun wd => inM F PN (wordT wd)).length c) V from by have h := HS.out.headNew; rw [HVT.out]; rw [List.take_of_length_le (by omega)] at h ⊢; exact h)
          have hki : ¬ ((k : Int) < (A.length : Int)) := by omega
          have HBf := Lib.hid (HB4.out.trans (HB.out.mono (Nat.le_of_lt m0)))
          have HR2 := Lib.hid (HR.out.mono (Nat.le_of_lt m0))
          generalize ((A.take k).filter fun wd => inM F PN (wordT wd)).length = fl' at HR2
          clear HS HR HB
          go_wp2
          go_ret
          exact ⟨_, rfl, HR2.out, HBf.out⟩
    · have HInF := Lib.hid (fun w1 => (show Calls Tryd.prog 41 #[.int .i64 n, .int .i64 0, .int .i64 6] w1 (fun e w' => e = .returned (.bool false) ∧ w1 = w') from l1In_no w1 (by omega)))
      have HR := Lib.hid (show V = [] from by rw [HV.out, decide_eq_false hn]; rfl)
      have HN := Lib.hid (show New (OStrL 9) w.heap.size w2 _ V from by rw [HR.out]; exact HN2.out.headNew.mono (Nat.le_of_lt m0))
      clear HV HN2 HPa HOf hn
      go_wp2_with fail
      (with_reducible refine (HInF.out _).mono ?_)
      rintro e w9 ⟨rfl, hw9⟩
      rw [← hw9]
      clear hw9 w9
      go_wp2
      go_ret
      exact ⟨_, rfl, HN.out, HB2.out⟩
theorem spec_StatesOf_c {w : World} {vs : Value} {z : Sh} (hz : ShR w vs z) (hf : ∀ f, f ∈ z.2 → f.size ≤ 1048576) :
    Calls Tryd.prog 82 #[vs] w (Makes (OStrL 9) w (lanM z 2)) := by
  have HL := Lib.hid (fun w1 (hb : Below w.heap.size w w1) => spec_LanguageOf_c (ShR.frame _ _ _ _ hz hb) hf (n := 2) (by unfold I64; omega))
  obtain ⟨L, F⟩ := z
  obtain ⟨va, rfl, ht⟩ := hz
  simp only at ht hf HL
  obtain ⟨w0, e0, hb0, c0, c1, m0⟩ := boxA_ex w 92 (.int .i64 L) va
  obtain ⟨va1, va2, rfl, -⟩ := ht.shape
  generalize F.length = fl at c1 e0 HL ⊢
  generalize lanM (L, F) 2 = V at HL ⊢
  have HB0 := Lib.hid hb0
  clear hf ht
  go_enter Tryd.func82, Tryd.ntmps82
  go_wp2_with fail
  (with_reducible refine (HL.out _ HB0.out).mono ?_)
  rintro e w2 ⟨r, rfl, hn, hb⟩
  have HN := Lib.hid (hn.mono (Nat.le_of_lt m0))
  have HB := Lib.hid (HB0.out.trans (hb.mono HB0.out.size))
  clear hn hb
  go_wp2
  go_ret
  exact ⟨_, rfl, HN.out, HB.out⟩
end Go.Proofs.YtcilgihmaaobeaaDoor
end
