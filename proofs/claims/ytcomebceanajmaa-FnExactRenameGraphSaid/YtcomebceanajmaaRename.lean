/-
  RenameGraph, the program's and the reference's.
-/
import Derived.Test.YtcomebceanajmaaRows
import Derived.Test.YtcomebceanajmaaBase
import Derived.Test.YtcomebceanajmaaTabs
import Derived.Test.YtcomebceanajmaaMat
import Derived.Test.YtcomebceanajmaaZero
import Derived.Test.YtcomebceanajmaaAlike
import Derived.StillTailTactics
namespace Go.Proofs.Ytcomebceanajmaa
open Go.RowKit Go.Deep Go.Sd

theorem infoB : (Try.prog.info? 4).map (fun i => (i.zero, i.size, i.bytes)) = some (some (.bool false), 1, 1) := by kernel_rfl

set_option maxHeartbeats 1000000 in
theorem l18Names_c {w : World} {v : Value} {xs : List Int} {n : Nat} (h : Ints w v xs) (hn : n ≤ 9) :
    Calls Try.prog 81 #[v, .int .i64 n] w fun e w' => e = .returned (.bool (namesL n xs [] && decide (xs.length = n))) ∧ Below w.heap.size w w' := by
  have hlen := h.len
  obtain ⟨a, c, rfl, _, _, hcell⟩ := h.shape
  clear h
  have hmk := run_make_row' (P := Try.prog) 79 4 (.bool false) 1 Try.underlying79 infoB rfl .i64 .i64 n (by omega) (by omega)
  go_enter Try.func81, Try.ntmps81
  go_wp2
  go_loopg [6] (xs.length) (fun g i wr => ∃ (k : Nat) (seen : List Int), i = .int .i64 k ∧ k + g = xs.length ∧ Hid (namesL n xs [] = namesL n (xs.drop k) seen) ∧ New (OwnOf 4 (OValR Value.bool)) w.heap.size wr (.slice (some ⟨w.heap.size, 0, none⟩) n n) (seenL n seen) ∧ Below w.heap.size w wr)
  case atStart => exact ⟨0, [], rfl, by omega, Lib.hid rfl, by rw [seenL_nil]; exact New.made 4 w (.bool false) false n (Nat.le_refl _) (by omega) (fun _ => ⟨rfl, rfl⟩), (Below.refl _ _).alloc (Nat.le_refl _) _⟩
  case round =>
    obtain ⟨k, seen, rfl, hk, H, hnew, hbel⟩ := hrel
    clear hmk
    by_cases hlt : k < xs.length
    · obtain ⟨b, o, rfl, hb, hx0⟩ := hcell (by omega)
      obtain ⟨x, hx, hd⟩ := at_lt hlt
      obtain ⟨u, hu, rfl⟩ := hx0 k x hx
      have hrule := hbel.rule
      have H1 := Lib.hid (show namesL n xs [] = if 0 ≤ x ∧ x < n ∧ seen.contains x = false then namesL n (xs.drop (k + 1)) (x :: seen) else false from by rw [H.out, hd]; rfl)
      clear H hx hd hx0 hcell
      by_cases hr : 0 ≤ x ∧ x < n
      · obtain ⟨p, rfl⟩ : ∃ p : Nat, x = (p : Int) := ⟨x.toNat, by omega⟩
        have hp : p < n := by omega
        have Hc := Lib.hid (l1In_yes (a := (p : Int)) (b := 0) (c := (n : Int) - 1) wr (by omega) (by omega))
        obtain ⟨b', c', hv, _, _, hblt, hcl, hfr, hst⟩ := hnew.val_at (fun _ => rfl) (seenL_at hp)
        obtain rfl : b' = w.heap.size := by simp at hv; exact hv.1.symm
        have hpi : (p : Int) < (n : Int) := by omega
        cases hs : seen.contains (p : Int) with
        | true =>
          have H2 := Lib.hid (show (namesL n xs [] && decide (xs.length = n)) = false from by rw [H1.out, hs]; simp)
          rw [hs] at hcl
          clear hv hst hnew hs H1 hr
          go_wp2_with fail
          refine Hc.out.mono ?_
          rintro e w' ⟨rfl, rfl⟩
          go_wp2
          go_ret
          exact ⟨by rw [H2.out]; rfl, hbel⟩
        | false =>
          have H2 := Lib.hid (show namesL n xs [] = namesL n (xs.drop (k + 1)) ((p : Int) :: seen) from by rw [H1.out, hs, if_pos ⟨hr.1, hr.2, rfl⟩])
          rw [hs] at hcl
          have Hst := Lib.hid (by have := hst true; rw [seenL_set] at this; exact this)
          have Hb := Lib.hid (hbel.setCell (p := ⟨w.heap.size, p, none⟩) (Nat.le_refl _) (.bool true))
          clear hv hst hnew hs H1 hr hbel
          go_wp2_with fail
          refine Hc.out.mono ?_
          rintro e w' ⟨rfl, rfl⟩
          go_wp2
          go_roundg (xs.length - (k + 1))
          case measure => omega
          case rel => exact ⟨k + 1, _, by go_num, by omega, H2, Hst.out, Hb.out⟩
      · have H2 := Lib.hid (show (namesL n xs [] && decide (xs.length = n)) = false from by rw [H1.out, if_neg (fun h => hr ⟨h.1, h.2.1⟩)]; rfl)
        have Hc := Lib.hid (l1In_no (a := x) (b := 0) (c := (n : Int) - 1) wr (by omega))
        clear H1 hnew hr
        go_wp2_with fail
        refine Hc.out.mono ?_
        rintro e w' ⟨rfl, rfl⟩
        go_wp2
        go_ret
        exact ⟨by rw [H2.out]; rfl, hbel⟩
    · have H1 := Lib.hid (show namesL n xs [] = true from by rw [H.out, drop_len hlt]; rfl)
      clear H hnew hcell
      by_cases hl : xs.length = n
      · have H2 := Lib.hid (show (namesL n xs [] && decide (xs.length = n)) = true from by rw [H1.out]; simp [hl])
        have t1 : ((xs.length : Int) == (n : Int)) = true := by simp [hl]
        clear hl H1
        go_wp2
        go_ret
        exact ⟨by rw [H2.out]; rfl, hbel⟩
      · have H2 := Lib.hid (show (namesL n xs [] && decide (xs.length = n)) = false from by rw [H1.out]; simp [hl])
        have t1 : ((xs.length : Int) == (n : Int)) = false := by simp; omega
        clear hl H1
        go_wp2
        go_ret
        exact ⟨by rw [H2.out]; rfl, hbel⟩

set_option maxHeartbeats 2000000 in
set_option maxRecDepth 100000 in
theorem l18Rename_c {w : World} {va vp : Value} {m : List (List Int)} {ps : List Nat} {n : Nat} (h1 : Tab w va m) (hm : Sq n m) (h2 : Ints w vp (nats ps)) (hpl : ps.length = n) (hp : ∀ i, i < n → ps.getD i 0 < n) (hn0 : 0 < n) (hn : n ≤ 9) :
    Calls Try.prog 82 #[va, vp] w (Makes (OTab 3 37) w (renI m ps n n)) := by
  obtain ⟨ab, ao, ac, rfl, hab, hae⟩ := h1.entAt hm.1 hm.2 hn0
  obtain ⟨pa, pc, rfl, _, _, hpx⟩ := h2.shape
  have hpl2 : (nats ps).length = n := by simp [nats, hpl]
  rw [hpl2] at hpx ⊢
  obtain ⟨pb, po, rfl, hpb, hpy⟩ := hpx hn0
  have hpc : ∀ i, i < n → w.cell? ⟨pb, po + i, none⟩ = some (.int .i64 (ps.getD i 0 : Nat)) := fun i hi => by
    obtain ⟨u, hu, hr⟩ := hpy i ((ps.getD i 0 : Nat) : Int) (nats_at (by simp [List.getD, show i < ps.length by omega]))
    rw [hu, hr]
  have Hz := Lib.hid (l4Zero_c (w := w) (p := n) (r := n) (by omega) (by omega))
  clear h1 h2 hpx hpy hpl hpl2
  go_enter Try.func82, Try.ntmps82
  go_wp2_with fail
  refine Hz.out.mono ?_
  rintro e w1 ⟨v1, rfl, hn1, hb1⟩
  obtain ⟨gb, gc, _, _, rfl, _, hgb, hgb2, _⟩ := hn1.tab_at (i := 0) (j := 0) ((Sq.zeros n).row hn0).1 ((Sq.zeros n).entry hn0 hn0)
  rw [(Sq.zeros n).1] at hn1 ⊢
  have Hn1 := Lib.hid hn1
  have Hb1 := Lib.hid hb1
  have Hp := Lib.hid hp
  clear hn1 hb1 Hz hp
  go_wp2
  go_loopg [6] n (fun g ii wr => ∃ (i : Nat), ii = .int .i64 i ∧ i + g = n ∧ New (OTab 3 37) w.heap.size wr (.slice (some ⟨gb, 0, none⟩) n gc) (renI m ps n i) ∧ Below w.heap.size w wr)
  case atStart => exact ⟨0, rfl, by omega, Hn1.out, Hb1.out⟩
  case round =>
    obtain ⟨i, rfl, hi, hnew, hbel⟩ := hrel
    have Hn := Lib.hid hnew
    have Hb := Lib.hid hbel
    clear hnew hbel
    by_cases hlt : i < n
    · go_wp2
      go_loopg [7] n (fun g jj wr => ∃ (j : Nat), jj = .int .i64 j ∧ j + g = n ∧ New (OTab 3 37) w.heap.size wr (.slice (some ⟨gb, 0, none⟩) n gc) (renJ m ps (renI m ps n i) i j) ∧ Below w.heap.size w wr)
      case atStart => exact ⟨0, rfl, by omega, Hn.out, Hb.out⟩
      case round =>
        clear Hn Hb
        obtain ⟨j, rfl, hj, hnew, hbel⟩ := hrel
        by_cases hlt2 : j < n
        · obtain ⟨rb, ro, rc, hA1, hrb, _, hA2⟩ := hae.at hlt hn0
          have hA3 := hA2 j hlt2
          have hP1 := hpc i hlt
          have hP2 := hpc j hlt2
          have hp1 := Hp.out i hlt
          have hp2 := Hp.out j hlt2
          have hsq : Sq n (renJ m ps (renI m ps n i) i j) := renJ_sq (renI_sq Hp.out i (by omega)) hp1 j
          obtain ⟨b', c', sb, sc, hv, _, _, _, hcl1, _, hsb, _, hcl2, hfr, hst⟩ := hnew.tab_at (hsq.row hp1).1 (hsq.entry hp1 hp2)
          obtain rfl : b' = gb := by simp at hv; exact hv.1.symm
          rw [(hsq.row hp1).2] at hcl1
          have Hst := Lib.hid (show New (OTab 3 37) w.heap.size (wr.setCell ⟨sb, ps.getD j 0, none⟩ (.int .i64 (ent m i j))) _ (renJ m ps (renI m ps n i) i (j + 1)) from hst (ent m i j))
          have Hb3 := Lib.hid (hbel.setCell (p := ⟨sb, ps.getD j 0, none⟩) hsb (.int .i64 (ent m i j)))
          have hrule := hbel.rule
          have hi1 : (i : Int) < (n : Int) := by omega
          have hi2 : (j : Int) < (n : Int) := by omega
          generalize ent m i j = X at *
          generalize ps.getD i 0 = p1 at *
          generalize ps.getD j 0 = p2 at *
          have hi3 : (p1 : Int) < (n : Int) := by omega
          have hi4 : (p2 : Int) < (n : Int) := by omega
          clear hv hst hnew hA2 hbel hpc hsq
          go_wp2
          go_still_tail 19, (by kernel_rfl)
          go_wp2
          go_roundg (n - (j + 1))
          case measure => omega
          case rel => exact ⟨j + 1, by go_num, by omega, New.heap (OTab.kept _ _) Hst.out rfl, Hb3.out.drew⟩
        · have e : j = n := by omega
          subst e
          go_wp2
          go_roundg (j - (i + 1))
          case measure => omega
          case rel => exact ⟨i + 1, by go_num, by omega, hnew, hbel⟩
    · have e : i = n := by omega
      subst e
      go_wp2
      go_ret
      exact ⟨_, rfl, Hn.out, Hb.out⟩

def renOk (m : List (List Int)) (xs : List Int) : Bool := isMat m && (namesL m.length xs [] && decide (xs.length = m.length))
def renV (m : List (List Int)) (xs : List Int) : List (List Int) := if renOk m xs = true then renI m (xs.map Int.toNat) m.length m.length else []

theorem nats_toNat {xs : List Int} {n : Nat} (h : ∀ x, x ∈ xs → 0 ≤ x ∧ x < n) : xs = nats (xs.map Int.toNat) ∧ ∀ i, i < xs.length → (xs.map Int.toNat).getD i 0 < n := by
  constructor
  · unfold nats
    rw [List.map_map]
    refine (List.map_id xs).symm.trans (List.map_congr_left fun x hx => ?_)
    have := h x hx
    simp; omega
  · intro i hi
    have := h xs[i] (List.getElem_mem hi)
    simp [List.getD, hi]; omega

set_option maxHeartbeats 400000 in
theorem spec_RenameGraph_c {w : World} {va vp : Value} {m : List (List Int)} {xs : List Int} (h1 : Tab w va m) (h2 : Ints w vp xs) :
    Calls Try.prog 43 #[va, vp] w (Makes2 (OTab 3 37) w (renV m xs) (renOk m xs)) := by
  have hsh := h1.shape
  obtain ⟨aa, ac, rfl, _, _, _⟩ := hsh
  have Hc := Lib.hid (spec_IsMatrix_c h1)
  cases hm : isMat m with
  | false =>
    have HK := Lib.hid (show renOk m xs = false from by unfold renOk; rw [hm]; rfl)
    have HV := Lib.hid (show renV m xs = [] from by unfold renV; rw [HK.out]; rfl)
    rw [hm] at Hc
    rw [HK.out]
    clear h1 h2 hm
    go_enter Try.func43, Try.ntmps43
    go_wp2_with fail
    refine Hc.out.mono ?_
    rintro e w' ⟨rfl, rfl⟩
    go_wp2
    go_ret2
    exact ⟨_, rfl, by rw [HV.out]; exact New.empty w (Nat.le_refl _), (Below.refl _ _).alloc (Nat.le_refl _) _⟩
  | true =>
    have sm := isMat_sq hm
    rw [hm] at Hc
    have Hd := Lib.hid (l18Names_c (n := m.length) h2 sm.2.2)
    cases hk : (namesL m.length xs [] && decide (xs.length = m.length)) with
    | false =>
      have HK := Lib.hid (show renOk m xs = false from by unfold renOk; rw [hk]; simp)
      have HV := Lib.hid (show renV m xs = [] from by unfold renV; rw [HK.out]; rfl)
      rw [hk] at Hd
      rw [HK.out]
      clear h1 h2 hm hk sm
      go_enter Try.func43, Try.ntmps43
      go_wp2_with fail
      refine Hc.out.mono ?_
      rintro e w' ⟨rfl, rfl⟩
      go_wp2_with fail
      refine Hd.out.mono ?_
      rintro e w1 ⟨rfl, hb1⟩
      have Hb1 := Lib.hid hb1
      have hz1 := hb1.size
      clear hb1
      go_wp2
      go_ret2
      exact ⟨_, rfl, by rw [HV.out]; exact New.empty w1 hz1, Hb1.out.alloc hz1 _⟩
    | true =>
      have HK := Lib.hid (show renOk m xs = true from by unfold renOk; rw [hm, hk]; rfl)
      have HV := Lib.hid (show renV m xs = renI m (xs.map Int.toNat) m.length m.length from by unfold renV; rw [HK.out]; rfl)
      rw [hk] at Hd
      rw [HK.out]
      simp only [Bool.and_eq_true, decide_eq_true_eq] at hk
      have hr := nats_toNat (namesL_range hk.1)
      have Hm := Lib.hid (fun w1 (hb : Below w.heap.size w w1) => l18Rename_c (w := w1) (ps := xs.map Int.toNat) (Tab.frame _ _ _ _ h1 hb) sm.1 (by rw [← hr.1]; exact Ints.frame _ _ _ _ h2 hb) (by simp [hk.2]) (fun i hi => hr.2 i (by omega)) (by omega) sm.2.2)
      clear h1 h2 hm hk sm hr
      go_enter Try.func43, Try.ntmps43
      go_wp2_with fail
      refine Hc.out.mono ?_
      rintro e w' ⟨rfl, rfl⟩
      go_wp2_with fail
      refine Hd.out.mono ?_
      rintro e w1 ⟨rfl, hb1⟩
      go_wp2_with fail
      refine (Hm.out w1 hb1).mono ?_
      rintro e w2 ⟨v2, rfl, hn2, hb2⟩
      have hz1 := hb1.size
      go_wp2
      go_ret2
      exact ⟨_, rfl, by rw [HV.out]; exact hn2.mono hz1, hb1.trans (hb2.mono hz1)⟩

set_option maxHeartbeats 2000000 in
set_option maxRecDepth 100000 in
theorem impl_RenameGraph_c {w : World} {va vp : Value} {m : List (List Int)} {xs : List Int} (h1 : Tab w va m) (h2 : Ints w vp xs) :
    Calls Try.prog 44 #[va, vp] w (Makes2 (OTab 3 37) w (renV m xs) (renOk m xs)) := by
  have hsh := h1.shape
  obtain ⟨aa, ac, rfl, _, _, _⟩ := hsh
  have hlx := h2.len
  obtain ⟨pa, pc, rfl, _, _, hpx⟩ := h2.shape
  have Hc := Lib.hid (impl_IsMatrix_c h1)
  cases hm : isMat m with
  | false =>
    have HK := Lib.hid (show renOk m xs = false from by unfold renOk; rw [hm]; rfl)
    have HV := Lib.hid (show renV m xs = [] from by unfold renV; rw [HK.out]; rfl)
    rw [hm] at Hc
    rw [HK.out]
    clear h1 h2 hm hpx
    go_enter Try.func44, Try.ntmps44
    go_wp2_with fail
    refine Hc.out.mono ?_
    rintro e w' ⟨rfl, rfl⟩
    go_wp2
    go_ret2
    exact ⟨_, rfl, by rw [HV.out]; exact New.nil _ _, Below.refl _ _⟩
  | true =>
    have sm := isMat_sq hm
    rw [hm] at Hc
    by_cases hl : xs.length = m.length
    · have HO0 := Lib.hid (show renOk m xs = namesL m.length xs [] from by unfold renOk; rw [hm]; simp [hl])
      have HV0 := Lib.hid (show renV m xs = if renOk m xs = true then renI m (xs.map Int.toNat) m.length m.length else [] from rfl)
      clear hm hlx
      generalize hn : m.length = n at *
      have hl2 := hl
      rw [hl] at h2 hpx ⊢
      have hm' := sm.1
      have hn0 : 0 < n := by omega
      have hn9 : n ≤ 9 := sm.2.2
      have hmk := run_make_row' (P := Try.prog) 79 4 (.bool false) 1 Try.underlying79 infoB rfl .i64 .i64 n (by omega) (by omega)
      have HO := HO0
      have HV := HV0
      clear HO0 HV0
      generalize renOk m xs = ok at HO HV ⊢
      generalize renV m xs = rv at HV ⊢
      have H1 := Lib.hid h1
      have H2 := Lib.hid h2
      have Hlx := Lib.hid hl2
      have Hm' := Lib.hid hm'
      have t0 : ((n : Int) != (n : Int)) = false := by simp
      clear h1 h2 sm hl hn hl2 hm'
      go_enter Try.func44, Try.ntmps44
      go_wp2_with fail
      refine Hc.out.mono ?_
      rintro e w' ⟨rfl, rfl⟩
      go_wp2
      go_loopg [29] n (fun g i wr => ∃ (k : Nat) (seen : List Int), i = .int .i64 k ∧ k + g = n ∧ Hid (namesL n xs [] = namesL n (xs.drop k) seen) ∧ New (OwnOf 4 (OValR Value.bool)) w.heap.size wr (.slice (some ⟨w.heap.size, 0, none⟩) n n) (seenL n seen) ∧ Below w.heap.size w wr)
      case atStart => exact ⟨0, [], rfl, by omega, Lib.hid rfl, by rw [seenL_nil]; exact New.made 4 w (.bool false) false n (Nat.le_refl _) (by omega) (fun _ => ⟨rfl, rfl⟩), (Below.refl _ _).alloc (Nat.le_refl _) _⟩
      case round =>
        obtain ⟨k, seen, rfl, hk, H, hnew, hbel⟩ := hrel
        clear hmk
        by_cases hlt : k < n
        · obtain ⟨b, o, rfl, hb, hx0⟩ := hpx hn0
          obtain ⟨x, hx, hd⟩ := at_lt (xs := xs) (k := k) (by have := Hlx.out; omega)
          obtain ⟨u, hu, rfl⟩ := hx0 k x hx
          have hrule := hbel.rule
          have H3 := Lib.hid (show namesL n xs [] = if 0 ≤ x ∧ x < n ∧ seen.contains x = false then namesL n (xs.drop (k + 1)) (x :: seen) else false from by rw [H.out, hd]; rfl)
          clear H hx hd hx0 hpx
          by_cases hr : 0 ≤ x ∧ x < n
          · obtain ⟨p, rfl⟩ : ∃ p : Nat, x = (p : Int) := ⟨x.toNat, by omega⟩
            have hp : p < n := by omega
            obtain ⟨b', c', hv, _, _, hblt, hcl, hfr, hst⟩ := hnew.val_at (fun _ => rfl) (seenL_at hp)
            obtain rfl : b' = w.heap.size := by simp at hv; exact hv.1.symm
            have hpi : (p : Int) < (n : Int) := by omega
            cases hs : seen.contains (p : Int) with
            | true =>
              have HK := Lib.hid (show ok = false from by rw [HO.out, H3.out, hs]; simp)
              have HV2 := Lib.hid (show rv = [] from by rw [HV.out, HK.out]; rfl)
              rw [hs] at hcl
              clear hv hst hnew hs H3 hr
              go_wp2
              go_ret2
              exact ⟨_, by rw [HK.out]; rfl, by rw [HV2.out]; exact New.nil _ _, hbel⟩
            | false =>
              have H4 := Lib.hid (show namesL n xs [] = namesL n (xs.drop (k + 1)) ((p : Int) :: seen) from by rw [H3.out, hs, if_pos ⟨hr.1, hr.2, rfl⟩])
              rw [hs] at hcl
              have Hst := Lib.hid (by have := hst true; rw [seenL_set] at this; exact this)
              have Hb := Lib.hid (hbel.setCell (p := ⟨w.heap.size, p, none⟩) (Nat.le_refl _) (.bool true))
              clear hv hst hnew hs H3 hr hbel
              go_wp2
              go_roundg (n - (k + 1))
              case measure => omega
              case rel => exact ⟨k + 1, _, by go_num, by omega, H4, Hst.out, Hb.out⟩
          · have HK := Lib.hid (show ok = false from by rw [HO.out, H3.out, if_neg (fun h => hr ⟨h.1, h.2.1⟩)])
            have HV2 := Lib.hid (show rv = [] from by rw [HV.out, HK.out]; rfl)
            clear H3 hnew
            by_cases hx0 : x < 0
            · clear hr
              go_wp2
              go_ret2
              exact ⟨_, by rw [HK.out]; rfl, by rw [HV2.out]; exact New.nil _ _, hbel⟩
            · have hx1 : (n : Int) ≤ x := by omega
              clear hr
              go_wp2
              go_ret2
              exact ⟨_, by rw [HK.out]; rfl, by rw [HV2.out]; exact New.nil _ _, hbel⟩
        · have HN := Lib.hid (show namesL n xs [] = true from by rw [H.out, drop_len (by have := Hlx.out; omega)]; rfl)
          have HK := Lib.hid (show ok = true from by rw [HO.out, HN.out])
          have HV2 := Lib.hid (show rv = renI m (xs.map Int.toNat) n n from by rw [HV.out, HK.out]; rfl)
          have hr := nats_toNat (namesL_range HN.out)
          have h2r := Ints.frame _ _ _ _ H2.out hbel
          have h1r := Tab.frame _ _ _ _ H1.out hbel
          obtain ⟨wo, rfl⟩ : ∃ wo : World, wo = wr := ⟨_, rfl⟩
          rw [hr.1] at h2r
          have Hp : Hid (∀ i, i < n → (xs.map Int.toNat).getD i 0 < n) := Lib.hid (fun i hi => hr.2 i (by have := Hlx.out; omega))
          have hpl : (xs.map Int.toNat).length = n := by simp [Hlx.out]
          obtain ⟨ps, hps⟩ : ∃ ps, ps = xs.map Int.toNat := ⟨_, rfl⟩
          rw [← hps] at h2r Hp hpl HV2
          clear hr hps H HN hnew hpx
          obtain ⟨ab, ao, ac', hv1, hab, hae⟩ := h1r.entAt Hm'.out.1 Hm'.out.2 hn0
          obtain ⟨rfl, rfl⟩ : aa = some ⟨ab, ao, none⟩ ∧ ac = ac' := by simp at hv1; exact hv1
          obtain ⟨pa', pc', hv2, _, _, hpx⟩ := h2r.shape
          have hpl2 : (nats ps).length = n := by simp [nats, hpl]
          rw [hpl2] at hpx hv2
          obtain ⟨pb, po, rfl, hpb, hpy⟩ := hpx hn0
          obtain ⟨rfl, rfl⟩ : pa = some ⟨pb, po, none⟩ ∧ pc = pc' := by simp at hv2; exact hv2
          have hpc : ∀ i, i < n → wo.cell? ⟨pb, po + i, none⟩ = some (.int .i64 (ps.getD i 0 : Nat)) := fun i hi => by
            obtain ⟨u, hu, hr⟩ := hpy i ((ps.getD i 0 : Nat) : Int) (nats_at (by simp [List.getD, show i < ps.length by omega]))
            rw [hu, hr]
          have Hz := Lib.hid (zeros_c (w := wo) (p := n) (by omega))
          have Hbel := Lib.hid hbel
          have hz := hbel.size
          clear hbel hpx hpy hv1 hv2 hpl hpl2 h1r h2r
          go_wp2_with fail
          refine Hz.out.mono ?_
          rintro e w1 ⟨v1, rfl, hn1, hb1⟩
          obtain ⟨gb, gc, _, _, rfl, _, hgb, hgb2, _⟩ := hn1.tab_at (i := 0) (j := 0) ((Sq.zeros n).row hn0).1 ((Sq.zeros n).entry hn0 hn0)
          rw [(Sq.zeros n).1] at hn1 ⊢
          have Hn1 := Lib.hid hn1
          have Hb1 := Lib.hid hb1
          clear hn1 hb1 Hz
          go_wp2
          go_loopg [56] n (fun g ii wr => ∃ (i : Nat), ii = .int .i64 i ∧ i + g = n ∧ New (OTab 3 37) wo.heap.size wr (.slice (some ⟨gb, 0, none⟩) n gc) (renI m ps n i) ∧ Below wo.heap.size wo wr)
          case atStart => exact ⟨0, rfl, by omega, Hn1.out, Hb1.out⟩
          case round =>
            obtain ⟨i, rfl, hi, hnew, hbel⟩ := hrel
            have Hn := Lib.hid hnew
            have Hb := Lib.hid hbel
            have hrule := hbel.rule
            clear hnew hbel
            by_cases hlt : i < n
            · obtain ⟨rb, ro, rc, hA1, hrb, _, hA2⟩ := hae.at hlt hn0
              go_wp2
              clear hrule
              go_loopg [63] n (fun g jj wr => ∃ (j : Nat), jj = .int .i64 j ∧ j + g = n ∧ New (OTab 3 37) wo.heap.size wr (.slice (some ⟨gb, 0, none⟩) n gc) (renJ m ps (renI m ps n i) i j) ∧ Below wo.heap.size wo wr)
              case atStart => exact ⟨0, rfl, by omega, Hn.out, Hb.out⟩
              case round =>
                clear Hn Hb
                obtain ⟨j, rfl, hj, hnew, hbel⟩ := hrel
                by_cases hlt2 : j < n
                · have hA3 := hA2 j hlt2
                  have hP1 := hpc i hlt
                  have hP2 := hpc j hlt2
                  have hp1 := Hp.out i hlt
                  have hp2 := Hp.out j hlt2
                  have hsq : Sq n (renJ m ps (renI m ps n i) i j) := renJ_sq (renI_sq Hp.out i (by omega)) hp1 j
                  obtain ⟨b', c', sb, sc, hv, _, _, _, hcl1, _, hsb, _, hcl2, hfr, hst⟩ := hnew.tab_at (hsq.row hp1).1 (hsq.entry hp1 hp2)
                  obtain rfl : b' = gb := by simp at hv; exact hv.1.symm
                  rw [(hsq.row hp1).2] at hcl1
                  have Hst := Lib.hid (show New (OTab 3 37) wo.heap.size (wr.setCell ⟨sb, ps.getD j 0, none⟩ (.int .i64 (ent m i j))) _ (renJ m ps (renI m ps n i) i (j + 1)) from hst (ent m i j))
                  have Hb3 := Lib.hid (hbel.setCell (p := ⟨sb, ps.getD j 0, none⟩) hsb (.int .i64 (ent m i j)))
                  have hrule := hbel.rule
                  have hi1 : (i : Int) < (n : Int) := by omega
                  have hi2 : (j : Int) < (n : Int) := by omega
                  generalize ent m i j = X at *
                  generalize ps.getD i 0 = p1 at *
                  generalize ps.getD j 0 = p2 at *
                  have hi3 : (p1 : Int) < (n : Int) := by omega
                  have hi4 : (p2 : Int) < (n : Int) := by omega
                  clear hv hst hnew hA2 hbel hpc hsq
                  go_wp2
                  go_still_tail 13, (by kernel_rfl)
                  go_wp2
                  go_roundg (n - (j + 1))
                  case measure => omega
                  case rel => exact ⟨j + 1, by go_num, by omega, New.heap (OTab.kept _ _) Hst.out rfl, Hb3.out.drew⟩
                · have e : j = n := by omega
                  subst e
                  go_wp2
                  go_roundg (j - (i + 1))
                  case measure => omega
                  case rel => exact ⟨i + 1, by go_num, by omega, hnew, hbel⟩
            · have e : i = n := by omega
              subst e
              go_wp2
              go_ret2
              exact ⟨_, by rw [HK.out]; rfl, by rw [HV2.out]; exact Hn.out.mono hz, Hbel.out.trans (Hb.out.mono hz)⟩
    · have HK := Lib.hid (show renOk m xs = false from by unfold renOk; simp [hl])
      have HV := Lib.hid (show renV m xs = [] from by unfold renV; rw [HK.out]; rfl)
      have t0 : ((xs.length : Int) != (m.length : Int)) = true := by simp; omega
      rw [HK.out]
      clear h1 h2 hm hpx sm
      go_enter Try.func44, Try.ntmps44
      go_wp2_with fail
      refine Hc.out.mono ?_
      rintro e w' ⟨rfl, rfl⟩
      go_wp2
      go_ret2
      exact ⟨_, rfl, by rw [HV.out]; exact New.nil _ _, Below.refl _ _⟩
end Go.Proofs.Ytcomebceanajmaa
