/-
  Texts of this claim joined: laws for its walks, contracts of the functions that the law reaches.
-/
import Derived.Test.YtlkgkfgpnnahdaaRows
import Derived.Test.YtlkgkfgpnnahdaaFnLagsM1
import Derived.Test.YtlkgkfgpnnahdaaFnLagsM3
import Derived.Test.YtlkgkfgpnnahdaaFnLagsM4
import Derived.StillTailTactics
import Derived.Test.YtlkgkfgpnnahdaaFnLagsM10
import Derived.Test.YtlkgkfgpnnahdaaFnLagsM11
import Derived.Test.YtlkgkfgpnnahdaaFnLagsM15
import Derived.Test.YtlkgkfgpnnahdaaFnLagsM18
import Derived.Test.YtlkgkfgpnnahdaaFnLagsM6
import Derived.OwnWalk
section
/-
  RenameGraph, the program's and the reference's.
-/
namespace Go.Proofs.Ytlkgkfgpnnahdaa
open Go.RowKit Go.Deep Go.Sd

theorem infoB : (Try.prog.info? 4).map (fun i => (i.zero, i.size, i.bytes)) = some (some (.bool false), 1, 1) := by kernel_rfl

set_option maxHeartbeats 1000000 in
theorem l18Names_c {w : World} {v : Value} {xs : List Int} {n : Nat} (h : Ints w v xs) (hn : n ≤ 9) :
    Calls Try.prog 94 #[v, .int .i64 n] w fun e w' => e = .returned (.bool (namesL n xs [] && decide (xs.length = n))) ∧ Below w.heap.size w w' := by
  have hlen := h.len
  obtain ⟨a, c, rfl, _, _, hcell⟩ := h.shape
  clear h
  have hmk := run_make_row' (P := Try.prog) 91 4 (.bool false) 1 Try.underlying91 infoB rfl .i64 .i64 n (by omega) (by omega)
  go_enter Try.func94, Try.ntmps94
  go_wp2
  go_loopg [6] (xs.length) (fun g i wr => ∃ (k : Nat) (seen : List Int), i = .int .i64 k ∧ k + g = xs.length ∧ Hid (namesL n xs [] = namesL n (xs.drop k) seen) ∧ New (OwnOf 4 (OValR Value.bool)) w.heap.size wr (.slice (some ⟨w.heap.size, 0, none⟩) n n) (seenL n seen) ∧ Below w.heap.size w wr)
  case atStart => exact ⟨0, [], rfl, by omega, Lib.hid rfl, by rw [seenL_nil]; exact New.made 4 w (.bool false) false n (Nat.le_refl _) (by omega) (fun _ => ⟨rfl, rfl⟩), (Below.refl _ _).alloc (Nat.le_refl _) _⟩
  case round =>
    obtain ⟨k, seen, rfl, hk, H, hnew, hbel⟩ := hrel
    clear hmk
    by_cases hlt : k < xs.length
    · obtain ⟨b, o, rfl, hb, hx0⟩ := hcell (by omega)
      obtain ⟨x, hx, hd⟩ := at_lt hlt
      obtain ⟨u, hu, rfl⟩ := hx0 k x hx
      have hrule := hbel.rule
      have H1 := Lib.hid (show namesL n xs [] = if 0 ≤ x ∧ x < n ∧ seen.contains x = false then namesL n (xs.drop (k + 1)) (x :: seen) else false from by rw [H.out, hd]; rfl)
      clear H hx hd hx0 hcell
      by_cases hr : 0 ≤ x ∧ x < n
      · obtain ⟨p, rfl⟩ : ∃ p : Nat, x = (p : Int) := ⟨x.toNat, by omega⟩
        have hp : p < n := by omega
        have Hc := Lib.hid (l1In_yes (a := (p : Int)) (b := 0) (c := (n : Int) - 1) wr (by omega) (by omega))
        obtain ⟨b', c', hv, _, _, hblt, hcl, hfr, hst⟩ := hnew.val_at (fun _ => rfl) (seenL_at hp)
        obtain rfl : b' = w.heap.size := by simp at hv; exact hv.1.symm
        have hpi : (p : Int) < (n : Int) := by omega
        cases hs : seen.contains (p : Int) with
        | true =>
          have H2 := Lib.hid (show (namesL n xs [] && decide (xs.length = n)) = false from by rw [H1.out, hs]; simp)
          rw [hs] at hcl
          clear hv hst hnew hs H1 hr
          go_wp2_with fail
          refine Hc.out.mono ?_
          rintro e w' ⟨rfl, rfl⟩
          go_wp2
          go_ret
          exact ⟨by rw [H2.out]; rfl, hbel⟩
        | false =>
          have H2 := Lib.hid (show namesL n xs [] = namesL n (xs.drop (k + 1)) ((p : Int) :: seen) from by rw [H1.out, hs, if_pos ⟨hr.1, hr.2, rfl⟩])
          rw [hs] at hcl
          have Hst := Lib.hid (by have := hst true; rw [seenL_set] at this; exact this)
          have Hb := Lib.hid (hbel.setCell (p := ⟨w.heap.size, p, none⟩) (Nat.le_refl _) (.bool true))
          clear hv hst hnew hs H1 hr hbel
          go_wp2_with fail
          refine Hc.out.mono ?_
          rintro e w' ⟨rfl, rfl⟩
          go_wp2
          go_roundg (xs.length - (k + 1))
          case measure => omega
          case rel => exact ⟨k + 1, _, by go_num, by omega, H2, Hst.out, Hb.out⟩
      · have H2 := Lib.hid (show (namesL n xs [] && decide (xs.length = n)) = false from by rw [H1.out, if_neg (fun h => hr ⟨h.1, h.2.1⟩)]; rfl)
        have Hc := Lib.hid (l1In_no (a := x) (b := 0) (c := (n : Int) - 1) wr (by omega))
        clear H1 hnew hr
        go_wp2_with fail
        refine Hc.out.mono ?_
        rintro e w' ⟨rfl, rfl⟩
        go_wp2
        go_ret
        exact ⟨by rw [H2.out]; rfl, hbel⟩
    · have H1 := Lib.hid (show namesL n xs [] = true from by rw [H.out, drop_len hlt]; rfl)
      clear H hnew hcell
      by_cases hl : xs.length = n
      · have H2 := Lib.hid (show (namesL n xs [] && decide (xs.length = n)) = true from by rw [H1.out]; simp [hl])
        have t1 : ((xs.length : Int) == (n : Int)) = true := by simp [hl]
        clear hl H1
        go_wp2
        go_ret
        exact ⟨by rw [H2.out]; rfl, hbel⟩
      · have H2 := Lib.hid (show (namesL n xs [] && decide (xs.length = n)) = false from by rw [H1.out]; simp [hl])
        have t1 : ((xs.length : Int) == (n : Int)) = false := by simp; omega
        clear hl H1
        go_wp2
        go_ret
        exact ⟨by rw [H2.out]; rfl, hbel⟩

set_option maxHeartbeats 2000000 in
set_option maxRecDepth 100000 in
theorem l18Rename_c {w : World} {va vp : Value} {m : List (List Int)} {ps : List Nat} {n : Nat} (h1 : Tab w va m) (hm : Sq n m) (h2 : Ints w vp (nats ps)) (hpl : ps.length = n) (hp : ∀ i, i < n → ps.getD i 0 < n) (hn0 : 0 < n) (hn : n ≤ 9) :
    Calls Try.prog 95 #[va, vp] w (Makes (OTab 3 33) w (renI m ps n n)) := by
  obtain ⟨ab, ao, ac, rfl, hab, hae⟩ := h1.entAt hm.1 hm.2 hn0
  obtain ⟨pa, pc, rfl, _, _, hpx⟩ := h2.shape
  have hpl2 : (nats ps).length = n := by simp [nats, hpl]
  rw [hpl2] at hpx ⊢
  obtain ⟨pb, po, rfl, hpb, hpy⟩ := hpx hn0
  have hpc : ∀ i, i < n → w.cell? ⟨pb, po + i, none⟩ = some (.int .i64 (ps.getD i 0 : Nat)) := fun i hi => by
    obtain ⟨u, hu, hr⟩ := hpy i ((ps.getD i 0 : Nat) : Int) (nats_at (by simp [List.getD, show i < ps.length by omega]))
    rw [hu, hr]
  have Hz := Lib.hid (l4Zero_c (w := w) (p := n) (r := n) (by omega) (by omega))
  clear h1 h2 hpx hpy hpl hpl2
  go_enter Try.func95, Try.ntmps95
  go_wp2_with fail
  refine Hz.out.mono ?_
  rintro e w1 ⟨v1, rfl, hn1, hb1⟩
  obtain ⟨gb, gc, _, _, rfl, _, hgb, hgb2, _⟩ := hn1.tab_at (i := 0) (j := 0) ((Sq.zeros n).row hn0).1 ((Sq.zeros n).entry hn0 hn0)
  rw [(Sq.zeros n).1] at hn1 ⊢
  have Hn1 := Lib.hid hn1
  have Hb1 := Lib.hid hb1
  have Hp := Lib.hid hp
  clear hn1 hb1 Hz hp
  go_wp2
  go_loopg [6] n (fun g ii wr => ∃ (i : Nat), ii = .int .i64 i ∧ i + g = n ∧ New (OTab 3 33) w.heap.size wr (.slice (some ⟨gb, 0, none⟩) n gc) (renI m ps n i) ∧ Below w.heap.size w wr)
  case atStart => exact ⟨0, rfl, by omega, Hn1.out, Hb1.out⟩
  case round =>
    obtain ⟨i, rfl, hi, hnew, hbel⟩ := hrel
    have Hn := Lib.hid hnew
    have Hb := Lib.hid hbel
    clear hnew hbel
    by_cases hlt : i < n
    · go_wp2
      go_loopg [7] n (fun g jj wr => ∃ (j : Nat), jj = .int .i64 j ∧ j + g = n ∧ New (OTab 3 33) w.heap.size wr (.slice (some ⟨gb, 0, none⟩) n gc) (renJ m ps (renI m ps n i) i j) ∧ Below w.heap.size w wr)
      case atStart => exact ⟨0, rfl, by omega, Hn.out, Hb.out⟩
      case round =>
        clear Hn Hb
        obtain ⟨j, rfl, hj, hnew, hbel⟩ := hrel
        by_cases hlt2 : j < n
        · obtain ⟨rb, ro, rc, hA1, hrb, _, hA2⟩ := hae.at hlt hn0
          have hA3 := hA2 j hlt2
          have hP1 := hpc i hlt
          have hP2 := hpc j hlt2
          have hp1 := Hp.out i hlt
          have hp2 := Hp.out j hlt2
          have hsq : Sq n (renJ m ps (renI m ps n i) i j) := renJ_sq (renI_sq Hp.out i (by omega)) hp1 j
          obtain ⟨b', c', sb, sc, hv, _, _, _, hcl1, _, hsb, _, hcl2, hfr, hst⟩ := hnew.tab_at (hsq.row hp1).1 (hsq.entry hp1 hp2)
          obtain rfl : b' = gb := by simp at hv; exact hv.1.symm
          rw [(hsq.row hp1).2] at hcl1
          have Hst := Lib.hid (show New (OTab 3 33) w.heap.size (wr.setCell ⟨sb, ps.getD j 0, none⟩ (.int .i64 (ent m i j))) _ (renJ m ps (renI m ps n i) i (j + 1)) from hst (ent m i j))
          have Hb3 := Lib.hid (hbel.setCell (p := ⟨sb, ps.getD j 0, none⟩) hsb (.int .i64 (ent m i j)))
          have hrule := hbel.rule
          have hi1 : (i : Int) < (n : Int) := by omega
          have hi2 : (j : Int) < (n : Int) := by omega
          generalize ent m i j = X at *
          generalize ps.getD i 0 = p1 at *
          generalize ps.getD j 0 = p2 at *
          have hi3 : (p1 : Int) < (n : Int) := by omega
          have hi4 : (p2 : Int) < (n : Int) := by omega
          clear hv hst hnew hA2 hbel hpc hsq
          go_wp2
          go_still_tail 19, (by kernel_rfl)
          go_wp2
          go_roundg (n - (j + 1))
          case measure => omega
          case rel => exact ⟨j + 1, by go_num, by omega, New.heap (OTab.kept _ _) Hst.out rfl, Hb3.out.drew⟩
        · have e : j = n := by omega
          subst e
          go_wp2
          go_roundg (j - (i + 1))
          case measure => omega
          case rel => exact ⟨i + 1, by go_num, by omega, hnew, hbel⟩
    · have e : i = n := by omega
      subst e
      go_wp2
      go_ret
      exact ⟨_, rfl, Hn.out, Hb.out⟩

def renOk (m : List (List Int)) (xs : List Int) : Bool := isMat m && (namesL m.length xs [] && decide (xs.length = m.length))
def renV (m : List (List Int)) (xs : List Int) : List (List Int) := if renOk m xs = true then renI m (xs.map Int.toNat) m.length m.length else []

theorem nats_toNat {xs : List Int} {n : Nat} (h : ∀ x, x ∈ xs → 0 ≤ x ∧ x < n) : xs = nats (xs.map Int.toNat) ∧ ∀ i, i < xs.length → (xs.map Int.toNat).getD i 0 < n := by
  constructor
  · unfold nats
    rw [List.map_map]
    refine (List.map_id xs).symm.trans (List.map_congr_left fun x hx => ?_)
    have := h x hx
    simp; omega
  · intro i hi
    have := h xs[i] (List.getElem_mem hi)
    simp [List.getD, hi]; omega

set_option maxHeartbeats 400000 in
theorem spec_RenameGraph_c {w : World} {va vp : Value} {m : List (List Int)} {xs : List Int} (h1 : Tab w va m) (h2 : Ints w vp xs) :
    Calls Try.prog 19 #[va, vp] w (Makes2 (OTab 3 33) w (renV m xs) (renOk m xs)) := by
  have hsh := h1.shape
  obtain ⟨aa, ac, rfl, _, _, _⟩ := hsh
  have Hc := Lib.hid (spec_IsMatrix_c h1)
  cases hm : isMat m with
  | false =>
    have HK := Lib.hid (show renOk m xs = false from by unfold renOk; rw [hm]; rfl)
    have HV := Lib.hid (show renV m xs = [] from by unfold renV; rw [HK.out]; rfl)
    rw [hm] at Hc
    rw [HK.out]
    clear h1 h2 hm
    go_enter Try.func19, Try.ntmps19
    go_wp2_with fail
    refine Hc.out.mono ?_
    rintro e w' ⟨rfl, rfl⟩
    go_wp2
    go_ret2
    exact ⟨_, rfl, by rw [HV.out]; exact New.empty w (Nat.le_refl _), (Below.refl _ _).alloc (Nat.le_refl _) _⟩
  | true =>
    have sm := isMat_sq hm
    rw [hm] at Hc
    have Hd := Lib.hid (l18Names_c (n := m.length) h2 sm.2.2)
    cases hk : (namesL m.length xs [] && decide (xs.length = m.length)) with
    | false =>
      have HK := Lib.hid (show renOk m xs = false from by unfold renOk; rw [hk]; simp)
      have HV := Lib.hid (show renV m xs = [] from by unfold renV; rw [HK.out]; rfl)
      rw [hk] at Hd
      rw [HK.out]
      clear h1 h2 hm hk sm
      go_enter Try.func19, Try.ntmps19
      go_wp2_with fail
      refine Hc.out.mono ?_
      rintro e w' ⟨rfl, rfl⟩
      go_wp2_with fail
      refine Hd.out.mono ?_
      rintro e w1 ⟨rfl, hb1⟩
      have Hb1 := Lib.hid hb1
      have hz1 := hb1.size
      clear hb1
      go_wp2
      go_ret2
      exact ⟨_, rfl, by rw [HV.out]; exact New.empty w1 hz1, Hb1.out.alloc hz1 _⟩
    | true =>
      have HK := Lib.hid (show renOk m xs = true from by unfold renOk; rw [hm, hk]; rfl)
      have HV := Lib.hid (show renV m xs = renI m (xs.map Int.toNat) m.length m.length from by unfold renV; rw [HK.out]; rfl)
      rw [hk] at Hd
      rw [HK.out]
      simp only [Bool.and_eq_true, decide_eq_true_eq] at hk
      have hr := nats_toNat (namesL_range hk.1)
      have Hm := Lib.hid (fun w1 (hb : Below w.heap.size w w1) => l18Rename_c (w := w1) (ps := xs.map Int.toNat) (Tab.frame _ _ _ _ h1 hb) sm.1 (by rw [← hr.1]; exact Ints.frame _ _ _ _ h2 hb) (by simp [hk.2]) (fun i hi => hr.2 i (by omega)) (by omega) sm.2.2)
      clear h1 h2 hm hk sm hr
      go_enter Try.func19, Try.ntmps19
      go_wp2_with fail
      refine Hc.out.mono ?_
      rintro e w' ⟨rfl, rfl⟩
      go_wp2_with fail
      refine Hd.out.mono ?_
      rintro e w1 ⟨rfl, hb1⟩
      go_wp2_with fail
      refine (Hm.out w1 hb1).mono ?_
      rintro e w2 ⟨v2, rfl, hn2, hb2⟩
      have hz1 := hb1.size
      go_wp2
      go_ret2
      exact ⟨_, rfl, by rw [HV.out]; exact hn2.mono hz1, hb1.trans (hb2.mono hz1)⟩

set_option maxHeartbeats 2000000 in
set_option maxRecDepth 100000 in
theorem impl_RenameGraph_c {w : World} {va vp : Value} {m : List (List Int)} {xs : List Int} (h1 : Tab w va m) (h2 : Ints w vp xs) :
    Calls Try.prog 18 #[va, vp] w (Makes2 (OTab 3 33) w (renV m xs) (renOk m xs)) := by
  have hsh := h1.shape
  obtain ⟨aa, ac, rfl, _, _, _⟩ := hsh
  have hlx := h2.len
  obtain ⟨pa, pc, rfl, _, _, hpx⟩ := h2.shape
  have Hc := Lib.hid (impl_IsMatrix_c h1)
  cases hm : isMat m with
  | false =>
    have HK := Lib.hid (show renOk m xs = false from by unfold renOk; rw [hm]; rfl)
    have HV := Lib.hid (show renV m xs = [] from by unfold renV; rw [HK.out]; rfl)
    rw [hm] at Hc
    rw [HK.out]
    clear h1 h2 hm hpx
    go_enter Try.func18, Try.ntmps18
    go_wp2_with fail
    refine Hc.out.mono ?_
    rintro e w' ⟨rfl, rfl⟩
    go_wp2
    go_ret2
    exact ⟨_, rfl, by rw [HV.out]; exact New.nil _ _, Below.refl _ _⟩
  | true =>
    have sm := isMat_sq hm
    rw [hm] at Hc
    by_cases hl : xs.length = m.length
    · have HO0 := Lib.hid (show renOk m xs = namesL m.length xs [] from by unfold renOk; rw [hm]; simp [hl])
      have HV0 := Lib.hid (show renV m xs = if renOk m xs = true then renI m (xs.map Int.toNat) m.length m.length else [] from rfl)
      clear hm hlx
      generalize hn : m.length = n at *
      have hl2 := hl
      rw [hl] at h2 hpx ⊢
      have hm' := sm.1
      have hn0 : 0 < n := by omega
      have hn9 : n ≤ 9 := sm.2.2
      have hmk := run_make_row' (P := Try.prog) 91 4 (.bool false) 1 Try.underlying91 infoB rfl .i64 .i64 n (by omega) (by omega)
      have HO := HO0
      have HV := HV0
      clear HO0 HV0
      generalize renOk m xs = ok at HO HV ⊢
      generalize renV m xs = rv at HV ⊢
      have H1 := Lib.hid h1
      have H2 := Lib.hid h2
      have Hlx := Lib.hid hl2
      have Hm' := Lib.hid hm'
      have t0 : ((n : Int) != (n : Int)) = false := by simp
      clear h1 h2 sm hl hn hl2 hm'
      go_enter Try.func18, Try.ntmps18
      go_wp2_with fail
      refine Hc.out.mono ?_
      rintro e w' ⟨rfl, rfl⟩
      go_wp2
      go_loopg [29] n (fun g i wr => ∃ (k : Nat) (seen : List Int), i = .int .i64 k ∧ k + g = n ∧ Hid (namesL n xs [] = namesL n (xs.drop k) seen) ∧ New (OwnOf 4 (OValR Value.bool)) w.heap.size wr (.slice (some ⟨w.heap.size, 0, none⟩) n n) (seenL n seen) ∧ Below w.heap.size w wr)
      case atStart => exact ⟨0, [], rfl, by omega, Lib.hid rfl, by rw [seenL_nil]; exact New.made 4 w (.bool false) false n (Nat.le_refl _) (by omega) (fun _ => ⟨rfl, rfl⟩), (Below.refl _ _).alloc (Nat.le_refl _) _⟩
      case round =>
        obtain ⟨k, seen, rfl, hk, H, hnew, hbel⟩ := hrel
        clear hmk
        by_cases hlt : k < n
        · obtain ⟨b, o, rfl, hb, hx0⟩ := hpx hn0
          obtain ⟨x, hx, hd⟩ := at_lt (xs := xs) (k := k) (by have := Hlx.out; omega)
          obtain ⟨u, hu, rfl⟩ := hx0 k x hx
          have hrule := hbel.rule
          have H3 := Lib.hid (show namesL n xs [] = if 0 ≤ x ∧ x < n ∧ seen.contains x = false then namesL n (xs.drop (k + 1)) (x :: seen) else false from by rw [H.out, hd]; rfl)
          clear H hx hd hx0 hpx
          by_cases hr : 0 ≤ x ∧ x < n
          · obtain ⟨p, rfl⟩ : ∃ p : Nat, x = (p : Int) := ⟨x.toNat, by omega⟩
            have hp : p < n := by omega
            obtain ⟨b', c', hv, _, _, hblt, hcl, hfr, hst⟩ := hnew.val_at (fun _ => rfl) (seenL_at hp)
            obtain rfl : b' = w.heap.size := by simp at hv; exact hv.1.symm
            have hpi : (p : Int) < (n : Int) := by omega
            cases hs : seen.contains (p : Int) with
            | true =>
              have HK := Lib.hid (show ok = false from by rw [HO.out, H3.out, hs]; simp)
              have HV2 := Lib.hid (show rv = [] from by rw [HV.out, HK.out]; rfl)
              rw [hs] at hcl
              clear hv hst hnew hs H3 hr
              go_wp2
              go_ret2
              exact ⟨_, by rw [HK.out]; rfl, by rw [HV2.out]; exact New.nil _ _, hbel⟩
            | false =>
              have H4 := Lib.hid (show namesL n xs [] = namesL n (xs.drop (k + 1)) ((p : Int) :: seen) from by rw [H3.out, hs, if_pos ⟨hr.1, hr.2, rfl⟩])
              rw [hs] at hcl
              have Hst := Lib.hid (by have := hst true; rw [seenL_set] at this; exact this)
              have Hb := Lib.hid (hbel.setCell (p := ⟨w.heap.size, p, none⟩) (Nat.le_refl _) (.bool true))
              clear hv hst hnew hs H3 hr hbel
              go_wp2
              go_roundg (n - (k + 1))
              case measure => omega
              case rel => exact ⟨k + 1, _, by go_num, by omega, H4, Hst.out, Hb.out⟩
          · have HK := Lib.hid (show ok = false from by rw [HO.out, H3.out, if_neg (fun h => hr ⟨h.1, h.2.1⟩)])
            have HV2 := Lib.hid (show rv = [] from by rw [HV.out, HK.out]; rfl)
            clear H3 hnew
            by_cases hx0 : x < 0
            · clear hr
              go_wp2
              go_ret2
              exact ⟨_, by rw [HK.out]; rfl, by rw [HV2.out]; exact New.nil _ _, hbel⟩
            · have hx1 : (n : Int) ≤ x := by omega
              clear hr
              go_wp2
              go_ret2
              exact ⟨_, by rw [HK.out]; rfl, by rw [HV2.out]; exact New.nil _ _, hbel⟩
        · have HN := Lib.hid (show namesL n xs [] = true from by rw [H.out, drop_len (by have := Hlx.out; omega)]; rfl)
          have HK := Lib.hid (show ok = true from by rw [HO.out, HN.out])
          have HV2 := Lib.hid (show rv = renI m (xs.map Int.toNat) n n from by rw [HV.out, HK.out]; rfl)
          have hr := nats_toNat (namesL_range HN.out)
          have h2r := Ints.frame _ _ _ _ H2.out hbel
          have h1r := Tab.frame _ _ _ _ H1.out hbel
          obtain ⟨wo, rfl⟩ : ∃ wo : World, wo = wr := ⟨_, rfl⟩
          rw [hr.1] at h2r
          have Hp : Hid (∀ i, i < n → (xs.map Int.toNat).getD i 0 < n) := Lib.hid (fun i hi => hr.2 i (by have := Hlx.out; omega))
          have hpl : (xs.map Int.toNat).length = n := by simp [Hlx.out]
          obtain ⟨ps, hps⟩ : ∃ ps, ps = xs.map Int.toNat := ⟨_, rfl⟩
          rw [← hps] at h2r Hp hpl HV2
          clear hr hps H HN hnew hpx
          obtain ⟨ab, ao, ac', hv1, hab, hae⟩ := h1r.entAt Hm'.out.1 Hm'.out.2 hn0
          obtain ⟨rfl, rfl⟩ : aa = some ⟨ab, ao, none⟩ ∧ ac = ac' := by simp at hv1; exact hv1
          obtain ⟨pa', pc', hv2, _, _, hpx⟩ := h2r.shape
          have hpl2 : (nats ps).length = n := by simp [nats, hpl]
          rw [hpl2] at hpx hv2
          obtain ⟨pb, po, rfl, hpb, hpy⟩ := hpx hn0
          obtain ⟨rfl, rfl⟩ : pa = some ⟨pb, po, none⟩ ∧ pc = pc' := by simp at hv2; exact hv2
          have hpc : ∀ i, i < n → wo.cell? ⟨pb, po + i, none⟩ = some (.int .i64 (ps.getD i 0 : Nat)) := fun i hi => by
            obtain ⟨u, hu, hr⟩ := hpy i ((ps.getD i 0 : Nat) : Int) (nats_at (by simp [List.getD, show i < ps.length by omega]))
            rw [hu, hr]
          have Hz := Lib.hid (zeros_c (w := wo) (p := n) (by omega))
          have Hbel := Lib.hid hbel
          have hz := hbel.size
          clear hbel hpx hpy hv1 hv2 hpl hpl2 h1r h2r
          go_wp2_with fail
          refine Hz.out.mono ?_
          rintro e w1 ⟨v1, rfl, hn1, hb1⟩
          obtain ⟨gb, gc, _, _, rfl, _, hgb, hgb2, _⟩ := hn1.tab_at (i := 0) (j := 0) ((Sq.zeros n).row hn0).1 ((Sq.zeros n).entry hn0 hn0)
          rw [(Sq.zeros n).1] at hn1 ⊢
          have Hn1 := Lib.hid hn1
          have Hb1 := Lib.hid hb1
          clear hn1 hb1 Hz
          go_wp2
          go_loopg [56] n (fun g ii wr => ∃ (i : Nat), ii = .int .i64 i ∧ i + g = n ∧ New (OTab 3 33) wo.heap.size wr (.slice (some ⟨gb, 0, none⟩) n gc) (renI m ps n i) ∧ Below wo.heap.size wo wr)
          case atStart => exact ⟨0, rfl, by omega, Hn1.out, Hb1.out⟩
          case round =>
            obtain ⟨i, rfl, hi, hnew, hbel⟩ := hrel
            have Hn := Lib.hid hnew
            have Hb := Lib.hid hbel
            have hrule := hbel.rule
            clear hnew hbel
            by_cases hlt : i < n
            · obtain ⟨rb, ro, rc, hA1, hrb, _, hA2⟩ := hae.at hlt hn0
              go_wp2
              clear hrule
              go_loopg [63] n (fun g jj wr => ∃ (j : Nat), jj = .int .i64 j ∧ j + g = n ∧ New (OTab 3 33) wo.heap.size wr (.slice (some ⟨gb, 0, none⟩) n gc) (renJ m ps (renI m ps n i) i j) ∧ Below wo.heap.size wo wr)
              case atStart => exact ⟨0, rfl, by omega, Hn.out, Hb.out⟩
              case round =>
                clear Hn Hb
                obtain ⟨j, rfl, hj, hnew, hbel⟩ := hrel
                by_cases hlt2 : j < n
                · have hA3 := hA2 j hlt2
                  have hP1 := hpc i hlt
                  have hP2 := hpc j hlt2
                  have hp1 := Hp.out i hlt
                  have hp2 := Hp.out j hlt2
                  have hsq : Sq n (renJ m ps (renI m ps n i) i j) := renJ_sq (renI_sq Hp.out i (by omega)) hp1 j
                  obtain ⟨b', c', sb, sc, hv, _, _, _, hcl1, _, hsb, _, hcl2, hfr, hst⟩ := hnew.tab_at (hsq.row hp1).1 (hsq.entry hp1 hp2)
                  obtain rfl : b' = gb := by simp at hv; exact hv.1.symm
                  rw [(hsq.row hp1).2] at hcl1
                  have Hst := Lib.hid (show New (OTab 3 33) wo.heap.size (wr.setCell ⟨sb, ps.getD j 0, none⟩ (.int .i64 (ent m i j))) _ (renJ m ps (renI m ps n i) i (j + 1)) from hst (ent m i j))
                  have Hb3 := Lib.hid (hbel.setCell (p := ⟨sb, ps.getD j 0, none⟩) hsb (.int .i64 (ent m i j)))
                  have hrule := hbel.rule
                  have hi1 : (i : Int) < (n : Int) := by omega
                  have hi2 : (j : Int) < (n : Int) := by omega
                  generalize ent m i j = X at *
                  generalize ps.getD i 0 = p1 at *
                  generalize ps.getD j 0 = p2 at *
                  have hi3 : (p1 : Int) < (n : Int) := by omega
                  have hi4 : (p2 : Int) < (n : Int) := by omega
                  clear hv hst hnew hA2 hbel hpc hsq
                  go_wp2
                  go_still_tail 13, (by kernel_rfl)
                  go_wp2
                  go_roundg (n - (j + 1))
                  case measure => omega
                  case rel => exact ⟨j + 1, by go_num, by omega, New.heap (OTab.kept _ _) Hst.out rfl, Hb3.out.drew⟩
                · have e : j = n := by omega
                  subst e
                  go_wp2
                  go_roundg (j - (i + 1))
                  case measure => omega
                  case rel => exact ⟨i + 1, by go_num, by omega, hnew, hbel⟩
            · have e : i = n := by omega
              subst e
              go_wp2
              go_ret2
              exact ⟨_, by rw [HK.out]; rfl, by rw [HV2.out]; exact Hn.out.mono hz, Hbel.out.trans (Hb.out.mono hz)⟩
    · have HK := Lib.hid (show renOk m xs = false from by unfold renOk; simp [hl])
      have HV := Lib.hid (show renV m xs = [] from by unfold renV; rw [HK.out]; rfl)
      have t0 : ((xs.length : Int) != (m.length : Int)) = true := by simp; omega
      rw [HK.out]
      clear h1 h2 hm hpx sm
      go_enter Try.func18, Try.ntmps18
      go_wp2_with fail
      refine Hc.out.mono ?_
      rintro e w' ⟨rfl, rfl⟩
      go_wp2
      go_ret2
      exact ⟨_, rfl, by rw [HV.out]; exact New.nil _ _, Below.refl _ _⟩
end Go.Proofs.Ytlkgkfgpnnahdaa
end

section
/-
  The draws of the joins: matrices split some times, an order, two matrices that are often alike.
-/
namespace Go.Proofs.Ytlkgkfgpnnahdaa
open Go.RowKit Go.Deep Go.Sd
set_option linter.unusedSimpArgs false
theorem l1Max_z {b : Int} (hb : 0 ≤ b) (w : World) : Calls Try.prog 103 #[.int .i64 0, .int .i64 b] w fun e w' => e = .returned (.int .i64 b) ∧ w = w' := by
  have h : ¬ ((0 : Int) > b) := by omega
  go_enter Try.func103, Try.ntmps103
  go_wp2
  go_ret
  exact ⟨rfl, rfl⟩
theorem l1Min_9 (b : Int) (hb : 0 ≤ b) (w : World) : Calls Try.prog 203 #[.int .i64 9, .int .i64 b] w fun e w' => ∃ y : Nat, y ≤ 9 ∧ e = .returned (.int .i64 y) ∧ w = w' := by
  by_cases h : 9 < b
  · go_enter Try.func203, Try.ntmps203
    go_wp2
    go_ret
    exact ⟨9, by omega, rfl, rfl⟩
  · go_enter Try.func203, Try.ntmps203
    obtain ⟨y, rfl⟩ := Int.eq_ofNat_of_zero_le hb
    go_wp2
    go_ret
    exact ⟨y, by omega, rfl, rfl⟩
def HasM (rs : List Res) (v : Value) (m : List (List Int)) : Prop := ResM v m ∈ rs
set_option maxHeartbeats 4000000 in
set_option maxRecDepth 100000 in
theorem l18Split_c {lo : Nat} {w : World} {cb : Nat} {K : Value} {xs : List Int} {rs : List Res} {v : Value} {m : List (List Int)} (hK : ∀ w', Below lo w w' → BytR w' K xs) (hc : Cur lo w cb K xs.length rs) (hlo : lo ≤ w.heap.size) (hm : ResM v m ∈ rs) :
    Calls Try.prog 163 #[.pointer (some ⟨cb, 0, none⟩), v] w fun e w' => ∃ v' : Value, e = .returned v' ∧ ∃ (m' : List (List Int)) (ss : List Res), HasM (ss ++ rs) v' m' ∧ Cur lo w' cb K xs.length (ss ++ rs) ∧ Below lo w w' := by
  have HK := Lib.hid hK
  have HC0 := Lib.hid (show Cur lo w cb K xs.length ([] ++ rs) from hc)
  have HB0 := Lib.hid (Below.refl lo w)
  have HM0 := Lib.hid (show ResM v m ∈ [] ++ rs from hm)
  have Hlo := Lib.hid hlo
  obtain ⟨a0, c0, hv, -⟩ := (hc.tabOf hm).shape
  obtain ⟨n0, hn0⟩ : ∃ n, n = m.length := ⟨_, rfl⟩
  rw [← hn0] at hv
  subst hv
  clear hK hc hm hlo
  have HN0 := Lib.hid hn0
  clear hn0
  go_enter Try.func163, Try.ntmps163
  go_wp2
  go_loopg [1, 5] 2 (fun g mv nv wr => ∃ (k : Nat) (a : Option Addr) (n c : Nat) (m : List (List Int)) (ss : List Res), mv = .slice a n c ∧ nv = .int .i64 k ∧ k + g = 2 ∧ Hid (n = m.length) ∧ Hid (ResM (.slice a n c) m ∈ ss ++ rs) ∧ Hid (Cur lo wr cb K xs.length (ss ++ rs)) ∧ Hid (Below lo w wr))
  case atStart => exact ⟨0, a0, n0, c0, m, [], rfl, rfl, by omega, HN0, HM0, HC0, HB0⟩
  case round =>
    clear HN0 HM0 HC0 HB0
    obtain ⟨k, a, n, c, m, ss, rfl, rfl, hk, HN, HM, HC, HB⟩ := hrel
    obtain ⟨wB, rfl⟩ : ∃ x, x = wr := ⟨_, rfl⟩
    by_cases hk2 : k < 2
    · have hki : (k : Int) < 2 := by omega
      obtain ⟨g, rfl⟩ : ∃ x, gk = x + 1 := ⟨gk - 1, by omega⟩
      have hnl := (HC.out.tabOf HM.out).len
      rw [← HN.out] at hnl
      by_cases h4 : 4 < n
      · have h4i : (n : Int) > 4 := by omega
        go_wp2
        go_ret
        exact ⟨_, rfl, m, ss, HM.out, HC.out, HB.out⟩
      have h4i : ¬ ((n : Int) > 4) := by omega
      have HIs := Lib.hid (spec_IsMatrix_c (HC.out.tabOf HM.out))
      cases him : isMat m with
      | false =>
        rw [him] at HIs
        go_wp2_with fail
        (with_reducible refine HIs.out.mono ?_)
        rintro e w9 ⟨rfl, hw9⟩
        rw [← hw9]
        clear hw9 w9
        go_wp2
        go_ret
        exact ⟨_, rfl, m, ss, HM.out, HC.out, HB.out⟩
      | true =>
      rw [him] at HIs
      go_wp2_with fail
      (with_reducible refine HIs.out.mono ?_)
      rintro e w9 ⟨rfl, hw9⟩
      rw [← hw9]
      clear hw9 w9 HIs
      have hsq := isMat_sq him
      have hn1 : 1 ≤ n := by rw [HN.out]; exact hsq.2.1
      have hz : lo ≤ wB.heap.size := Nat.le_trans Hlo.out HB.out.size
      have HP := Lib.hid (l1Below_c (N := n) (fun w' hb => HK.out w' (HB.out.trans hb)) HC.out hz hn1 (by omega))
      obtain ⟨mb, mo, mc, hmv, -, -⟩ := (HC.out.tabOf HM.out).entAt rfl hsq.1.2 hsq.2.1
      simp only [Value.slice.injEq] at hmv
      obtain ⟨rfl, -, rfl⟩ := hmv
      have Hsq := Lib.hid hsq
      have Him := Lib.hid him
      clear hsq him hnl
      go_wp2_with fail
      (with_reducible refine HP.out.mono ?_)
      rintro e w1 ⟨i, rfl, hi, hc, hb, -⟩
      have HB1 := Lib.hid (HB.out.trans hb)
      have hz1 : lo ≤ w1.heap.size := Nat.le_trans hz hb.size
      have HC1 := Lib.hid (hc.new (OInts.kept 3).held ((Below.refl w1.heap.size w1).alloc (Nat.le_refl _) (.cells #[] 3)) hz1 (New.empty w1 (Nat.le_refl _)))
      have HBa := Lib.hid (HB1.out.alloc hz1 (.cells #[] 3))
      clear hc hb HP HC HB hz HB1
      have hii : (i : Int) < (n : Int) := by omega
      go_wp2
      go_loopg [7, 8] n (fun g2 pv jv wr => ∃ (j : Nat) (pa : Option Addr) (pc : Nat) (P : List Int), pv = .slice pa j pc ∧ jv = .int .i64 j ∧ j + g2 = n ∧ Hid (P.length = j) ∧ Hid (Cur lo wr cb K xs.length (Res.ints 3 (.slice pa j pc) P :: (ss ++ rs))) ∧ Hid (Below lo w wr))
      case atStart => exact ⟨0, _, 0, [], rfl, rfl, by omega, Lib.hid rfl, HC1, HBa⟩
      case round =>
        clear HC1 HBa hz1
        obtain ⟨j, pa, pc, P, rfl, rfl, hj, HPl, HC, HB⟩ := hrel
        obtain ⟨w2, rfl⟩ : ∃ x, x = wr := ⟨_, rfl⟩
        have hz : lo ≤ w2.heap.size := Nat.le_trans Hlo.out HB.out.size
        by_cases hjn : j < n
        · have hji : (j : Int) < (n : Int) := by omega
          obtain ⟨g2, rfl⟩ : ∃ x, gk = x + 1 := ⟨gk - 1, by omega⟩
          obtain ⟨mb', mo', mc', hmv, -, he⟩ := (HC.out.tabOf (List.mem_cons_of_mem _ HM.out)).entAt rfl Hsq.out.1.2 Hsq.out.2.1
          simp only [Value.slice.injEq, Option.some.injEq, Addr.mk.injEq] at hmv
          obtain ⟨⟨rfl, rfl, -⟩, -, -⟩ := hmv
          obtain ⟨b', o', c', gr, hb', -, gx⟩ := he.at (i := i) (by rw [← HN.out]; exact hi) Hsq.out.2.1
          have gxj := gx j (by rw [← HN.out]; exact hjn)
          have hx0 : 0 ≤ ent m i j := by
            obtain ⟨r, hr, hx⟩ := ent_mem Hsq.out.1.2 (i := i) (j := j) (by rw [← HN.out]; exact hi) (by rw [← HN.out]; exact hjn)
            exact (isMat_bd Him.out r hr _ hx).1
          rw [← HN.out] at gr
          have HMin := Lib.hid (l1Min_9 (ent m i j) hx0)
          generalize ent m i j = x at gxj HMin
          clear gx he hb' hx0
          have HBy := Lib.hid (fun w' hb => HK.out w' (HB.out.trans hb))
          go_wp2_with fail
          (with_reducible refine (HMin.out _).mono ?_)
          rintro e w9 ⟨y, hy, rfl, hw9⟩
          rw [← hw9]
          clear hw9 w9 HMin
          have HMax := Lib.hid (l1Max_z (b := (y : Int)) (by omega) w2)
          go_wp2_with fail
          (with_reducible refine HMax.out.mono ?_)
          rintro e w9 ⟨rfl, hw9⟩
          rw [← hw9]
          clear hw9 w9 HMax
          have HP := Lib.hid (l1Below_i (z := 1 + (y : Int)) HBy.out HC.out hz (by omega) (by omega))
          go_wp2_with fail
          (with_reducible refine HP.out.mono ?_)
          rintro e w3 ⟨t, rfl, ht, hc, hb, -⟩
          have hz3 : lo ≤ w3.heap.size := Nat.le_trans hz hb.size
          obtain ⟨pa', pc', w5, hr5, hc5, hb5⟩ := hc.pushInt hz3 (t : Int) (by have := HPl.out; omega)
          rw [HPl.out] at hr5 hc5
          have Hr5 := Lib.hid hr5
          have HC5 := Lib.hid hc5
          have HB5 := Lib.hid ((HB.out.trans hb).trans hb5)
          have HPl5 := Lib.hid (show (P ++ [(t : Int)]).length = j + 1 from by simp [HPl.out])
          clear hc hb hr5 hc5 hb5 HP HBy gxj gr HC HB
          go_wp2_with (at_builtin; refine wpl_append_run rfl (.tmp 35) (.tmp 48) 33 rfl rfl rfl Hr5.out ?_)
          go_roundg g2
          case measure => omega
          case rel => exact ⟨j + 1, pa', pc', P ++ [(t : Int)], rfl, by go_num, by omega, HPl5, HC5, HB5⟩
        · have hji : ¬ ((j : Int) < (n : Int)) := by omega
          have HSp := Lib.hid (spec_SplitOut_c (i := (i : Int)) (HC.out.tabOf (List.mem_cons_of_mem _ HM.out)) (HC.out.intsOf (List.mem_cons_self)))
          go_wp2_with fail
          (with_reducible refine HSp.out.mono ?_)
          rintro e w3 ⟨vn, rfl, hn, hb⟩
          have HC3 := Lib.hid (HC.out.new (OTab.kept 3 33).held hb hz hn)
          have HB3 := Lib.hid (HB.out.trans (hb.mono hz))
          have hz3 : lo ≤ w3.heap.size := Nat.le_trans hz hb.size
          obtain ⟨an, cn, rfl, -⟩ := hn.tab.shape
          clear hn hb HSp HC HB hz
          obtain ⟨ok, hok⟩ : ∃ ok, ok = splitOk m i P := ⟨_, rfl⟩
          rw [← hok]
          clear hok
          have HM3 := Lib.hid (show ResM (.slice (some ⟨mb, mo, none⟩) n c) m ∈ (ResM (.slice an (splitV m i P).length cn) (splitV m i P) :: Res.ints 3 (.slice pa j pc) P :: ss) ++ rs from by
            rw [List.cons_append, List.cons_append]
            exact List.mem_cons_of_mem _ (List.mem_cons_of_mem _ HM.out))
          cases ok with
          | false =>
            generalize (splitV m i P).length = nl at *
            go_wp2
            go_roundg g
            case measure => omega
            case rel => exact ⟨k + 1, _, n, c, m, _, rfl, by go_num, by omega, HN, HM3, HC3, HB3⟩
          | true =>
            have HMn := Lib.hid (show ResM (.slice an (splitV m i P).length cn) (splitV m i P) ∈ (ResM (.slice an (splitV m i P).length cn) (splitV m i P) :: Res.ints 3 (.slice pa j pc) P :: ss) ++ rs from by
              rw [List.cons_append]
              exact List.mem_cons_self)
            obtain ⟨nl, hnl⟩ : ∃ nl, nl = (splitV m i P).length := ⟨_, rfl⟩
            have HNl := Lib.hid hnl
            rw [← hnl] at HMn HM3 HC3 ⊢
            clear hnl
            have HO := Lib.hid (l1Once_i (z := 2) (fun w' hb => HK.out w' (HB3.out.trans hb)) HC3.out hz3 (by omega) (by omega))
            go_wp2_with fail
            (with_reducible refine HO.out.mono ?_)
            rintro e w4 ⟨b, rfl, hc, hb, -⟩
            have HC4 := Lib.hid hc
            have HB4 := Lib.hid (HB3.out.trans hb)
            clear hc hb HO HC3 HB3 hz3
            cases b with
            | false =>
              go_wp2
              go_roundg g
              case measure => omega
              case rel => exact ⟨k + 1, _, n, c, m, _, rfl, by go_num, by omega, HN, HM3, HC4, HB4⟩
            | true =>
              go_wp2
              go_roundg g
              case measure => omega
              case rel => exact ⟨k + 1, _, nl, cn, _, _, rfl, by go_num, by omega, HNl, HMn, HC4, HB4⟩
    · have hki : ¬ ((k : Int) < 2) := by omega
      go_wp2
      go_ret
      exact ⟨_, rfl, m, ss, HM.out, HC.out, HB.out⟩
end Go.Proofs.Ytlkgkfgpnnahdaa
end

section
/-
  Joined graphs are alike in any numbering, and joining once before changes nothing: plain laws.
-/
namespace Go.Proofs.Ytlkgkfgpnnahdaa
open Go.RowKit Go.Deep Go.Sd
theorem Reach.le {M : Mx} {n : Nat} {f : Nat → Nat} {k : Nat} {N : Mx} (h : Reach M n f k N) : k ≤ n := by
  induction h with
  | base => exact Nat.le_refl _
  | step _ _ _ _ ih => omega
theorem Bdd.rename {c d : Mx} {n : Nat} {p q : Nat → Nat} (hi : Inv n p q) (he : ∀ i j, i < n → j < n → ent c i j = ent d (p i) (p j)) (h : Bdd c n) : Bdd d n := by
  have he' : ∀ i j, i < n → j < n → ent d i j = ent c (q i) (q j) := fun i j hi' hj => by
    rw [he _ _ (hi.2 i hi').1 (hi.2 j hj).1, (hi.2 i hi').2, (hi.2 j hj).2]
  refine ⟨fun i b hi' hb => by rw [he' i b hi' hb]; exact h.1 _ _ (hi.2 i hi').1 (hi.2 b hb).1, h.2.1, ?_⟩
  rcases h.2.2 with h1 | ⟨v, h1⟩
  · refine Or.inl fun b hb => ?_
    have h2 := sumN_perm hi.symm fun i => ent c i (q b)
    rw [show sumN n (fun i => ent d i b) = sumN n (fun i => ent c (q i) (q b)) from sumN_congr fun i hi' => he' i b hi' hb, h2]
    exact h1 _ (hi.2 b hb).1
  · refine Or.inr ⟨p v, fun i b hi' hb hne => ?_⟩
    rw [he' i b hi' hb]
    refine h1 _ _ (hi.2 i hi').1 (hi.2 b hb).1 ?_
    rcases hne with hne | hne
    · exact Or.inl fun e => hne (by rw [← e, (hi.2 i hi').2])
    · exact Or.inr fun e => hne (by rw [← e, (hi.2 b hb).2])
theorem alike_of {k k' : Nat} {N L : Mx} (h1 : isMat N = true) (h2 : isMat L = true) (hk : N.length = k) (hk' : L.length = k') (h6 : k ≤ 6) (h : Alk k N k' L) : alikeM N L = true :=
  alikeM_iff.2 ⟨h1, h2, by omega, by rw [hk, hk']; exact h⟩
/-- All joined graphs of graphs that are alike are alike. -/
theorem joinAll_alike {c d : Mx} (hc : isMat c = true) (hd : isMat d = true) (h6 : c.length ≤ 6) (hb : Bdd c c.length) (h : Alk c.length c d.length d) : alikeM (joinAllV c) (joinAllV d) = true := by
  have sc := (isMat_sq hc).1
  have sd := (isMat_sq hd).1
  obtain ⟨hl, p, q, hi, he⟩ := h
  rw [← hl] at sd
  have hbd := hb.rename hi he
  obtain ⟨f, k, hr1, hm1, hj1⟩ := joinIter_reach sc c.length Reach.base hc (Nat.le_refl _)
  obtain ⟨g, k', hr2, hm2, hj2⟩ := joinIter_reach sd d.length Reach.base hd (by omega)
  unfold joinAllV
  rw [if_pos hc, if_pos hd]
  exact alike_of hm1 hm2 (hr1.quot sc).sq.1 (hr2.quot sd).sq.1 (by have := hr1.le; omega) (Reach.rename_ker sc sd hi he hr1 hr2 (hb.nrm sc hr1 hm1 hj1) (hbd.nrm sd hr2 hm2 hj2))
/-- Joining once before changes nothing. -/
theorem joinOnce_alike {m : Mx} {i j : Int} (hj : joinOk m i j = true) (h6 : m.length ≤ 6) (hb : Bdd m m.length) : alikeM (joinAllV m) (joinAllV (joinV m i j)) = true := by
  have hm : isMat m = true := by unfold joinOk at hj; rw [Bool.and_eq_true, Bool.and_eq_true, Bool.and_eq_true] at hj; exact hj.1.1.1
  have sm := (isMat_sq hm).1
  have hij : 0 ≤ i ∧ i < j ∧ j < m.length := by unfold joinOk at hj; rw [Bool.and_eq_true, Bool.and_eq_true, Bool.and_eq_true] at hj; exact of_decide_eq_true hj.1.1.2
  obtain ⟨a, rfl⟩ := Int.eq_ofNat_of_zero_le hij.1
  obtain ⟨b, rfl⟩ := Int.eq_ofNat_of_zero_le (show 0 ≤ j by omega)
  have h1 := joinOk_nat.1 hj
  have hv : joinV m (a : Int) (b : Int) = joinT m a b m.length := by unfold joinV; rw [if_pos hj, Int.toNat_natCast, Int.toNat_natCast]
  have hx : isMat (joinV m (a : Int) (b : Int)) = true := by rw [hv]; exact h1.2.2.2
  have hr := Reach.base (M := m) (n := m.length) |>.step h1.2.1.1 h1.2.1.2 h1.2.2.1
  rw [← hv] at hr
  obtain ⟨f, k, hr1, hm1, hj1⟩ := joinIter_reach sm m.length Reach.base hm (Nat.le_refl _)
  obtain ⟨g, k', hr2, hm2, hj2⟩ := joinIter_reach sm (joinV m (a : Int) (b : Int)).length hr hx (by rw [(hr.quot sm).sq.1]; exact Nat.le_refl _)
  have e1 : joinAllV m = joinIter m.length m := by unfold joinAllV; rw [if_pos hm]
  have e2 : joinAllV (joinV m (a : Int) (b : Int)) = joinIter (joinV m (a : Int) (b : Int)).length (joinV m (a : Int) (b : Int)) := by unfold joinAllV; rw [if_pos hx]
  rw [e1, e2]
  exact alike_of hm1 hm2 (hr1.quot sm).sq.1 (hr2.quot sm).sq.1 (by have := hr1.le; omega) (Reach.conf sm hr1 hr2 (hb.nrm sm hr1 hm1 hj1) (hb.nrm sm hr2 hm2 hj2))
/-- A graph that is joined until nothing is left is joined, and stays. -/
theorem joinAll_joined {m : Mx} (hm : isMat m = true) : joinedM (joinAllV m) = true ∧ joinAllV (joinAllV m) = joinAllV m := by
  have sm := (isMat_sq hm).1
  obtain ⟨f, k, hr1, hm1, hj1⟩ := joinIter_reach sm m.length Reach.base hm (Nat.le_refl _)
  have e1 : joinAllV m = joinIter m.length m := by unfold joinAllV; rw [if_pos hm]
  rw [e1]
  generalize joinIter m.length m = x at hm1 hj1
  refine ⟨by unfold joinedM; rw [hm1, hj1]; rfl, ?_⟩
  unfold joinAllV
  rw [if_pos hm1, joinIter_none hj1]
end Go.Proofs.Ytlkgkfgpnnahdaa
end

section
/-
  The sum of a matrix, graphs, the arcs of a graph, both sides.
-/
namespace Go.Proofs.Ytlkgkfgpnnahdaa
open Go.RowKit Go.Deep Go.Sd
set_option linter.unusedSimpArgs false
def tot (r : List Int) : Nat → Int
  | 0 => 0
  | j + 1 => tot r j + r.getD j 0
def sumK (m : List (List Int)) : Nat → Int
  | 0 => 0
  | k + 1 => sumK m k + tot (m.getD k []) (m.getD k []).length
def sumV (m : List (List Int)) : Int := if isMat m = true then sumK m m.length else -1
def graphM (m : List (List Int)) : Bool := isMat m && decide (sumV m ≤ 60)
theorem tot_bd {r : List Int} (h : ∀ x, x ∈ r → 0 ≤ x ∧ x ≤ 1000000) : ∀ j, j ≤ r.length → 0 ≤ tot r j ∧ tot r j ≤ (j : Int) * 1000000
  | 0, _ => by simp [tot]
  | j + 1, hj => by
    have h1 := tot_bd h j (by omega)
    have h2 := h r[j] (List.getElem_mem (by omega))
    have e : r.getD j 0 = r[j]'(by omega) := by simp [List.getD, show j < r.length by omega]
    rw [tot, e]
    omega
theorem sumK_bd {m : List (List Int)} (h : isMat m = true) : ∀ k, k ≤ m.length → 0 ≤ sumK m k ∧ sumK m k ≤ (k : Int) * 9000000
  | 0, _ => by simp [sumK]
  | k + 1, hk => by
    have h1 := sumK_bd h k (by omega)
    obtain ⟨hs, h0, h9⟩ := isMat_sq h
    have hb := isMat_bd h
    have hm : m[k]'(by omega) ∈ m := List.getElem_mem _
    have e : m.getD k [] = m[k]'(by omega) := by simp [List.getD, show k < m.length by omega]
    have hl := hs.2 _ hm
    have h2 := tot_bd (hb _ hm) _ (Nat.le_refl _)
    rw [sumK, e]
    rw [hl] at h2 ⊢
    omega
/-- The arcs. -/
def arcR (i : Nat) (r : List Int) : Nat → List (List Int)
  | 0 => []
  | j + 1 => arcR i r j ++ List.replicate (r.getD j 0).toNat [(i : Int), (j : Int)]
def arcT (m : List (List Int)) : Nat → List (List Int)
  | 0 => []
  | k + 1 => arcT m k ++ arcR k (m.getD k []) (m.getD k []).length
def arcsV (m : List (List Int)) : List (List Int) := if graphM m = true then arcT m m.length else []
theorem arcR_len {i : Nat} {r : List Int} (h : ∀ x, x ∈ r → 0 ≤ x ∧ x ≤ 1000000) : ∀ j, j ≤ r.length → (arcR i r j).length ≤ j * 1000000
  | 0, _ => by simp [arcR]
  | j + 1, hj => by
    have h1 := arcR_len (i := i) h j (by omega)
    have h2 := h r[j] (List.getElem_mem (by omega))
    have e : r.getD j 0 = r[j]'(by omega) := by simp [List.getD, show j < r.length by omega]
    rw [arcR, e, List.length_append, List.length_replicate]
    omega
theorem arcT_len {m : List (List Int)} (h : isMat m = true) : ∀ k, k ≤ m.length → (arcT m k).length ≤ k * 9000000
  | 0, _ => by simp [arcT]
  | k + 1, hk => by
    have h1 := arcT_len h k (by omega)
    obtain ⟨hs, h0, h9⟩ := isMat_sq h
    have hb := isMat_bd h
    have hm : m[k]'(by omega) ∈ m := List.getElem_mem _
    have e : m.getD k [] = m[k]'(by omega) := by simp [List.getD, show k < m.length by omega]
    have hl := hs.2 _ hm
    have h2 := arcR_len (i := k) (hb _ hm) _ (Nat.le_refl _)
    rw [arcT, e, List.length_append]
    rw [hl] at h2 ⊢
    omega
theorem arcR_two (i : Nat) (r : List Int) : ∀ j x, x ∈ arcR i r j → x.length = 2
  | 0, x, h => by simp [arcR] at h
  | j + 1, x, h => by
    rcases List.mem_append.1 h with h | h
    · exact arcR_two i r j x h
    · rw [(List.mem_replicate.1 h).2]; rfl
theorem arcT_two (m : List (List Int)) : ∀ k x, x ∈ arcT m k → x.length = 2
  | 0, x, h => by simp [arcT] at h
  | k + 1, x, h => by
    rcases List.mem_append.1 h with h | h
    · exact arcT_two m k x h
    · exact arcR_two _ _ _ x h
theorem rep_snoc {α : Type} (k : Nat) (x : α) : List.replicate k x ++ [x] = List.replicate (k + 1) x := by rw [List.replicate_succ']
set_option maxHeartbeats 1000000 in
theorem spec_SumOf_c {w : World} {v : Value} {m : List (List Int)} (h : Tab w v m) :
    Calls Try.prog 29 #[v] w fun e w' => e = .returned (.int .i64 (sumV m)) ∧ w = w' := by
  have HI := Lib.hid (spec_IsMatrix_c h)
  have HC := Lib.hid (fun k r (hr : m[k]? = some r) => h.rowOf hr)
  obtain ⟨a, c, rfl, -⟩ := h.shape
  have HV := Lib.hid (show sumV m = if isMat m = true then sumK m m.length else -1 from rfl)
  generalize sumV m = R at HV ⊢
  clear h
  cases him : isMat m with
  | false =>
    have HF := Lib.hid (show R = -1 from by rw [HV.out, if_neg (by rw [him]; simp)])
    rw [him] at HI
    clear HV him HC
    go_enter Try.func29, Try.ntmps29
    go_wp2_with fail
    (with_reducible refine HI.out.mono ?_)
    rintro e w9 ⟨rfl, hw9⟩
    rw [← hw9]
    clear hw9 w9
    go_wp2
    go_ret
    exact ⟨by rw [HF.out]; rfl, rfl⟩
  | true =>
  have HF := Lib.hid (show R = sumK m m.length from by rw [HV.out, if_pos him])
  obtain ⟨hs, h0, h9⟩ := isMat_sq him
  have Hl := Lib.hid (fun k r (hr : m[k]? = some r) => hs.2 r (List.mem_of_getElem? hr))
  have Hb := Lib.hid (fun k r (hr : m[k]? = some r) => (show (∀ x : Int, x ∈ r → 0 ≤ x ∧ x ≤ 1000000) ∧ r.length ≤ 9 from ⟨isMat_bd him r (List.mem_of_getElem? hr), by rw [hs.2 r (List.mem_of_getElem? hr)]; exact h9⟩))
  have HB := Lib.hid (fun k (hk : k ≤ m.length) => sumK_bd him k hk)
  have HS := Lib.hid (fun k r (hr : m[k]? = some r) => (show sumK m (k + 1) = sumK m k + tot r r.length from by rw [sumK]; simp [List.getD, hr]))
  have HTb := Lib.hid (fun k r (hr : m[k]? = some r) j (hj : j ≤ r.length) => tot_bd (Hb.out k r hr).1 j hj)
  rw [him] at HI
  obtain ⟨n, hn⟩ : ∃ n, n = m.length := ⟨_, rfl⟩
  have Hn := Lib.hid hn
  rw [← hn] at HI HB HF h9 Hl ⊢
  clear HV him hs h0 hn
  go_enter Try.func29, Try.ntmps29
  go_wp2_with fail
  (with_reducible refine HI.out.mono ?_)
  rintro e w9 ⟨rfl, hw9⟩
  rw [← hw9]
  clear hw9 w9
  go_wp2
  go_loopg [3, 4] n (fun g sv iv wr => ∃ (k : Nat) (S : Int), sv = .int .i64 S ∧ iv = .int .i64 k ∧ k + g = n ∧ Hid (S = sumK m k) ∧ wr = w)
  case atStart => exact ⟨0, 0, rfl, rfl, by omega, Lib.hid rfl, rfl⟩
  case round =>
    obtain ⟨k, S, rfl, rfl, hk, hS, rfl⟩ := hrel
    by_cases hkn : k < n
    · have hki : (k : Int) < (n : Int) := by omega
      obtain ⟨g, rfl⟩ : ∃ x, gk = x + 1 := ⟨gk - 1, by omega⟩
      obtain ⟨r, hr, -⟩ := at_lt (xs := m) (k := k) (by have := Hn.out; omega)
      obtain ⟨b, o, c2, ra, rc, hv, -, g0, hri⟩ := HC.out k r hr
      simp only [Value.slice.injEq] at hv
      obtain ⟨rfl, -, rfl⟩ := hv
      have h1 := HB.out k (by omega)
      have HTr := Lib.hid (HTb.out k r hr)
      have h3 := HS.out k r hr
      have hrl := Hl.out k r hr
      have Hrb := Lib.hid (Hb.out k r hr).1
      have Hri := Lib.hid hri
      have Hrl := Lib.hid hrl
      have HSk := Lib.hid h3
      rw [hrl] at g0
      obtain ⟨S0, hS0⟩ : ∃ S0, S0 = S := ⟨_, rfl⟩
      have hS0b : 0 ≤ S0 ∧ S0 ≤ 81000000 := by rw [hS0, hS.out]; omega
      have HS0 := Lib.hid (show S0 = sumK m k from by rw [hS0]; exact hS.out)
      have HS1 := Lib.hid (show S = S0 + tot r 0 from by rw [hS0]; simp [tot])
      clear hr h1 h3 hS hri hrl hS0
      go_wp2
      go_loopg [3, 5] n (fun g2 sv jv wr2 => ∃ (j : Nat) (S : Int), sv = .int .i64 S ∧ jv = .int .i64 j ∧ j + g2 = n ∧ Hid (S = S0 + tot r j) ∧ wr2 = wr)
      case atStart => exact ⟨0, S, rfl, rfl, by omega, HS1, rfl⟩
      case round =>
        clear HS1
        obtain ⟨j, S, rfl, rfl, hj, hS, rfl⟩ := hrel
        by_cases hjn : j < n
        · have hji : (j : Int) < (n : Int) := by omega
          obtain ⟨g2, rfl⟩ : ∃ x, gk = x + 1 := ⟨gk - 1, by omega⟩
          obtain ⟨x, hx, -⟩ := at_lt (xs := r) (k := j) (by have := Hrl.out; omega)
          obtain ⟨b2, o2, c2, hv, -, gx⟩ := Hri.out.elOf hx
          simp only [Value.slice.injEq] at hv
          obtain ⟨rfl, -, rfl⟩ := hv
          have h1 := HTr.out j (by have := Hrl.out; omega)
          have h2 := Hrb.out x (List.mem_of_getElem? hx)
          have HS2 := Lib.hid (show S + x = S0 + tot r (j + 1) from by rw [tot, hS.out]; simp [List.getD, hx]; omega)
          have hSb : 0 ≤ S ∧ S ≤ 100000000 := by rw [hS.out]; omega
          have hw : IntKind.i64.wrap (S + x) = S + x := IntWalk.i64_in _ (by omega)
          clear hx h1 hS
          go_wp2
          go_roundg g2
          case measure => omega
          case rel => exact ⟨j + 1, S + x, rfl, by go_num, by omega, HS2, rfl⟩
        · have hji : ¬ ((j : Int) < (n : Int)) := by omega
          have HF3 := Lib.hid (show S = sumK m (k + 1) from by rw [hS.out, HSk.out, HS0.out, Hrl.out, show n = j from by omega])
          clear hS
          go_wp2
          go_roundg g
          case measure => omega
          case rel => exact ⟨k + 1, S, rfl, by go_num, by omega, HF3, rfl⟩
    · have hki : ¬ ((k : Int) < (n : Int)) := by omega
      have HF2 := Lib.hid (show R = S from by rw [HF.out, hS.out, show n = k from by omega])
      clear hS HF
      go_wp2
      go_ret
      exact ⟨by rw [HF2.out]; rfl, rfl⟩
theorem two_new (w : World) (x y : Int) : New (OInts 3) w.heap.size (w.alloc (.cells #[.int .i64 x, .int .i64 y] 3)) (.slice (some ⟨w.heap.size, 0, none⟩) 2 2) [x, y] := by
  refine ⟨[w.heap.size], ⟨[.int .i64 x, .int .i64 y], [[], []], ⟨by simp, .inr ⟨w.heap.size, 2, #[.int .i64 x, .int .i64 y], rfl, Nat.zero_le _, heap_alloc_new w _, Nat.le_refl _, by simp [maxLen], by simp, by simp⟩⟩, rfl, ?_, by simp [Value.ownBlock]⟩, by simp [Fresh]⟩
  intro i u z G hu hz hG
  match i, hu, hz, hG with
  | 0, hu, hz, hG => simp at hu hz hG; subst hu hz hG; exact ⟨rfl, rfl⟩
  | 1, hu, hz, hG => simp at hu hz hG; subst hu hz hG; exact ⟨rfl, rfl⟩
end Go.Proofs.Ytlkgkfgpnnahdaa
end

section
/-
  FnJoins, the plain law's parts: what is drawn is small; sums and traces of graphs that are alike.
-/
namespace Go.Proofs.Ytlkgkfgpnnahdaa
open Go.RowKit Go.Deep Go.Sd
theorem Bent9.bdd {m : Mx} (h : Bent9 m) (hm : isMat m = true) : Bdd m m.length := by
  have hs := (isMat_sq hm)
  refine ⟨fun i b hi hb => (isMat_ent hs.1 hm hi hb).1, hs.2.2, Or.inr ⟨0, fun i b hi hb hne => ?_⟩⟩
  obtain ⟨r, hr, -⟩ := at_lt (xs := m) hi
  have hrl : r.length = m.length := hs.1.2 r (List.mem_of_getElem? hr)
  obtain ⟨x, hx, -⟩ := at_lt (xs := r) (k := b) (by omega)
  have h3 : ent m i b = x := by simp [ent, List.getD, hr, hx]
  rw [h3]
  exact h.2.1 i b r x hr hx hne
theorem tot_sumN (r : List Int) : ∀ j, tot r j = sumN j fun b => r.getD b 0
  | 0 => rfl
  | j + 1 => by rw [tot, sumN, tot_sumN r j]
theorem sumK_sumN (m : Mx) : ∀ k, sumK m k = sumN k fun i => tot (m.getD i []) (m.getD i []).length
  | 0 => rfl
  | k + 1 => by rw [sumK, sumN, sumK_sumN m k]
theorem sumV_sumN {m : Mx} (hm : isMat m = true) : sumV m = sumN m.length fun i => sumN m.length fun j => ent m i j := by
  have hs := (isMat_sq hm).1
  unfold sumV
  rw [if_pos hm, sumK_sumN]
  refine sumN_congr fun i hi => ?_
  have hl : (m.getD i []).length = m.length := by
    obtain ⟨r, hr, -⟩ := at_lt (xs := m) hi
    simp only [List.getD, hr, Option.getD_some]
    exact hs.2 r (List.mem_of_getElem? hr)
  rw [tot_sumN, hl]
  rfl
def trV (m : Mx) : Int := if isMat m = true then sumN m.length (fun k => ent m k k) else -1
theorem Alk.sums {a b : Mx} (ha : isMat a = true) (hb : isMat b = true) (h : Alk a.length a b.length b) : sumV a = sumV b ∧ trV a = trV b := by
  obtain ⟨hl, p, q, hi, he⟩ := h
  constructor
  · rw [sumV_sumN ha, sumV_sumN hb, ← hl, ← sumN_perm hi fun i => sumN a.length fun j => ent b i j]
    refine sumN_congr fun i hi' => ?_
    show _ = sumN a.length fun j => ent b (p i) j
    rw [← sumN_perm hi fun j => ent b (p i) j]
    exact sumN_congr fun j hj => he i j hi' hj
  · unfold trV
    rw [if_pos ha, if_pos hb, ← hl, ← sumN_perm hi fun k => ent b k k]
    exact sumN_congr fun k hk => he k k hk hk
theorem bdd_of_sum {m : Mx} (hm : isMat m = true) (h : sumV m ≤ 1000) : Bdd m m.length := by
  have hs := isMat_sq hm
  have h0 : ∀ i b, i < m.length → b < m.length → 0 ≤ ent m i b := fun i b hi hb => (isMat_ent hs.1 hm hi hb).1
  refine ⟨h0, hs.2.2, Or.inl fun b hb => ?_⟩
  rw [sumV_sumN hm] at h
  have h1 := sumN_le (n := m.length) (f := fun i => ent m i b) (g := fun i => sumN m.length fun j => ent m i j) fun i hi => sumN_term hb fun j hj => h0 i j hi hj
  omega
/-- FnJoins' laws on plain matrices. -/
theorem joins_law2 {m : Mx} {i j : Int} (hj : joinOk m i j = true) (h6 : m.length ≤ 6) (hs : sumV m ≤ 1000) : alikeM (joinAllV m) (joinAllV (joinV m i j)) = true := by
  have hm : isMat m = true := by unfold joinOk at hj; rw [Bool.and_eq_true, Bool.and_eq_true, Bool.and_eq_true] at hj; exact hj.1.1.1
  exact joinOnce_alike hj h6 (bdd_of_sum hm hs)
theorem joins_law3 {a b : Mx} (h9 : Bent9 a) (h : alikeM a b = true) : alikeM (joinAllV a) (joinAllV b) = true ∧ sumV a = sumV b ∧ trV a = trV b := by
  obtain ⟨ha, hb, h6, hk⟩ := alikeM_iff.1 h
  exact ⟨joinAll_alike ha hb h6 (h9.bdd ha) hk, hk.sums ha hb⟩
end Go.Proofs.Ytlkgkfgpnnahdaa
end

section
/-
  The draws of the joins, the second part.
-/
namespace Go.Proofs.Ytlkgkfgpnnahdaa
open Go.RowKit Go.Deep Go.Sd
set_option linter.unusedSimpArgs false
set_option maxHeartbeats 4000000 in
set_option maxRecDepth 100000 in
theorem l18Case_c {w : World} {vc : Value} {xs : List Int} (h : BytR w vc xs) :
    Calls Try.prog 75 #[vc] w fun e w' => ∃ (v : Value) (i j : Int), e = .returned (.tuple #[v, .int .i64 i, .int .i64 j]) ∧ ∃ m : List (List Int), Tab w' v m ∧ Below w.heap.size w w' := by
  have HN := Lib.hid (l1New_c h)
  have HK := Lib.hid (fun w' (hb : Below w.heap.size w w') => BytR.frame _ _ _ _ h hb)
  obtain ⟨a, c, rfl, -⟩ := h.cellsB
  clear h
  go_enter Try.func75, Try.ntmps75
  go_wp2_with fail
  (with_reducible refine HN.out.mono ?_)
  rintro e w1 ⟨rfl, ⟨hh, hs⟩, hb⟩
  have HB := Lib.hid hb
  have HL := Lib.hid (l4Bent_c (cb := w.heap.size) (lo := w.heap.size) (rs := []) (K := .slice a xs.length c) (xs := xs) (w := w1) (fun w' hb' => HK.out w' (hb.trans hb')) ⟨0, hh, Nat.zero_le _, hs⟩ hb.size)
  clear hs hb HN
  go_wp2_with fail
  (with_reducible refine HL.out.mono ?_)
  rintro e w2 ⟨v0, rfl, m0, -, hc, hb⟩
  have HB2 := Lib.hid (HB.out.trans hb)
  have hz2 : w.heap.size ≤ w2.heap.size := HB2.out.size
  have HS := Lib.hid (l18Split_c (fun w' hb' => HK.out w' (HB2.out.trans hb')) hc hz2 (v := v0) (m := m0) (by simp))
  obtain ⟨a0, c0, rfl, -⟩ := (hc.out.headNew).tab.shape
  clear hc hb HB HL
  generalize m0.length = n0 at HS
  go_wp2_with fail
  (with_reducible refine HS.out.mono ?_)
  rintro e w3 ⟨v, rfl, m, ss, hm, hc, hb⟩
  replace hm : ResM v m ∈ _ := hm
  have HB3 := Lib.hid (HB2.out.trans hb)
  obtain ⟨ma, mc, rfl, hnl, -, hcell⟩ := (hc.tabOf hm).shape
  generalize hrs : ss ++ [ResM (.slice a0 n0 c0) m0] = rs at hc hm
  clear hrs ss hb HS HB2 hz2
  generalize hn' : m.length = n at hc hm hnl ⊢
  have hn := hn'.symm
  clear hn'
  have HC3 := Lib.hid hc
  have HM := Lib.hid hm
  have HNn := Lib.hid hn
  have hnb := (hc.tabOf hm).len
  rw [← hn] at hnb
  clear hc hm hcell hn
  go_wp2
  go_loopg [7] n (fun g iv wr => ∃ i : Nat, iv = .int .i64 i ∧ i + g = n ∧ Hid (Cur w.heap.size wr w.heap.size (.slice a xs.length c) xs.length rs) ∧ Hid (Below w.heap.size w wr))
  case atStart => exact ⟨0, rfl, by omega, HC3, HB3⟩
  case round =>
    clear HC3 HB3
    obtain ⟨i, rfl, hi, HC, HB⟩ := hrel
    obtain ⟨wB, rfl⟩ : ∃ x, x = wr := ⟨_, rfl⟩
    have hz : w.heap.size ≤ wB.heap.size := HB.out.size
    have Hend := Lib.hid (fun (wE : World) (hcE : Cur w.heap.size wE w.heap.size (.slice a xs.length c) xs.length rs) (hbE : Below w.heap.size w wE) => l1Below_i (z := 4) (fun w' hb => HK.out w' (hbE.trans hb)) hcE hbE.size (by omega) (by omega))
    have Hend2 := Lib.hid (fun (wE : World) (hcE : Cur w.heap.size wE w.heap.size (.slice a xs.length c) xs.length rs) (hbE : Below w.heap.size w wE) => l1Below_i (z := 5) (fun w' hb => HK.out w' (hbE.trans hb)) hcE hbE.size (by omega) (by omega))
    by_cases hin : i < n
    · have hii : (i : Int) < (n : Int) := by omega
      obtain ⟨g, rfl⟩ : ∃ x, gk = x + 1 := ⟨gk - 1, by omega⟩
      have HO := Lib.hid (l1Once_i (z := 4) (fun w' hb => HK.out w' (HB.out.trans hb)) HC.out hz (by omega) (by omega))
      go_wp2_with fail
      (with_reducible refine HO.out.mono ?_)
      rintro e w4 ⟨b, rfl, hc, hb, -⟩
      have HC4 := Lib.hid hc
      have HB4 := Lib.hid (HB.out.trans hb)
      clear hc hb HO HC HB hz
      cases b with
      | true =>
        go_wp2_with fail
        (with_reducible refine (Hend.out _ HC4.out HB4.out).mono ?_)
        rintro e w5 ⟨x, rfl, -, hc, hb, -⟩
        have HC5 := Lib.hid hc
        have HB5 := Lib.hid (HB4.out.trans hb)
        clear hc hb HC4 HB4
        go_wp2_with fail
        (with_reducible refine (Hend2.out _ HC5.out HB5.out).mono ?_)
        rintro e w6 ⟨y, rfl, -, hc, hb, -⟩
        have HC6 := Lib.hid hc
        have HB6 := Lib.hid (HB5.out.trans hb)
        clear hc hb HC5 HB5
        go_wp2
        go_ret3
        exact ⟨_, _, _, rfl, m, HC6.out.tabOf HM.out, HB6.out⟩
      | false =>
        go_wp2
        go_loopg [8] n (fun g2 jv wr => ∃ j : Nat, jv = .int .i64 j ∧ j + g2 = i + 1 + n ∧ j ≤ n ∧ Hid (Cur w.heap.size wr w.heap.size (.slice a xs.length c) xs.length rs) ∧ Hid (Below w.heap.size w wr))
        case atStart => exact ⟨i + 1, by go_num, by omega, by omega, HC4, HB4⟩
        case round =>
          clear HC4 HB4
          obtain ⟨j, rfl, hj, hjn', HC, HB⟩ := hrel
          obtain ⟨w5, rfl⟩ : ∃ x, x = wr := ⟨_, rfl⟩
          by_cases hjn : j < n
          · have hji : (j : Int) < (n : Int) := by omega
            obtain ⟨g2, rfl⟩ : ∃ x, gk = x + 1 := ⟨gk - 1, by omega⟩
            obtain ⟨ma', mc', hmv, -, -, hcell⟩ := (HC.out.tabOf HM.out).shape
            simp only [Value.slice.injEq] at hmv
            obtain ⟨rfl, -, rfl⟩ := hmv
            obtain ⟨b', o', rfl, hb', hx0⟩ := hcell (by rw [← HNn.out]; omega)
            obtain ⟨r, hr, -⟩ := at_lt (xs := m) (k := 0) (by rw [← HNn.out]; omega)
            obtain ⟨u, hu, hru⟩ := hx0 0 r hr
            obtain ⟨ra, rc, rfl, -⟩ := hru.shape
            have hrl := hru.len
            have Hr := Lib.hid hr
            obtain ⟨l, hl⟩ : ∃ l, l = r.length := ⟨_, rfl⟩
            rw [← hl] at hu hrl
            rw [Nat.add_zero] at hu
            have Hl := Lib.hid hl
            have hnpos : (0 : Int) < (n : Int) := by omega
            have hnpos' : 0 < n := by omega
            clear hx0 hru hcell hr hl hb'
            by_cases hln : l = n
            · have t1 : ((l : Int) == (n : Int)) = true := by simp [hln]
              have HIs := Lib.hid (spec_IsMatrix_c (HC.out.tabOf HM.out))
              cases him : isMat m with
              | false =>
                rw [him] at HIs
                clear him
                go_wp2_with fail
                (with_reducible refine HIs.out.mono ?_)
                rintro e w9 ⟨rfl, hw9⟩
                rw [← hw9]
                clear hw9 w9
                go_wp2
                go_roundg g2
                case measure => omega
                case rel => exact ⟨j + 1, by go_num, by omega, by omega, HC, HB⟩
              | true =>
                rw [him] at HIs
                have hsq := isMat_sq him
                have HCl := Lib.hid (l18Columns_c (I := i) (J := j) (n := n) (HC.out.tabOf HM.out) (by rw [HNn.out]; exact hsq.1) hin hjn (by rw [HNn.out]; exact hsq.2.2))
                clear him hsq
                go_wp2_with fail
                (with_reducible refine HIs.out.mono ?_)
                rintro e w9 ⟨rfl, hw9⟩
                rw [← hw9]
                clear hw9 w9
                go_wp2_with fail
                (with_reducible refine HCl.out.mono ?_)
                rintro e w6 ⟨rfl, hd⟩
                have HC6 := Lib.hid (HC.out.below (hd.below _))
                have HB6 := Lib.hid (HB.out.trans (hd.below _))
                clear hd HCl HIs
                cases colsEq m i j n with
                | true =>
                  go_wp2
                  go_ret3
                  exact ⟨_, _, _, rfl, m, HC6.out.tabOf HM.out, HB6.out⟩
                | false =>
                  go_wp2
                  go_roundg g2
                  case measure => omega
                  case rel => exact ⟨j + 1, by go_num, by omega, by omega, HC6, HB6⟩
            · have t1 : ((l : Int) == (n : Int)) = false := by simp; omega
              go_wp2
              go_roundg g2
              case measure => omega
              case rel => exact ⟨j + 1, by go_num, by omega, by omega, HC, HB⟩
          · have hji : ¬ ((j : Int) < (n : Int)) := by omega
            go_wp2
            go_roundg g
            case measure => omega
            case rel => exact ⟨i + 1, by go_num, by omega, HC, HB⟩
    · have hii : ¬ ((i : Int) < (n : Int)) := by omega
      go_wp2_with fail
      (with_reducible refine (Hend.out _ HC.out HB.out).mono ?_)
      rintro e w5 ⟨x, rfl, -, hc, hb, -⟩
      have HC5 := Lib.hid hc
      have HB5 := Lib.hid (HB.out.trans hb)
      clear hc hb
      go_wp2_with fail
      (with_reducible refine (Hend2.out _ HC5.out HB5.out).mono ?_)
      rintro e w6 ⟨y, rfl, -, hc, hb, -⟩
      have HC6 := Lib.hid hc
      have HB6 := Lib.hid (HB5.out.trans hb)
      clear hc hb HC5 HB5
      go_wp2
      go_ret3
      exact ⟨_, _, _, rfl, m, HC6.out.tabOf HM.out, HB6.out⟩
set_option maxHeartbeats 1000000 in
theorem DrawJoinAll_c {w : World} {vc : Value} {xs : List Int} (h : BytR w vc xs) :
    Calls Try.prog 8 #[vc] w fun e w' => ∃ v : Value, e = .returned v ∧ ∃ m : List (List Int), Tab w' v m ∧ Below w.heap.size w w' := by
  have HN := Lib.hid (l18Case_c h)
  obtain ⟨a, c, rfl, -⟩ := h.cellsB
  clear h
  go_enter Try.func8, Try.ntmps8
  go_wp2_with fail
  (with_reducible refine HN.out.mono ?_)
  rintro e w1 ⟨v, i, j, rfl, m, ht, hb⟩
  have HT := Lib.hid ht
  have HB := Lib.hid hb
  clear ht hb HN
  go_wp2
  go_ret
  exact ⟨v, rfl, m, HT.out, HB.out⟩
set_option maxHeartbeats 1000000 in
theorem DrawJoinOut_c {w : World} {vc : Value} {xs : List Int} (h : BytR w vc xs) :
    Calls Try.prog 10 #[vc] w fun e w' => ∃ (v : Value) (i j : Int), e = .returned (.tuple #[v, .int .i64 i, .int .i64 j]) ∧ ∃ m : List (List Int), Tab w' v m ∧ Below w.heap.size w w' := by
  have HN := Lib.hid (l18Case_c h)
  obtain ⟨a, c, rfl, -⟩ := h.cellsB
  clear h
  go_enter Try.func10, Try.ntmps10
  go_wp2_with fail
  (with_reducible refine HN.out.mono ?_)
  rintro e w1 ⟨v, i, j, rfl, m, ht, hb⟩
  have HT := Lib.hid ht
  have HB := Lib.hid hb
  clear ht hb HN
  go_wp2
  go_ret3
  exact ⟨v, i, j, rfl, m, HT.out, HB.out⟩
set_option maxHeartbeats 1000000 in
theorem DrawJoinIn_c {w : World} {vc : Value} {xs : List Int} (h : BytR w vc xs) :
    Calls Try.prog 13 #[vc] w fun e w' => ∃ (v : Value) (i j : Int), e = .returned (.tuple #[v, .int .i64 i, .int .i64 j]) ∧ ∃ m : List (List Int), Tab w' v m ∧ Below w.heap.size w w' := by
  have HN := Lib.hid (l18Case_c h)
  obtain ⟨a, c, rfl, -⟩ := h.cellsB
  clear h
  go_enter Try.func13, Try.ntmps13
  go_wp2_with fail
  (with_reducible refine HN.out.mono ?_)
  rintro e w1 ⟨v, i, j, rfl, m, ht, hb⟩
  have HT := Lib.hid ht
  have HB := Lib.hid hb
  have HIs := Lib.hid (spec_IsMatrix_c ht)
  obtain ⟨ma, mc, rfl, -⟩ := ht.shape
  cases him : isMat m with
  | false =>
    rw [him] at HIs
    clear ht hb HN him
    generalize m.length = n at *
    go_wp2_with fail
    (with_reducible refine HIs.out.mono ?_)
    rintro e w9 ⟨rfl, hw9⟩
    rw [← hw9]
    clear hw9 w9
    go_wp2
    go_ret3
    exact ⟨_, i, j, rfl, m, HT.out, HB.out⟩
  | true =>
    rw [him] at HIs
    have hsq := isMat_sq him
    have HTu := Lib.hid (l4Turn_c ht hsq.1 hsq.2.1 hsq.2.2)
    clear ht hb HN him hsq
    obtain ⟨n, hn⟩ : ∃ n, n = m.length := ⟨_, rfl⟩
    rw [← hn] at HTu HIs ⊢
    clear hn HT
    go_wp2_with fail
    (with_reducible refine HIs.out.mono ?_)
    rintro e w9 ⟨rfl, hw9⟩
    rw [← hw9]
    clear hw9 w9
    go_wp2_with fail
    (with_reducible refine HTu.out.mono ?_)
    rintro e w2 ⟨v2, rfl, hn2, hb2⟩
    have HT2 := Lib.hid hn2.tab
    have HB2 := Lib.hid (HB.out.trans (hb2.mono HB.out.size))
    clear hn2 hb2 HTu HIs
    go_wp2
    go_ret3
    exact ⟨v2, i, j, rfl, _, HT2.out, HB2.out⟩
end Go.Proofs.Ytlkgkfgpnnahdaa
end
