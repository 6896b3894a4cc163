/-
  Texts of this claim joined: laws for its walks, contracts of the functions that the law reaches.
-/
import Derived.Test.YtlkgkfgpnnahdaaRows
import Derived.Test.YtlkgkfgpnnahdaaFnJoinsM1
import Derived.Test.YtlkgkfgpnnahdaaFnJoinsM3
import Derived.Test.YtlkgkfgpnnahdaaFnJoinsM4
import Derived.StillTailTactics
import Derived.Test.YtlkgkfgpnnahdaaFnJoinsM10
import Derived.Test.YtlkgkfgpnnahdaaFnJoinsM11
import Derived.Test.YtlkgkfgpnnahdaaFnJoinsM6
import Derived.Test.YtlkgkfgpnnahdaaFnJoinsM5
section
/-
  RenameGraph, the program's and the reference's.
-/
namespace Go.Proofs.Ytlkgkfgpnnahdaa
open Go.RowKit Go.Deep Go.Sd

theorem infoB : (Try.prog.info? 4).map (fun i => (i.zero, i.size, i.bytes)) = some (some (.bool false), 1, 1) := by kernel_rfl

set_option maxHeartbeats 1000000 in
theorem l18Names_c {w : World} {v : Value} {xs : List Int} {n : Nat} (h : Ints w v xs) (hn : n ≤ 9) :
    Calls Try.prog 94 #[v, .int .i64 n] w fun e w' => e = .returned (.bool (namesL n xs [] && decide (xs.length = n))) ∧ Below w.heap.size w w' := by
  have hlen := h.len
  obtain ⟨a, c, rfl, _, _, hcell⟩ := h.shape
  clear h
  have hmk := run_make_row' (P := Try.prog) 91 4 (.bool false) 1 Try.underlying91 infoB rfl .i64 .i64 n (by omega) (by omega)
  go_enter Try.func94, Try.ntmps94
  go_wp2
  go_loopg [6] (xs.length) (fun g i wr => ∃ (k : Nat) (seen : List Int), i = .int .i64 k ∧ k + g = xs.length ∧ Hid (namesL n xs [] = namesL n (xs.drop k) seen) ∧ New (OwnOf 4 (OValR Value.bool)) w.heap.size wr (.slice (some ⟨w.heap.size, 0, none⟩) n n) (seenL n seen) ∧ Below w.heap.size w wr)
  case atStart => exact ⟨0, [], rfl, by omega, Lib.hid rfl, by rw [seenL_nil]; exact New.made 4 w (.bool false) false n (Nat.le_refl _) (by omega) (fun _ => ⟨rfl, rfl⟩), (Below.refl _ _).alloc (Nat.le_refl _) _⟩
  case round =>
    obtain ⟨k, seen, rfl, hk, H, hnew, hbel⟩ := hrel
    clear hmk
    by_cases hlt : k < xs.length
    · obtain ⟨b, o, rfl, hb, hx0⟩ := hcell (by omega)
      obtain ⟨x, hx, hd⟩ := at_lt hlt
      obtain ⟨u, hu, rfl⟩ := hx0 k x hx
      have hrule := hbel.rule
      have H1 := Lib.hid (show namesL n xs [] = if 0 ≤ x ∧ x < n ∧ seen.contains x = false then namesL n (xs.drop (k + 1)) (x :: seen) else false from by rw [H.out, hd]; rfl)
      clear H hx hd hx0 hcell
      by_cases hr : 0 ≤ x ∧ x < n
      · obtain ⟨p, rfl⟩ : ∃ p : Nat, x = (p : Int) := ⟨x.toNat, by omega⟩
        have hp : p < n := by omega
        have Hc := Lib.hid (l1In_yes (a := (p : Int)) (b := 0) (c := (n : Int) - 1) wr (by omega) (by omega))
        obtain ⟨b', c', hv, _, _, hblt, hcl, hfr, hst⟩ := hnew.val_at (fun _ => rfl) (seenL_at hp)
        obtain rfl : b' = w.heap.size := by simp at hv; exact hv.1.symm
        have hpi : (p : Int) < (n : Int) := by omega
        cases hs : seen.contains (p : Int) with
        | true =>
          have H2 := Lib.hid (show (namesL n xs [] && decide (xs.length = n)) = false from by rw [H1.out, hs]; simp)
          rw [hs] at hcl
          clear hv hst hnew hs H1 hr
          go_wp2_with fail
          refine Hc.out.mono ?_
          rintro e w' ⟨rfl, rfl⟩
          go_wp2
          go_ret
          exact ⟨by rw [H2.out]; rfl, hbel⟩
        | false =>
          have H2 := Lib.hid (show namesL n xs [] = namesL n (xs.drop (k + 1)) ((p : Int) :: seen) from by rw [H1.out, hs, if_pos ⟨hr.1, hr.2, rfl⟩])
          rw [hs] at hcl
          have Hst := Lib.hid (by have := hst true; rw [seenL_set] at this; exact this)
          have Hb := Lib.hid (hbel.setCell (p := ⟨w.heap.size, p, none⟩) (Nat.le_refl _) (.bool true))
          clear hv hst hnew hs H1 hr hbel
          go_wp2_with fail
          refine Hc.out.mono ?_
          rintro e w' ⟨rfl, rfl⟩
          go_wp2
          go_roundg (xs.length - (k + 1))
          case measure => omega
          case rel => exact ⟨k + 1, _, by go_num, by omega, H2, Hst.out, Hb.out⟩
      · have H2 := Lib.hid (show (namesL n xs [] && decide (xs.length = n)) = false from by rw [H1.out, if_neg (fun h => hr ⟨h.1, h.2.1⟩)]; rfl)
        have Hc := Lib.hid (l1In_no (a := x) (b := 0) (c := (n : Int) - 1) wr (by omega))
        clear H1 hnew hr
        go_wp2_with fail
        refine Hc.out.mono ?_
        rintro e w' ⟨rfl, rfl⟩
        go_wp2
        go_ret
        exact ⟨by rw [H2.out]; rfl, hbel⟩
    · have H1 := Lib.hid (show namesL n xs [] = true from by rw [H.out, drop_len hlt]; rfl)
      clear H hnew hcell
      by_cases hl : xs.length = n
      · have H2 := Lib.hid (show (namesL n xs [] && decide (xs.length = n)) = true from by rw [H1.out]; simp [hl])
        have t1 : ((xs.length : Int) == (n : Int)) = true := by simp [hl]
        clear hl H1
        go_wp2
        go_ret
        exact ⟨by rw [H2.out]; rfl, hbel⟩
      · have H2 := Lib.hid (show (namesL n xs [] && decide (xs.length = n)) = false from by rw [H1.out]; simp [hl])
        have t1 : ((xs.length : Int) == (n : Int)) = false := by simp; omega
        clear hl H1
        go_wp2
        go_ret
        exact ⟨by rw [H2.out]; rfl, hbel⟩

set_option maxHeartbeats 2000000 in
set_option maxRecDepth 100000 in
theorem l18Rename_c {w : World} {va vp : Value} {m : List (List Int)} {ps : List Nat} {n : Nat} (h1 : Tab w va m) (hm : Sq n m) (h2 : Ints w vp (nats ps)) (hpl : ps.length = n) (hp : ∀ i, i < n → ps.getD i 0 < n) (hn0 : 0 < n) (hn : n ≤ 9) :
    Calls Try.prog 95 #[va, vp] w (Makes (OTab 3 33) w (renI m ps n n)) := by
  obtain ⟨ab, ao, ac, rfl, hab, hae⟩ := h1.entAt hm.1 hm.2 hn0
  obtain ⟨pa, pc, rfl, _, _, hpx⟩ := h2.shape
  have hpl2 : (nats ps).length = n := by simp [nats, hpl]
  rw [hpl2] at hpx ⊢
  obtain ⟨pb, po, rfl, hpb, hpy⟩ := hpx hn0
  have hpc : ∀ i, i < n → w.cell? ⟨pb, po + i, none⟩ = some (.int .i64 (ps.getD i 0 : Nat)) := fun i hi => by
    obtain ⟨u, hu, hr⟩ := hpy i ((ps.getD i 0 : Nat) : Int) (nats_at (by simp [List.getD, show i < ps.length by omega]))
    rw [hu, hr]
  have Hz := Lib.hid (l4Zero_c (w := w) (p := n) (r := n) (by omega) (by omega))
  clear h1 h2 hpx hpy hpl hpl2
  go_enter Try.func95, Try.ntmps95
  go_wp2_with fail
  refine Hz.out.mono ?_
  rintro e w1 ⟨v1, rfl, hn1, hb1⟩
  obtain ⟨gb, gc, _, _, rfl, _, hgb, hgb2, _⟩ := hn1.tab_at (i := 0) (j := 0) ((Sq.zeros n).row hn0).1 ((Sq.zeros n).entry hn0 hn0)
  rw [(Sq.zeros n).1] at hn1 ⊢
  have Hn1 := Lib.hid hn1
  have Hb1 := Lib.hid hb1
  have Hp := Lib.hid hp
  clear hn1 hb1 Hz hp
  go_wp2
  go_loopg [6] n (fun g ii wr => ∃ (i : Nat), ii = .int .i64 i ∧ i + g = n ∧ New (OTab 3 33) w.heap.size wr (.slice (some ⟨gb, 0, none⟩) n gc) (renI m ps n i) ∧ Below w.heap.size w wr)
  case atStart => exact ⟨0, rfl, by omega, Hn1.out, Hb1.out⟩
  case round =>
    obtain ⟨i, rfl, hi, hnew, hbel⟩ := hrel
    have Hn := Lib.hid hnew
    have Hb := Lib.hid hbel
    clear hnew hbel
    by_cases hlt : i < n
    · go_wp2
      go_loopg [7] n (fun g jj wr => ∃ (j : Nat), jj = .int .i64 j ∧ j + g = n ∧ New (OTab 3 33) w.heap.size wr (.slice (some ⟨gb, 0, none⟩) n gc) (renJ m ps (renI m ps n i) i j) ∧ Below w.heap.size w wr)
      case atStart => exact ⟨0, rfl, by omega, Hn.out, Hb.out⟩
      case round =>
        clear Hn Hb
        obtain ⟨j, rfl, hj, hnew, hbel⟩ := hrel
        by_cases hlt2 : j < n
        · obtain ⟨rb, ro, rc, hA1, hrb, _, hA2⟩ := hae.at hlt hn0
          have hA3 := hA2 j hlt2
          have hP1 := hpc i hlt
          have hP2 := hpc j hlt2
          have hp1 := Hp.out i hlt
          have hp2 := Hp.out j hlt2
          have hsq : Sq n (renJ m ps (renI m ps n i) i j) := renJ_sq (renI_sq Hp.out i (by omega)) hp1 j
          obtain ⟨b', c', sb, sc, hv, _, _, _, hcl1, _, hsb, _, hcl2, hfr, hst⟩ := hnew.tab_at (hsq.row hp1).1 (hsq.entry hp1 hp2)
          obtain rfl : b' = gb := by simp at hv; exact hv.1.symm
          rw [(hsq.row hp1).2] at hcl1
          have Hst := Lib.hid (show New (OTab 3 33) w.heap.size (wr.setCell ⟨sb, ps.getD j 0, none⟩ (.int .i64 (ent m i j))) _ (renJ m ps (renI m ps n i) i (j + 1)) from hst (ent m i j))
          have Hb3 := Lib.hid (hbel.setCell (p := ⟨sb, ps.getD j 0, none⟩) hsb (.int .i64 (ent m i j)))
          have hrule := hbel.rule
          have hi1 : (i : Int) < (n : Int) := by omega
          have hi2 : (j : Int) < (n : Int) := by omega
          generalize ent m i j = X at *
          generalize ps.getD i 0 = p1 at *
          generalize ps.getD j 0 = p2 at *
          have hi3 : (p1 : Int) < (n : Int) := by omega
          have hi4 : (p2 : Int) < (n : Int) := by omega
          clear hv hst hnew hA2 hbel hpc hsq
          go_wp2
          go_still_tail 19, (by kernel_rfl)
          go_wp2
          go_roundg (n - (j + 1))
          case measure => omega
          case rel => exact ⟨j + 1, by go_num, by omega, New.heap (OTab.kept _ _) Hst.out rfl, Hb3.out.drew⟩
        · have e : j = n := by omega
          subst e
          go_wp2
          go_roundg (j - (i + 1))
          case measure => omega
          case rel => exact ⟨i + 1, by go_num, by omega, hnew, hbel⟩
    · have e : i = n := by omega
      subst e
      go_wp2
      go_ret
      exact ⟨_, rfl, Hn.out, Hb.out⟩

def renOk (m : List (List Int)) (xs : List Int) : Bool := isMat m && (namesL m.length xs [] && decide (xs.length = m.length))
def renV (m : List (List Int)) (xs : List Int) : List (List Int) := if renOk m xs = true then renI m (xs.map Int.toNat) m.length m.length else []

theorem nats_toNat {xs : List Int} {n : Nat} (h : ∀ x, x ∈ xs → 0 ≤ x ∧ x < n) : xs = nats (xs.map Int.toNat) ∧ ∀ i, i < xs.length → (xs.map Int.toNat).getD i 0 < n := by
  constructor
  · unfold nats
    rw [List.map_map]
    refine (List.map_id xs).symm.trans (List.map_congr_left fun x hx => ?_)
    have := h x hx
    simp; omega
  · intro i hi
    have := h xs[i] (List.getElem_mem hi)
    simp [List.getD, hi]; omega

set_option maxHeartbeats 400000 in
theorem spec_RenameGraph_c {w : World} {va vp : Value} {m : List (List Int)} {xs : List Int} (h1 : Tab w va m) (h2 : Ints w vp xs) :
    Calls Try.prog 19 #[va, vp] w (Makes2 (OTab 3 33) w (renV m xs) (renOk m xs)) := by
  have hsh := h1.shape
  obtain ⟨aa, ac, rfl, _, _, _⟩ := hsh
  have Hc := Lib.hid (spec_IsMatrix_c h1)
  cases hm : isMat m with
  | false =>
    have HK := Lib.hid (show renOk m xs = false from by unfold renOk; rw [hm]; rfl)
    have HV := Lib.hid (show renV m xs = [] from by unfold renV; rw [HK.out]; rfl)
    rw [hm] at Hc
    rw [HK.out]
    clear h1 h2 hm
    go_enter Try.func19, Try.ntmps19
    go_wp2_with fail
    refine Hc.out.mono ?_
    rintro e w' ⟨rfl, rfl⟩
    go_wp2
    go_ret2
    exact ⟨_, rfl, by rw [HV.out]; exact New.empty w (Nat.le_refl _), (Below.refl _ _).alloc (Nat.le_refl _) _⟩
  | true =>
    have sm := isMat_sq hm
    rw [hm] at Hc
    have Hd := Lib.hid (l18Names_c (n := m.length) h2 sm.2.2)
    cases hk : (namesL m.length xs [] && decide (xs.length = m.length)) with
    | false =>
      have HK := Lib.hid (show renOk m xs = false from by unfold renOk; rw [hk]; simp)
      have HV := Lib.hid (show renV m xs = [] from by unfold renV; rw [HK.out]; rfl)
      rw [hk] at Hd
      rw [HK.out]
      clear h1 h2 hm hk sm
      go_enter Try.func19, Try.ntmps19
      go_wp2_with fail
      refine Hc.out.mono ?_
      rintro e w' ⟨rfl, rfl⟩
      go_wp2_with fail
      refine Hd.out.mono ?_
      rintro e w1 ⟨rfl, hb1⟩
      have Hb1 := Lib.hid hb1
      have hz1 := hb1.size
      clear hb1
      go_wp2
      go_ret2
      exact ⟨_, rfl, by rw [HV.out]; exact New.empty w1 hz1, Hb1.out.alloc hz1 _⟩
    | true =>
      have HK := Lib.hid (show renOk m xs = true from by unfold renOk; rw [hm, hk]; rfl)
      have HV := Lib.hid (show renV m xs = renI m (xs.map Int.toNat) m.length m.length from by unfold renV; rw [HK.out]; rfl)
      rw [hk] at Hd
      rw [HK.out]
      simp only [Bool.and_eq_true, decide_eq_true_eq] at hk
      have hr := nats_toNat (namesL_range hk.1)
      have Hm := Lib.hid (fun w1 (hb : Below w.heap.size w w1) => l18Rename_c (w := w1) (ps := xs.map Int.toNat) (Tab.frame _ _ _ _ h1 hb) sm.1 (by rw [← hr.1]; exact Ints.frame _ _ _ _ h2 hb) (by simp [hk.2]) (fun i hi => hr.2 i (by omega)) (by omega) sm.2.2)
      clear h1 h2 hm hk sm hr
      go_enter Try.func19, Try.ntmps19
      go_wp2_with fail
      refine Hc.out.mono ?_
      rintro e w' ⟨rfl, rfl⟩
      go_wp2_with fail
      refine Hd.out.mono ?_
      rintro e w1 ⟨rfl, hb1⟩
      go_wp2_with fail
      refine (Hm.out w1 hb1).mono ?_
      rintro e w2 ⟨v2, rfl, hn2, hb2⟩
      have hz1 := hb1.size
      go_wp2
      go_ret2
      exact ⟨_, rfl, by rw [HV.out]; exact hn2.mono hz1, hb1.trans (hb2.mono hz1)⟩

set_option maxHeartbeats 2000000 in
set_option maxRecDepth 100000 in
theorem impl_RenameGraph_c {w : World} {va vp : Value} {m : List (List Int)} {xs : List Int} (h1 : Tab w va m) (h2 : Ints w vp xs) :
    Calls Try.prog 18 #[va, vp] w (Makes2 (OTab 3 33) w (renV m xs) (renOk m xs)) := by
  have hsh := h1.shape
  obtain ⟨aa, ac, rfl, _, _, _⟩ := hsh
  have hlx := h2.len
  obtain ⟨pa, pc, rfl, _, _, hpx⟩ := h2.shape
  have Hc := Lib.hid (impl_IsMatrix_c h1)
  cases hm : isMat m with
  | false =>
    have HK := Lib.hid (show renOk m xs = false from by unfold renOk; rw [hm]; rfl)
    have HV := Lib.hid (show renV m xs = [] from by unfold renV; rw [HK.out]; rfl)
    rw [hm] at Hc
    rw [HK.out]
    clear h1 h2 hm hpx
    go_enter Try.func18, Try.ntmps18
    go_wp2_with fail
    refine Hc.out.mono ?_
    rintro e w' ⟨rfl, rfl⟩
    go_wp2
    go_ret2
    exact ⟨_, rfl, by rw [HV.out]; exact New.nil _ _, Below.refl _ _⟩
  | true =>
    have sm := isMat_sq hm
    rw [hm] at Hc
    by_cases hl : xs.length = m.length
    · have HO0 := Lib.hid (show renOk m xs = namesL m.length xs [] from by unfold renOk; rw [hm]; simp [hl])
      have HV0 := Lib.hid (show renV m xs = if renOk m xs = true then renI m (xs.map Int.toNat) m.length m.length else [] from rfl)
      clear hm hlx
      generalize hn : m.length = n at *
      have hl2 := hl
      rw [hl] at h2 hpx ⊢
      have hm' := sm.1
      have hn0 : 0 < n := by omega
      have hn9 : n ≤ 9 := sm.2.2
      have hmk := run_make_row' (P := Try.prog) 91 4 (.bool false) 1 Try.underlying91 infoB rfl .i64 .i64 n (by omega) (by omega)
      have HO := HO0
      have HV := HV0
      clear HO0 HV0
      generalize renOk m xs = ok at HO HV ⊢
      generalize renV m xs = rv at HV ⊢
      have H1 := Lib.hid h1
      have H2 := Lib.hid h2
      have Hlx := Lib.hid hl2
      have Hm' := Lib.hid hm'
      have t0 : ((n : Int) != (n : Int)) = false := by simp
      clear h1 h2 sm hl hn hl2 hm'
      go_enter Try.func18, Try.ntmps18
      go_wp2_with fail
      refine Hc.out.mono ?_
      rintro e w' ⟨rfl, rfl⟩
      go_wp2
      go_loopg [29] n (fun g i wr => ∃ (k : Nat) (seen : List Int), i = .int .i64 k ∧ k + g = n ∧ Hid (namesL n xs [] = namesL n (xs.drop k) seen) ∧ New (OwnOf 4 (OValR Value.bool)) w.heap.size wr (.slice (some ⟨w.heap.size, 0, none⟩) n n) (seenL n seen) ∧ Below w.heap.size w wr)
      case atStart => exact ⟨0, [], rfl, by omega, Lib.hid rfl, by rw [seenL_nil]; exact New.made 4 w (.bool false) false n (Nat.le_refl _) (by omega) (fun _ => ⟨rfl, rfl⟩), (Below.refl _ _).alloc (Nat.le_refl _) _⟩
      case round =>
        obtain ⟨k, seen, rfl, hk, H, hnew, hbel⟩ := hrel
        clear hmk
        by_cases hlt : k < n
        · obtain ⟨b, o, rfl, hb, hx0⟩ := hpx hn0
          obtain ⟨x, hx, hd⟩ := at_lt (xs := xs) (k := k) (by have := Hlx.out; omega)
          obtain ⟨u, hu, rfl⟩ := hx0 k x hx
          have hrule := hbel.rule
          have H3 := Lib.hid (show namesL n xs [] = if 0 ≤ x ∧ x < n ∧ seen.contains x = false then namesL n (xs.drop (k + 1)) (x :: seen) else false from by rw [H.out, hd]; rfl)
          clear H hx hd hx0 hpx
          by_cases hr : 0 ≤ x ∧ x < n
          · obtain ⟨p, rfl⟩ : ∃ p : Nat, x = (p : Int) := ⟨x.toNat, by omega⟩
            have hp : p < n := by omega
            obtain ⟨b', c', hv, _, _, hblt, hcl, hfr, hst⟩ := hnew.val_at (fun _ => rfl) (seenL_at hp)
            obtain rfl : b' = w.heap.size := by simp at hv; exact hv.1.symm
            have hpi : (p : Int) < (n : Int) := by omega
            cases hs : seen.contains (p : Int) with
            | true =>
              have HK := Lib.hid (show ok = false from by rw [HO.out, H3.out, hs]; simp)
              have HV2 := Lib.hid (show rv = [] from by rw [HV.out, HK.out]; rfl)
              rw [hs] at hcl
              clear hv hst hnew hs H3 hr
              go_wp2
              go_ret2
              exact ⟨_, by rw [HK.out]; rfl, by rw [HV2.out]; exact New.nil _ _, hbel⟩
            | false =>
              have H4 := Lib.hid (show namesL n xs [] = namesL n (xs.drop (k + 1)) ((p : Int) :: seen) from by rw [H3.out, hs, if_pos ⟨hr.1, hr.2, rfl⟩])
              rw [hs] at hcl
              have Hst := Lib.hid (by have := hst true; rw [seenL_set] at this; exact this)
              have Hb := Lib.hid (hbel.setCell (p := ⟨w.heap.size, p, none⟩) (Nat.le_refl _) (.bool true))
              clear hv hst hnew hs H3 hr hbel
              go_wp2
              go_roundg (n - (k + 1))
              case measure => omega
              case rel => exact ⟨k + 1, _, by go_num, by omega, H4, Hst.out, Hb.out⟩
          · have HK := Lib.hid (show ok = false from by rw [HO.out, H3.out, if_neg (fun h => hr ⟨h.1, h.2.1⟩)])
            have HV2 := Lib.hid (show rv = [] from by rw [HV.out, HK.out]; rfl)
            clear H3 hnew
            by_cases hx0 : x < 0
            · clear hr
              go_wp2
              go_ret2
              exact ⟨_, by rw [HK.out]; rfl, by rw [HV2.out]; exact New.nil _ _, hbel⟩
            · have hx1 : (n : Int) ≤ x := by omega
              clear hr
              go_wp2
              go_ret2
              exact ⟨_, by rw [HK.out]; rfl, by rw [HV2.out]; exact New.nil _ _, hbel⟩
        · have HN := Lib.hid (show namesL n xs [] = true from by rw [H.out, drop_len (by have := Hlx.out; omega)]; rfl)
          have HK := Lib.hid (show ok = true from by rw [HO.out, HN.out])
          have HV2 := Lib.hid (show rv = renI m (xs.map Int.toNat) n n from by rw [HV.out, HK.out]; rfl)
          have hr := nats_toNat (namesL_range HN.out)
          have h2r := Ints.frame _ _ _ _ H2.out hbel
          have h1r := Tab.frame _ _ _ _ H1.out hbel
          obtain ⟨wo, rfl⟩ : ∃ wo : World, wo = wr := ⟨_, rfl⟩
          rw [hr.1] at h2r
          have Hp : Hid (∀ i, i < n → (xs.map Int.toNat).getD i 0 < n) := Lib.hid (fun i hi => hr.2 i (by have := Hlx.out; omega))
          have hpl : (xs.map Int.toNat).length = n := by simp [Hlx.out]
          obtain ⟨ps, hps⟩ : ∃ ps, ps = xs.map Int.toNat := ⟨_, rfl⟩
          rw [← hps] at h2r Hp hpl HV2
          clear hr hps H HN hnew hpx
          obtain ⟨ab, ao, ac', hv1, hab, hae⟩ := h1r.entAt Hm'.out.1 Hm'.out.2 hn0
          obtain ⟨rfl, rfl⟩ : aa = some ⟨ab, ao, none⟩ ∧ ac = ac' := by simp at hv1; exact hv1
          obtain ⟨pa', pc', hv2, _, _, hpx⟩ := h2r.shape
          have hpl2 : (nats ps).length = n := by simp [nats, hpl]
          rw [hpl2] at hpx hv2
          obtain ⟨pb, po, rfl, hpb, hpy⟩ := hpx hn0
          obtain ⟨rfl, rfl⟩ : pa = some ⟨pb, po, none⟩ ∧ pc = pc' := by simp at hv2; exact hv2
          have hpc : ∀ i, i < n → wo.cell? ⟨pb, po + i, none⟩ = some (.int .i64 (ps.getD i 0 : Nat)) := fun i hi => by
            obtain ⟨u, hu, hr⟩ := hpy i ((ps.getD i 0 : Nat) : Int) (nats_at (by simp [List.getD, show i < ps.length by omega]))
            rw [hu, hr]
          have Hz := Lib.hid (zeros_c (w := wo) (p := n) (by omega))
          have Hbel := Lib.hid hbel
          have hz := hbel.size
          clear hbel hpx hpy hv1 hv2 hpl hpl2 h1r h2r
          go_wp2_with fail
          refine Hz.out.mono ?_
          rintro e w1 ⟨v1, rfl, hn1, hb1⟩
          obtain ⟨gb, gc, _, _, rfl, _, hgb, hgb2, _⟩ := hn1.tab_at (i := 0) (j := 0) ((Sq.zeros n).row hn0).1 ((Sq.zeros n).entry hn0 hn0)
          rw [(Sq.zeros n).1] at hn1 ⊢
          have Hn1 := Lib.hid hn1
          have Hb1 := Lib.hid hb1
          clear hn1 hb1 Hz
          go_wp2
          go_loopg [56] n (fun g ii wr => ∃ (i : Nat), ii = .int .i64 i ∧ i + g = n ∧ New (OTab 3 33) wo.heap.size wr (.slice (some ⟨gb, 0, none⟩) n gc) (renI m ps n i) ∧ Below wo.heap.size wo wr)
          case atStart => exact ⟨0, rfl, by omega, Hn1.out, Hb1.out⟩
          case round =>
            obtain ⟨i, rfl, hi, hnew, hbel⟩ := hrel
            have Hn := Lib.hid hnew
            have Hb := Lib.hid hbel
            have hrule := hbel.rule
            clear hnew hbel
            by_cases hlt : i < n
            · obtain ⟨rb, ro, rc, hA1, hrb, _, hA2⟩ := hae.at hlt hn0
              go_wp2
              clear hrule
              go_loopg [63] n (fun g jj wr => ∃ (j : Nat), jj = .int .i64 j ∧ j + g = n ∧ New (OTab 3 33) wo.heap.size wr (.slice (some ⟨gb, 0, none⟩) n gc) (renJ m ps (renI m ps n i) i j) ∧ Below wo.heap.size wo wr)
              case atStart => exact ⟨0, rfl, by omega, Hn.out, Hb.out⟩
              case round =>
                clear Hn Hb
                obtain ⟨j, rfl, hj, hnew, hbel⟩ := hrel
                by_cases hlt2 : j < n
                · have hA3 := hA2 j hlt2
                  have hP1 := hpc i hlt
                  have hP2 := hpc j hlt2
                  have hp1 := Hp.out i hlt
                  have hp2 := Hp.out j hlt2
                  have hsq : Sq n (renJ m ps (renI m ps n i) i j) := renJ_sq (renI_sq Hp.out i (by omega)) hp1 j
                  obtain ⟨b', c', sb, sc, hv, _, _, _, hcl1, _, hsb, _, hcl2, hfr, hst⟩ := hnew.tab_at (hsq.row hp1).1 (hsq.entry hp1 hp2)
                  obtain rfl : b' = gb := by simp at hv; exact hv.1.symm
                  rw [(hsq.row hp1).2] at hcl1
                  have Hst := Lib.hid (show New (OTab 3 33) wo.heap.size (wr.setCell ⟨sb, ps.getD j 0, none⟩ (.int .i64 (ent m i j))) _ (renJ m ps (renI m ps n i) i (j + 1)) from hst (ent m i j))
                  have Hb3 := Lib.hid (hbel.setCell (p := ⟨sb, ps.getD j 0, none⟩) hsb (.int .i64 (ent m i j)))
                  have hrule := hbel.rule
                  have hi1 : (i : Int) < (n : Int) := by omega
                  have hi2 : (j : Int) < (n : Int) := by omega
                  generalize ent m i j = X at *
                  generalize ps.getD i 0 = p1 at *
                  generalize ps.getD j 0 = p2 at *
                  have hi3 : (p1 : Int) < (n : Int) := by omega
                  have hi4 : (p2 : Int) < (n : Int) := by omega
                  clear hv hst hnew hA2 hbel hpc hsq
                  go_wp2
                  go_still_tail 13, (by kernel_rfl)
                  go_wp2
                  go_roundg (n - (j + 1))
                  case measure => omega
                  case rel => exact ⟨j + 1, by go_num, by omega, New.heap (OTab.kept _ _) Hst.out rfl, Hb3.out.drew⟩
                · have e : j = n := by omega
                  subst e
                  go_wp2
                  go_roundg (j - (i + 1))
                  case measure => omega
                  case rel => exact ⟨i + 1, by go_num, by omega, hnew, hbel⟩
            · have e : i = n := by omega
              subst e
              go_wp2
              go_ret2
              exact ⟨_, by rw [HK.out]; rfl, by rw [HV2.out]; exact Hn.out.mono hz, Hbel.out.trans (Hb.out.mono hz)⟩
    · have HK := Lib.hid (show renOk m xs = false from by unfold renOk; simp [hl])
      have HV := Lib.hid (show renV m xs = [] from by unfold renV; rw [HK.out]; rfl)
      have t0 : ((xs.length : Int) != (m.length : Int)) = true := by simp; omega
      rw [HK.out]
      clear h1 h2 hm hpx sm
      go_enter Try.func18, Try.ntmps18
      go_wp2_with fail
      refine Hc.out.mono ?_
      rintro e w' ⟨rfl, rfl⟩
      go_wp2
      go_ret2
      exact ⟨_, rfl, by rw [HV.out]; exact New.nil _ _, Below.refl _ _⟩
end Go.Proofs.Ytlkgkfgpnnahdaa
end

section
/-
  Rows and columns exchanged: pure part.
-/
namespace Go.Proofs.Ytlkgkfgpnnahdaa
open Go.RowKit Go.Deep Go.Sd

def turnT (m : List (List Int)) (n : Nat) : List (List Int) := tabOf n n (fun i j => ent m j i)
def turnV (m : List (List Int)) : List (List Int) := if isMat m = true then turnT m m.length else []
theorem turnT_sq (m : List (List Int)) (n : Nat) : Sq n (turnT m n) := ⟨tabOf_len _ _ _, fun _ h => mem_tabOf h⟩
theorem turnT_bd {m : List (List Int)} {n : Nat} (h : n ≤ 9) : (turnT m n).length ≤ 9 ∧ ∀ x, x ∈ turnT m n → x.length ≤ 9 := ⟨by rw [(turnT_sq m n).1]; exact h, fun x hx => by rw [(turnT_sq m n).2 x hx]; exact h⟩

/-- The table being turned row by row: rows before i are in. -/
def turnF (m : List (List Int)) (n i k : Nat) : List (List Int) := tabOf n n (fun r c => if c < i ∨ (c = i ∧ r < k) then ent m c r else 0)
theorem turnF_start (m : List (List Int)) (n : Nat) : turnF m n 0 0 = List.replicate n (List.replicate n 0) := by
  rw [← tabOf_const]
  exact tabOf_congr fun i _ j _ => if_neg (by omega)
theorem turnF_row {m : List (List Int)} {n i k : Nat} (hk : k < n) : (turnF m n i k)[k]? = some (rowOf' n (fun c => if c < i ∨ (c = i ∧ k < k) then ent m c k else 0)) := tabOf_at hk
theorem turnF_at {m : List (List Int)} {n i k : Nat} (hi : i < n) : (rowOf' n (fun c => if c < i ∨ (c = i ∧ k < k) then ent m c k else 0))[i]? = some 0 := by
  rw [rowOf_at hi, if_neg (by omega)]
theorem turnF_set {m : List (List Int)} {n i k : Nat} :
    (turnF m n i k).set k ((rowOf' n (fun c => if c < i ∨ (c = i ∧ k < k) then ent m c k else 0)).set i (ent m i k)) = turnF m n i (k + 1) := by
  unfold turnF
  rw [tabOf_set2 n n (fun r c => if c < i ∨ (c = i ∧ r < k) then ent m c r else 0) k i]
  refine tabOf_congr fun r _ c _ => ?_
  show (if r = k ∧ c = i then ent m i k else if c < i ∨ (c = i ∧ r < k) then ent m c r else 0) = if c < i ∨ (c = i ∧ r < k + 1) then ent m c r else 0
  by_cases h : r = k ∧ c = i
  · obtain ⟨rfl, rfl⟩ := h
    rw [if_pos ⟨rfl, rfl⟩, if_pos (by omega)]
  · rw [if_neg h]
    by_cases h2 : c < i ∨ (c = i ∧ r < k)
    · rw [if_pos h2, if_pos (by omega)]
    · rw [if_neg h2, if_neg (by omega)]
theorem turnF_next {m : List (List Int)} {n i : Nat} : turnF m n i n = turnF m n (i + 1) 0 := tabOf_congr fun r _ c _ => by
  by_cases h : c < i ∨ (c = i ∧ r < n)
  · rw [if_pos h, if_pos (by omega)]
  · rw [if_neg h, if_neg (by omega)]
theorem turnF_end {m : List (List Int)} {n : Nat} : turnF m n n 0 = turnT m n := tabOf_congr fun r _ c _ => by rw [if_pos (by omega)]
end Go.Proofs.Ytlkgkfgpnnahdaa
end

section
/-
  Rows and columns exchanged, both sides.
-/
namespace Go.Proofs.Ytlkgkfgpnnahdaa
open Go.RowKit Go.Deep Go.Sd

set_option maxHeartbeats 1000000 in
theorem turned_c {w : World} {va : Value} {m : List (List Int)} {n : Nat} (h1 : Tab w va m) (hm : Sq n m) (hn0 : 0 < n) (hn : n ≤ 9) :
    Calls Try.prog 85 #[va] w (Makes (OTab 3 33) w (turnT m n)) := by
  obtain ⟨ab, ao, ac, rfl, hab, hae⟩ := h1.entAt hm.1 hm.2 hn0
  obtain ⟨zb, zo, zc, hz1, hzb, _, _⟩ := hae.at hn0 hn0
  rw [Nat.add_zero] at hz1
  have hn1 : (0 : Int) < (n : Int) := by omega
  clear h1 hm
  go_enter Try.func85, Try.ntmps85
  go_wp2
  clear hz1 hn1
  go_loopg [3, 12] n (fun g v jj wr => ∃ (j : Nat), jj = .int .i64 j ∧ j + g = n ∧ New (OTab 3 33) w.heap.size wr v ((turnT m n).take j) ∧ Below w.heap.size w wr)
  case atStart => exact ⟨0, rfl, by omega, New.empty w (Nat.le_refl _), (Below.refl _ _).alloc (Nat.le_refl _) _⟩
  case round =>
    obtain ⟨j, rfl, hj, hnew, hbel⟩ := hrel
    by_cases hlt : j < n
    · obtain ⟨wo, rfl⟩ : ∃ wo : World, wo = wr := ⟨_, rfl⟩
      have hle := hbel.size
      have Hn := Lib.hid hnew
      have Hb := Lib.hid hbel
      have Hlk := Lib.hid (show ((turnT m n).take j).length ≤ n from by rw [List.length_take]; omega)
      clear hnew hbel
      go_wp2
      go_loopg [5, 18] n (fun g lv ii wr => ∃ (i : Nat), ii = .int .i64 i ∧ i + g = n ∧ New (OInts 3) wo.heap.size wr lv ((rowOf' n (fun i => ent m i j)).take i) ∧ Below wo.heap.size wo wr)
      case atStart => exact ⟨0, rfl, by omega, New.empty wo (Nat.le_refl _), (Below.refl _ _).alloc (Nat.le_refl _) _⟩
      case round =>
        obtain ⟨i, rfl, hi, hnew, hbel⟩ := hrel
        obtain ⟨wi, rfl⟩ : ∃ wi : World, wi = wr := ⟨_, rfl⟩
        have hle2 := hbel.size
        have hrule2 : ∀ b o, b < w.heap.size → wi.cell? ⟨b, o, none⟩ = w.cell? ⟨b, o, none⟩ := fun b o hb => (hbel.rule b o (by omega)).trans (Hb.out.rule b o hb)
        have Hn2 := Lib.hid hnew
        have Hb2 := Lib.hid hbel
        have Hll := Lib.hid (show ((rowOf' n (fun i => ent m i j)).take i).length ≤ n from by rw [List.length_take]; omega)
        clear hnew hbel
        by_cases hlt2 : i < n
        · obtain ⟨rb, ro, rc, hA1, hrb, _, hA2⟩ := hae.at hlt2 hn0
          have hA3 := hA2 j hlt
          have Hs := Lib.hid (show _ = _ from take_snoc' (show (rowOf' n (fun i => ent m i j))[i]? = some (ent m i j) from rowOf_at hlt2))
          have hi1 : (i : Int) < (n : Int) := by omega
          have hi2 : (j : Int) < (n : Int) := by omega
          generalize ent m i j = X at *
          clear hA2 hae
          go_wp2_with (at_builtin; refine wpl_push (w0 := wi) (lo := wo.heap.size) (y := X) OIntR.kept rfl (.tmp 21) (.tmp 29) 33 rfl 3 (.int .i64 0) 8 Try.underlying33 infoI rfl Hn2.out hle2 ((Below.refl _ _).alloc (Nat.le_refl _) _) ⟨[], ⟨rfl, rfl⟩, by simp [Fresh]⟩ (bb := wi.heap.size) (c := 1) (by simp) rfl rfl (by have := Hll.out; omega) (by have := Hll.out; omega) ?_; intro v1 w1 hn1 _ _ hb1)
          go_roundg (n - (i + 1))
          case measure => omega
          case rel => exact ⟨i + 1, by go_num, by omega, by rw [← Hs.out]; exact hn1, Hb2.out.trans hb1⟩
        · have e : i = n := by omega
          subst e
          have hr := Hn2.out
          rw [rowOf_full] at hr
          obtain ⟨xa, xn, xc, rfl⟩ := hr.slice
          have Hr := Lib.hid hr
          have Hs := Lib.hid (show _ = _ from take_snoc' (show (turnT m i)[j]? = some (rowOf' i (fun k => ent m k j)) from tabOf_at hlt))
          clear hr hae
          go_wp2_with (at_builtin; refine wpl_push (w0 := wo) (lo := w.heap.size) (OInts.kept _) rfl (.tmp 32) (.tmp 34) 24 rfl 33 (.slice none 0 0) 24 Try.underlying24 infoR rfl Hn.out hle (Hb2.out.alloc hle2 _) (New.keep (OInts.kept _) Hr.out ((Below.refl wi.heap.size _).alloc (Nat.le_refl _) _) (Nat.le_refl _)) (bb := wi.heap.size) (c := 1) (by simp) rfl rfl (by have := Hlk.out; omega) (by have := Hlk.out; omega) ?_; intro v1 w1 hn1 _ _ hb1)
          go_roundg (i - (j + 1))
          case measure => omega
          case rel => exact ⟨j + 1, by go_num, by omega, by rw [← Hs.out]; exact hn1, Hb.out.trans hb1⟩
    · have e : j = n := by omega
      subst e
      have Hr := Lib.hid (show New (OTab 3 33) w.heap.size wr _ (turnT m j) from by have h := hnew; rw [show turnT m j = tabOf j j (fun i k => ent m k i) from rfl, tabOf_full] at h; exact h)
      clear hnew hae
      go_wp2
      go_ret
      exact ⟨_, rfl, Hr.out, hbel⟩

set_option maxHeartbeats 1000000 in
set_option maxRecDepth 100000 in
theorem l4Turn_c {w : World} {va : Value} {m : List (List Int)} {n : Nat} (h1 : Tab w va m) (hm : Sq n m) (hn0 : 0 < n) (hn : n ≤ 9) :
    Calls Try.prog 83 #[va] w (Makes (OTab 3 33) w (turnT m n)) := by
  obtain ⟨ab, ao, ac, rfl, hab, hae⟩ := h1.entAt hm.1 hm.2 hn0
  have Hz := Lib.hid (l4Zero_c (w := w) (p := n) (r := n) (by omega) (by omega))
  clear h1 hm
  go_enter Try.func83, Try.ntmps83
  go_wp2_with fail
  refine Hz.out.mono ?_
  rintro e w1 ⟨v1, rfl, hn1, hb1⟩
  rw [← turnF_start m n] at hn1
  obtain ⟨gb, gc, _, _, rfl, _, hgb, hgb2, _⟩ := hn1.tab_at (turnF_row hn0) (turnF_at hn0)
  rw [show (turnF m n 0 0).length = n from tabOf_len _ _ _] at hn1 ⊢
  have Hn1 := Lib.hid hn1
  have Hb1 := Lib.hid hb1
  clear hn1 hb1 Hz
  go_wp2
  go_loopg [4] n (fun g ii wr => ∃ (i : Nat), ii = .int .i64 i ∧ i + g = n ∧ New (OTab 3 33) w.heap.size wr (.slice (some ⟨gb, 0, none⟩) n gc) (turnF m n i 0) ∧ Below w.heap.size w wr)
  case atStart => exact ⟨0, rfl, by omega, Hn1.out, Hb1.out⟩
  case round =>
    obtain ⟨i, rfl, hi, hnew, hbel⟩ := hrel
    have Hn := Lib.hid hnew
    have Hb := Lib.hid hbel
    clear hnew hbel
    by_cases hlt : i < n
    · go_wp2
      go_loopg [5] n (fun g jj wr => ∃ (j : Nat), jj = .int .i64 j ∧ j + g = n ∧ New (OTab 3 33) w.heap.size wr (.slice (some ⟨gb, 0, none⟩) n gc) (turnF m n i j) ∧ Below w.heap.size w wr)
      case atStart => exact ⟨0, rfl, by omega, Hn.out, Hb.out⟩
      case round =>
        clear Hn Hb
        obtain ⟨j, rfl, hj, hnew, hbel⟩ := hrel
        by_cases hlt2 : j < n
        · obtain ⟨rb, ro, rc, hA1, hrb, _, hA2⟩ := hae.at hlt hn0
          have hA3 := hA2 j hlt2
          obtain ⟨b', c', sb, sc, hv, _, _, _, hcl1, _, hsb, _, hcl2, hfr, hst⟩ := hnew.tab_at (turnF_row hlt2) (turnF_at hlt)
          obtain rfl : b' = gb := by simp at hv; exact hv.1.symm
          rw [rowOf_len] at hcl1
          have Hst := Lib.hid (by have := hst (ent m i j); rw [turnF_set] at this; exact this)
          have Hb3 := Lib.hid (hbel.setCell (p := ⟨sb, i, none⟩) hsb (.int .i64 (ent m i j)))
          have hrule := hbel.rule
          have hi1 : (i : Int) < (n : Int) := by omega
          have hi2 : (j : Int) < (n : Int) := by omega
          generalize ent m i j = X at *
          clear hv hst hnew hA2 hbel
          go_wp2
          go_still_tail 13, (by kernel_rfl)
          go_wp2
          go_roundg (n - (j + 1))
          case measure => omega
          case rel => exact ⟨j + 1, by go_num, by omega, New.heap (OTab.kept _ _) Hst.out rfl, Hb3.out.drew⟩
        · have e : j = n := by omega
          subst e
          rw [turnF_next] at hnew
          go_wp2
          go_roundg (j - (i + 1))
          case measure => omega
          case rel => exact ⟨i + 1, by go_num, by omega, hnew, hbel⟩
    · have e : i = n := by omega
      subst e
      have Hn2 := Hn.out
      rw [turnF_end] at Hn2
      have Hn3 := Lib.hid Hn2
      clear Hn2
      go_wp2
      go_ret
      exact ⟨_, rfl, Hn3.out, Hb.out⟩

set_option maxHeartbeats 400000 in
theorem impl_TurnMatrix_c {w : World} {va : Value} {m : List (List Int)} (h1 : Tab w va m) :
    Calls Try.prog 84 #[va] w (Makes (OTab 3 33) w (turnV m)) := by
  have Hc := Lib.hid (impl_IsMatrix_c h1)
  cases hm : isMat m with
  | false =>
    have HV := Lib.hid (show turnV m = [] from by unfold turnV; rw [if_neg (by rw [hm]; simp)])
    rw [hm] at Hc
    obtain ⟨aa, ac, rfl, _, _, _⟩ := h1.shape
    clear h1 hm
    go_enter Try.func84, Try.ntmps84
    go_wp2_with fail
    refine Hc.out.mono ?_
    rintro e w' ⟨rfl, rfl⟩
    go_wp2
    go_ret
    exact ⟨_, rfl, by rw [HV.out]; exact New.nil _ _, Below.refl _ _⟩
  | true =>
    have HV := Lib.hid (show turnV m = turnT m m.length from by unfold turnV; rw [if_pos hm])
    rw [hm] at Hc
    have sm := isMat_sq hm
    have Ht := Lib.hid (turned_c h1 sm.1 (by omega) sm.2.2)
    obtain ⟨aa, ac, rfl, _, _, _⟩ := h1.shape
    clear h1 hm sm
    go_enter Try.func84, Try.ntmps84
    go_wp2_with fail
    refine Hc.out.mono ?_
    rintro e w' ⟨rfl, rfl⟩
    go_wp2_with fail
    refine Ht.out.mono ?_
    rintro e w1 ⟨v1, rfl, hn1, hb1⟩
    have Hn1 := Lib.hid hn1
    have Hb1 := Lib.hid hb1
    clear hn1 hb1
    go_wp2
    go_ret
    exact ⟨_, rfl, by rw [HV.out]; exact Hn1.out, Hb1.out⟩
set_option maxHeartbeats 400000 in
theorem spec_TurnMatrix_c {w : World} {va : Value} {m : List (List Int)} (h1 : Tab w va m) :
    Calls Try.prog 86 #[va] w (Makes (OTab 3 33) w (turnV m)) := by
  have Hc := Lib.hid (spec_IsMatrix_c h1)
  cases hm : isMat m with
  | false =>
    have HV := Lib.hid (show turnV m = [] from by unfold turnV; rw [if_neg (by rw [hm]; simp)])
    rw [hm] at Hc
    obtain ⟨aa, ac, rfl, _, _, _⟩ := h1.shape
    clear h1 hm
    go_enter Try.func86, Try.ntmps86
    go_wp2_with fail
    refine Hc.out.mono ?_
    rintro e w' ⟨rfl, rfl⟩
    go_wp2
    go_ret
    exact ⟨_, rfl, by rw [HV.out]; exact New.empty _ (Nat.le_refl _), (Below.refl _ _).alloc (Nat.le_refl _) _⟩
  | true =>
    have HV := Lib.hid (show turnV m = turnT m m.length from by unfold turnV; rw [if_pos hm])
    rw [hm] at Hc
    have sm := isMat_sq hm
    have Ht := Lib.hid (l4Turn_c h1 sm.1 (by omega) sm.2.2)
    obtain ⟨aa, ac, rfl, _, _, _⟩ := h1.shape
    clear h1 hm sm
    go_enter Try.func86, Try.ntmps86
    go_wp2_with fail
    refine Hc.out.mono ?_
    rintro e w' ⟨rfl, rfl⟩
    go_wp2_with fail
    refine Ht.out.mono ?_
    rintro e w1 ⟨v1, rfl, hn1, hb1⟩
    have Hn1 := Lib.hid hn1
    have Hb1 := Lib.hid hb1
    clear hn1 hb1
    go_wp2
    go_ret
    exact ⟨_, rfl, by rw [HV.out]; exact Hn1.out, Hb1.out⟩
end Go.Proofs.Ytlkgkfgpnnahdaa
end

section
/-
  The draws of the joins: matrices split some times, an order, two matrices that are often alike.
-/
namespace Go.Proofs.Ytlkgkfgpnnahdaa
open Go.RowKit Go.Deep Go.Sd
set_option linter.unusedSimpArgs false
theorem l1Max_z {b : Int} (hb : 0 ≤ b) (w : World) : Calls Try.prog 103 #[.int .i64 0, .int .i64 b] w fun e w' => e = .returned (.int .i64 b) ∧ w = w' := by
  have h : ¬ ((0 : Int) > b) := by omega
  go_enter Try.func103, Try.ntmps103
  go_wp2
  go_ret
  exact ⟨rfl, rfl⟩
theorem l1Min_9 (b : Int) (hb : 0 ≤ b) (w : World) : Calls Try.prog 203 #[.int .i64 9, .int .i64 b] w fun e w' => ∃ y : Nat, y ≤ 9 ∧ e = .returned (.int .i64 y) ∧ w = w' := by
  by_cases h : 9 < b
  · go_enter Try.func203, Try.ntmps203
    go_wp2
    go_ret
    exact ⟨9, by omega, rfl, rfl⟩
  · go_enter Try.func203, Try.ntmps203
    obtain ⟨y, rfl⟩ := Int.eq_ofNat_of_zero_le hb
    go_wp2
    go_ret
    exact ⟨y, by omega, rfl, rfl⟩
def HasM (rs : List Res) (v : Value) (m : List (List Int)) : Prop := ResM v m ∈ rs
set_option maxHeartbeats 4000000 in
set_option maxRecDepth 100000 in
theorem l18Split_c {lo : Nat} {w : World} {cb : Nat} {K : Value} {xs : List Int} {rs : List Res} {v : Value} {m : List (List Int)} (hK : ∀ w', Below lo w w' → BytR w' K xs) (hc : Cur lo w cb K xs.length rs) (hlo : lo ≤ w.heap.size) (hm : ResM v m ∈ rs) :
    Calls Try.prog 163 #[.pointer (some ⟨cb, 0, none⟩), v] w fun e w' => ∃ v' : Value, e = .returned v' ∧ ∃ (m' : List (List Int)) (ss : List Res), HasM (ss ++ rs) v' m' ∧ Cur lo w' cb K xs.length (ss ++ rs) ∧ Below lo w w' := by
  have HK := Lib.hid hK
  have HC0 := Lib.hid (show Cur lo w cb K xs.length ([] ++ rs) from hc)
  have HB0 := Lib.hid (Below.refl lo w)
  have HM0 := Lib.hid (show ResM v m ∈ [] ++ rs from hm)
  have Hlo := Lib.hid hlo
  obtain ⟨a0, c0, hv, -⟩ := (hc.tabOf hm).shape
  obtain ⟨n0, hn0⟩ : ∃ n, n = m.length := ⟨_, rfl⟩
  rw [← hn0] at hv
  subst hv
  clear hK hc hm hlo
  have HN0 := Lib.hid hn0
  clear hn0
  go_enter Try.func163, Try.ntmps163
  go_wp2
  go_loopg [1, 5] 2 (fun g mv nv wr => ∃ (k : Nat) (a : Option Addr) (n c : Nat) (m : List (List Int)) (ss : List Res), mv = .slice a n c ∧ nv = .int .i64 k ∧ k + g = 2 ∧ Hid (n = m.length) ∧ Hid (ResM (.slice a n c) m ∈ ss ++ rs) ∧ Hid (Cur lo wr cb K xs.length (ss ++ rs)) ∧ Hid (Below lo w wr))
  case atStart => exact ⟨0, a0, n0, c0, m, [], rfl, rfl, by omega, HN0, HM0, HC0, HB0⟩
  case round =>
    clear HN0 HM0 HC0 HB0
    obtain ⟨k, a, n, c, m, ss, rfl, rfl, hk, HN, HM, HC, HB⟩ := hrel
    obtain ⟨wB, rfl⟩ : ∃ x, x = wr := ⟨_, rfl⟩
    by_cases hk2 : k < 2
    · have hki : (k : Int) < 2 := by omega
      obtain ⟨g, rfl⟩ : ∃ x, gk = x + 1 := ⟨gk - 1, by omega⟩
      have hnl := (HC.out.tabOf HM.out).len
      rw [← HN.out] at hnl
      by_cases h4 : 4 < n
      · have h4i : (n : Int) > 4 := by omega
        go_wp2
        go_ret
        exact ⟨_, rfl, m, ss, HM.out, HC.out, HB.out⟩
      have h4i : ¬ ((n : Int) > 4) := by omega
      have HIs := Lib.hid (spec_IsMatrix_c (HC.out.tabOf HM.out))
      cases him : isMat m with
      | false =>
        rw [him] at HIs
        go_wp2_with fail
        (with_reducible refine HIs.out.mono ?_)
        rintro e w9 ⟨rfl, hw9⟩
        rw [← hw9]
        clear hw9 w9
        go_wp2
        go_ret
        exact ⟨_, rfl, m, ss, HM.out, HC.out, HB.out⟩
      | true =>
      rw [him] at HIs
      go_wp2_with fail
      (with_reducible refine HIs.out.mono ?_)
      rintro e w9 ⟨rfl, hw9⟩
      rw [← hw9]
      clear hw9 w9 HIs
      have hsq := isMat_sq him
      have hn1 : 1 ≤ n := by rw [HN.out]; exact hsq.2.1
      have hz : lo ≤ wB.heap.size := Nat.le_trans Hlo.out HB.out.size
      have HP := Lib.hid (l1Below_c (N := n) (fun w' hb => HK.out w' (HB.out.trans hb)) HC.out hz hn1 (by omega))
      obtain ⟨mb, mo, mc, hmv, -, -⟩ := (HC.out.tabOf HM.out).entAt rfl hsq.1.2 hsq.2.1
      simp only [Value.slice.injEq] at hmv
      obtain ⟨rfl, -, rfl⟩ := hmv
      have Hsq := Lib.hid hsq
      have Him := Lib.hid him
      clear hsq him hnl
      go_wp2_with fail
      (with_reducible refine HP.out.mono ?_)
      rintro e w1 ⟨i, rfl, hi, hc, hb, -⟩
      have HB1 := Lib.hid (HB.out.trans hb)
      have hz1 : lo ≤ w1.heap.size := Nat.le_trans hz hb.size
      have HC1 := Lib.hid (hc.new (OInts.kept 3).held ((Below.refl w1.heap.size w1).alloc (Nat.le_refl _) (.cells #[] 3)) hz1 (New.empty w1 (Nat.le_refl _)))
      have HBa := Lib.hid (HB1.out.alloc hz1 (.cells #[] 3))
      clear hc hb HP HC HB hz HB1
      have hii : (i : Int) < (n : Int) := by omega
      go_wp2
      go_loopg [7, 8] n (fun g2 pv jv wr => ∃ (j : Nat) (pa : Option Addr) (pc : Nat) (P : List Int), pv = .slice pa j pc ∧ jv = .int .i64 j ∧ j + g2 = n ∧ Hid (P.length = j) ∧ Hid (Cur lo wr cb K xs.length (Res.ints 3 (.slice pa j pc) P :: (ss ++ rs))) ∧ Hid (Below lo w wr))
      case atStart => exact ⟨0, _, 0, [], rfl, rfl, by omega, Lib.hid rfl, HC1, HBa⟩
      case round =>
        clear HC1 HBa hz1
        obtain ⟨j, pa, pc, P, rfl, rfl, hj, HPl, HC, HB⟩ := hrel
        obtain ⟨w2, rfl⟩ : ∃ x, x = wr := ⟨_, rfl⟩
        have hz : lo ≤ w2.heap.size := Nat.le_trans Hlo.out HB.out.size
        by_cases hjn : j < n
        · have hji : (j : Int) < (n : Int) := by omega
          obtain ⟨g2, rfl⟩ : ∃ x, gk = x + 1 := ⟨gk - 1, by omega⟩
          obtain ⟨mb', mo', mc', hmv, -, he⟩ := (HC.out.tabOf (List.mem_cons_of_mem _ HM.out)).entAt rfl Hsq.out.1.2 Hsq.out.2.1
          simp only [Value.slice.injEq, Option.some.injEq, Addr.mk.injEq] at hmv
          obtain ⟨⟨rfl, rfl, -⟩, -, -⟩ := hmv
          obtain ⟨b', o', c', gr, hb', -, gx⟩ := he.at (i := i) (by rw [← HN.out]; exact hi) Hsq.out.2.1
          have gxj := gx j (by rw [← HN.out]; exact hjn)
          have hx0 : 0 ≤ ent m i j := by
            obtain ⟨r, hr, hx⟩ := ent_mem Hsq.out.1.2 (i := i) (j := j) (by rw [← HN.out]; exact hi) (by rw [← HN.out]; exact hjn)
            exact (isMat_bd Him.out r hr _ hx).1
          rw [← HN.out] at gr
          have HMin := Lib.hid (l1Min_9 (ent m i j) hx0)
          generalize ent m i j = x at gxj HMin
          clear gx he hb' hx0
          have HBy := Lib.hid (fun w' hb => HK.out w' (HB.out.trans hb))
          go_wp2_with fail
          (with_reducible refine (HMin.out _).mono ?_)
          rintro e w9 ⟨y, hy, rfl, hw9⟩
          rw [← hw9]
          clear hw9 w9 HMin
          have HMax := Lib.hid (l1Max_z (b := (y : Int)) (by omega) w2)
          go_wp2_with fail
          (with_reducible refine HMax.out.mono ?_)
          rintro e w9 ⟨rfl, hw9⟩
          rw [← hw9]
          clear hw9 w9 HMax
          have HP := Lib.hid (l1Below_i (z := 1 + (y : Int)) HBy.out HC.out hz (by omega) (by omega))
          go_wp2_with fail
          (with_reducible refine HP.out.mono ?_)
          rintro e w3 ⟨t, rfl, ht, hc, hb, -⟩
          have hz3 : lo ≤ w3.heap.size := Nat.le_trans hz hb.size
          obtain ⟨pa', pc', w5, hr5, hc5, hb5⟩ := hc.pushInt hz3 (t : Int) (by have := HPl.out; omega)
          rw [HPl.out] at hr5 hc5
          have Hr5 := Lib.hid hr5
          have HC5 := Lib.hid hc5
          have HB5 := Lib.hid ((HB.out.trans hb).trans hb5)
          have HPl5 := Lib.hid (show (P ++ [(t : Int)]).length = j + 1 from by simp [HPl.out])
          clear hc hb hr5 hc5 hb5 HP HBy gxj gr HC HB
          go_wp2_with (at_builtin; refine wpl_append_run rfl (.tmp 35) (.tmp 48) 33 rfl rfl rfl Hr5.out ?_)
          go_roundg g2
          case measure => omega
          case rel => exact ⟨j + 1, pa', pc', P ++ [(t : Int)], rfl, by go_num, by omega, HPl5, HC5, HB5⟩
        · have hji : ¬ ((j : Int) < (n : Int)) := by omega
          have HSp := Lib.hid (spec_SplitOut_c (i := (i : Int)) (HC.out.tabOf (List.mem_cons_of_mem _ HM.out)) (HC.out.intsOf (List.mem_cons_self)))
          go_wp2_with fail
          (with_reducible refine HSp.out.mono ?_)
          rintro e w3 ⟨vn, rfl, hn, hb⟩
          have HC3 := Lib.hid (HC.out.new (OTab.kept 3 33).held hb hz hn)
          have HB3 := Lib.hid (HB.out.trans (hb.mono hz))
          have hz3 : lo ≤ w3.heap.size := Nat.le_trans hz hb.size
          obtain ⟨an, cn, rfl, -⟩ := hn.tab.shape
          clear hn hb HSp HC HB hz
          obtain ⟨ok, hok⟩ : ∃ ok, ok = splitOk m i P := ⟨_, rfl⟩
          rw [← hok]
          clear hok
          have HM3 := Lib.hid (show ResM (.slice (some ⟨mb, mo, none⟩) n c) m ∈ (ResM (.slice an (splitV m i P).length cn) (splitV m i P) :: Res.ints 3 (.slice pa j pc) P :: ss) ++ rs from by
            rw [List.cons_append, List.cons_append]
            exact List.mem_cons_of_mem _ (List.mem_cons_of_mem _ HM.out))
          cases ok with
          | false =>
            generalize (splitV m i P).length = nl at *
            go_wp2
            go_roundg g
            case measure => omega
            case rel => exact ⟨k + 1, _, n, c, m, _, rfl, by go_num, by omega, HN, HM3, HC3, HB3⟩
          | true =>
            have HMn := Lib.hid (show ResM (.slice an (splitV m i P).length cn) (splitV m i P) ∈ (ResM (.slice an (splitV m i P).length cn) (splitV m i P) :: Res.ints 3 (.slice pa j pc) P :: ss) ++ rs from by
              rw [List.cons_append]
              exact List.mem_cons_self)
            obtain ⟨nl, hnl⟩ : ∃ nl, nl = (splitV m i P).length := ⟨_, rfl⟩
            have HNl := Lib.hid hnl
            rw [← hnl] at HMn HM3 HC3 ⊢
            clear hnl
            have HO := Lib.hid (l1Once_i (z := 2) (fun w' hb => HK.out w' (HB3.out.trans hb)) HC3.out hz3 (by omega) (by omega))
            go_wp2_with fail
            (with_reducible refine HO.out.mono ?_)
            rintro e w4 ⟨b, rfl, hc, hb, -⟩
            have HC4 := Lib.hid hc
            have HB4 := Lib.hid (HB3.out.trans hb)
            clear hc hb HO HC3 HB3 hz3
            cases b with
            | false =>
              go_wp2
              go_roundg g
              case measure => omega
              case rel => exact ⟨k + 1, _, n, c, m, _, rfl, by go_num, by omega, HN, HM3, HC4, HB4⟩
            | true =>
              go_wp2
              go_roundg g
              case measure => omega
              case rel => exact ⟨k + 1, _, nl, cn, _, _, rfl, by go_num, by omega, HNl, HMn, HC4, HB4⟩
    · have hki : ¬ ((k : Int) < 2) := by omega
      go_wp2
      go_ret
      exact ⟨_, rfl, m, ss, HM.out, HC.out, HB.out⟩
end Go.Proofs.Ytlkgkfgpnnahdaa
end

section
/-
  Finite sums of integers; maps between finite ranges.
-/
namespace Go.Sd
/-- The sum of f over 0 .. n - 1. -/
def sumN : Nat → (Nat → Int) → Int
  | 0, _ => 0
  | n + 1, f => sumN n f + f n
theorem sumN_congr {n : Nat} {f g : Nat → Int} (h : ∀ i, i < n → f i = g i) : sumN n f = sumN n g := by
  induction n with
  | zero => rfl
  | succ n ih => rw [sumN, sumN, ih fun i hi => h i (by omega), h n (by omega)]
theorem sumN_zero {n : Nat} {f : Nat → Int} (h : ∀ i, i < n → f i = 0) : sumN n f = 0 := by
  induction n with
  | zero => rfl
  | succ n ih => rw [sumN, ih fun i hi => h i (by omega), h n (by omega)]; rfl
theorem sumN_add (n : Nat) (f g : Nat → Int) : sumN n (fun i => f i + g i) = sumN n f + sumN n g := by
  induction n with
  | zero => rfl
  | succ n ih => rw [sumN, sumN, sumN, ih]; omega
theorem sumN_sub (n : Nat) (f g : Nat → Int) : sumN n (fun i => f i - g i) = sumN n f - sumN n g := by
  induction n with
  | zero => rfl
  | succ n ih => rw [sumN, sumN, sumN, ih]; omega
theorem sumN_comm (n k : Nat) (F : Nat → Nat → Int) : sumN n (fun i => sumN k (F i)) = sumN k (fun j => sumN n (fun i => F i j)) := by
  induction n with
  | zero => exact (sumN_zero fun j _ => rfl).symm
  | succ n ih =>
    rw [sumN, ih, ← sumN_add]
    exact sumN_congr fun j _ => rfl
theorem sumN_le {n : Nat} {f g : Nat → Int} (h : ∀ i, i < n → f i ≤ g i) : sumN n f ≤ sumN n g := by
  induction n with
  | zero => exact Int.le_refl _
  | succ n ih =>
    rw [sumN, sumN]
    have h1 := ih fun i hi => h i (by omega)
    have h2 := h n (by omega)
    omega
theorem sumN_nonneg {n : Nat} {f : Nat → Int} (h : ∀ i, i < n → 0 ≤ f i) : 0 ≤ sumN n f := by
  have := sumN_le (f := fun _ => 0) h
  rw [sumN_zero fun _ _ => rfl] at this
  exact this
/-- One place alone counts. -/
theorem sumN_one {n p : Nat} (hp : p < n) (F : Nat → Int) : sumN n (fun j => if p = j then F j else 0) = F p := by
  induction n with
  | zero => omega
  | succ n ih =>
    rw [sumN]
    by_cases e : p = n
    · subst e
      rw [if_pos rfl, sumN_zero fun i hi => if_neg (by omega)]
      omega
    · rw [if_neg e, ih (by omega)]
      omega
theorem sumN_term {n p : Nat} (hp : p < n) {f : Nat → Int} (h : ∀ i, i < n → 0 ≤ f i) : f p ≤ sumN n f := by
  have h1 := sumN_le (n := n) (f := fun j => if p = j then f j else 0) (g := f) fun i hi => by
    split
    · exact Int.le_refl _
    · exact h i hi
  rw [sumN_one hp] at h1
  exact h1
/-- By classes. -/
theorem sumN_class {n k : Nat} {f : Nat → Nat} (hf : ∀ i, i < n → f i < k) (t : Nat → Int) : sumN n t = sumN k (fun C => sumN n (fun i => if f i = C then t i else 0)) := by
  rw [← sumN_comm n k fun i C => if f i = C then t i else 0]
  exact sumN_congr fun i hi => (sumN_one (hf i hi) fun _ => t i).symm
/-- What sums to nothing over every class sums to nothing over what is made of classes. -/
theorem sumN_made {n k : Nat} {f : Nat → Nat} (hf : ∀ i, i < n → f i < k) {t : Nat → Int} (ht : ∀ C, C < k → sumN n (fun i => if f i = C then t i else 0) = 0)
    {S : Nat → Prop} [DecidablePred S] (hS : ∀ i j, i < n → j < n → f i = f j → (S i ↔ S j)) : sumN n (fun i => if S i then t i else 0) = 0 := by
  rw [sumN_class hf]
  refine sumN_zero fun C hC => ?_
  by_cases h : ∃ i, i < n ∧ f i = C ∧ S i
  · obtain ⟨i0, h0, h1, h2⟩ := h
    refine (sumN_congr fun i hi => ?_).trans (ht C hC)
    by_cases e : f i = C
    · rw [if_pos e, if_pos e, if_pos ((hS i i0 hi h0 (by rw [e, h1])).2 h2)]
    · rw [if_neg e, if_neg e]
  · refine sumN_zero fun i hi => ?_
    by_cases e : f i = C
    · rw [if_pos e, if_neg fun hs => h ⟨i, hi, e, hs⟩]
    · exact if_neg e
/-- p and q are each other's inverses below n. -/
def Inv (n : Nat) (p q : Nat → Nat) : Prop := (∀ i, i < n → p i < n ∧ q (p i) = i) ∧ ∀ i, i < n → q i < n ∧ p (q i) = i
theorem Inv.symm {n : Nat} {p q : Nat → Nat} (h : Inv n p q) : Inv n q p := ⟨h.2, h.1⟩
theorem sumN_perm {n : Nat} {p q : Nat → Nat} (h : Inv n p q) (F : Nat → Int) : sumN n (fun i => F (p i)) = sumN n F := by
  have h1 : sumN n (fun i => F (p i)) = sumN n (fun i => sumN n (fun j => if p i = j then F j else 0)) := sumN_congr fun i hi => (sumN_one (h.1 i hi).1 F).symm
  rw [h1, sumN_comm n n fun i j => if p i = j then F j else 0]
  refine sumN_congr fun j hj => ?_
  refine (sumN_congr (g := fun i => if q j = i then F j else 0) fun i hi => ?_).trans (sumN_one (h.2 j hj).1 fun _ => F j)
  by_cases e : p i = j
  · rw [if_pos e, if_pos (by rw [← e, (h.1 i hi).2])]
  · rw [if_neg e, if_neg fun e2 => e (by rw [← e2, (h.2 j hj).2])]
/-- No more places than there are. -/
theorem inj_le : ∀ {n k : Nat} {f : Nat → Nat}, (∀ i, i < n → f i < k) → (∀ i j, i < n → j < n → f i = f j → i = j) → n ≤ k
  | 0, k, f, _, _ => Nat.zero_le k
  | n + 1, 0, f, h, _ => absurd (h 0 (by omega)) (by omega)
  | n + 1, k + 1, f, h, hi => by
    have h1 := inj_le (n := n) (k := k) (f := fun i => if f i = k then f n else f i) (fun i hn => by
      show (if f i = k then f n else f i) < k
      have h2 := h i (by omega)
      have h3 := h n (by omega)
      split
      · rename_i e
        have h4 : f n ≠ k := fun e2 => absurd (hi i n (by omega) (by omega) (by omega)) (by omega)
        omega
      · omega) (fun i j hin hjn e => by
      have e' : (if f i = k then f n else f i) = (if f j = k then f n else f j) := e
      by_cases h2 : f i = k <;> by_cases h3 : f j = k
      · exact hi i j (by omega) (by omega) (by omega)
      · rw [if_pos h2, if_neg h3] at e'
        exact absurd (hi n j (by omega) (by omega) e') (by omega)
      · rw [if_neg h2, if_pos h3] at e'
        exact absurd (hi i n (by omega) (by omega) e') (by omega)
      · rw [if_neg h2, if_neg h3] at e'
        exact hi i j (by omega) (by omega) e')
    omega
/-- What is injective has an inverse. -/
theorem inj_inv {n : Nat} {f : Nat → Nat} (h : ∀ i, i < n → f i < n) (hi : ∀ i j, i < n → j < n → f i = f j → i = j) : ∃ q, Inv n f q := by
  have hs : ∀ y, y < n → ∃ i, i < n ∧ f i = y := by
    intro y hy
    apply Classical.byContradiction
    intro hno
    have h1 := inj_le (n := n + 1) (k := n) (f := fun i => if i = n then y else f i) (fun i hin => by
      show (if i = n then y else f i) < n
      split
      · exact hy
      · exact h i (by omega)) (fun i j hin hjn e => by
      have e' : (if i = n then y else f i) = (if j = n then y else f j) := e
      by_cases h2 : i = n <;> by_cases h3 : j = n
      · omega
      · rw [if_pos h2, if_neg h3] at e'
        exact absurd ⟨j, by omega, e'.symm⟩ hno
      · rw [if_neg h2, if_pos h3] at e'
        exact absurd ⟨i, by omega, e'⟩ hno
      · rw [if_neg h2, if_neg h3] at e'
        exact hi i j (by omega) (by omega) e')
    omega
  refine ⟨fun y => if hy : y < n then Classical.choose (hs y hy) else 0, ?_, ?_⟩
  · intro i hin
    refine ⟨h i hin, ?_⟩
    have h1 := Classical.choose_spec (hs (f i) (h i hin))
    show (if hy : f i < n then Classical.choose (hs (f i) hy) else 0) = i
    rw [dif_pos (h i hin)]
    exact hi _ _ h1.1 hin h1.2
  · intro y hy
    have h1 := Classical.choose_spec (hs y hy)
    show (if hy : y < n then Classical.choose (hs y hy) else 0) < n ∧ f (if hy : y < n then Classical.choose (hs y hy) else 0) = y
    rw [dif_pos hy]
    exact h1
end Go.Sd
end

section
/-
  The first two vertices that can be joined; IsJoined.
-/
namespace Go.Proofs.Ytlkgkfgpnnahdaa
open Go.RowKit Go.Deep Go.Sd

/-- The first j of the next g ones that can be joined to i. -/
def rowF (m : List (List Int)) (i : Nat) : Nat → Nat → Option (List (List Int))
  | 0, _ => none
  | g + 1, j => if joinOk m i j = true then some (joinV m i j) else rowF m i g (j + 1)
def firstF (m : List (List Int)) : Nat → Nat → Option (List (List Int))
  | 0, _ => none
  | g + 1, i => match rowF m i (m.length - (i + 1)) (i + 1) with
    | some x => some x
    | none => firstF m g (i + 1)
def firstJ (m : List (List Int)) : Option (List (List Int)) := firstF m m.length 0
theorem firstF_some {m : List (List Int)} {g i : Nat} {x : List (List Int)} (h : rowF m i (m.length - (i + 1)) (i + 1) = some x) : firstF m (g + 1) i = some x := by
  unfold firstF; rw [h]
theorem firstF_none {m : List (List Int)} {g i : Nat} (h : rowF m i (m.length - (i + 1)) (i + 1) = none) : firstF m (g + 1) i = firstF m g (i + 1) := by
  conv => lhs; unfold firstF
  rw [h]

set_option maxHeartbeats 1000000 in
theorem joinFirst_c {w : World} {va : Value} {m : List (List Int)} (h1 : Tab w va m) :
    Calls Try.prog 78 #[va] w (Makes2 (OTab 3 33) w ((firstJ m).getD []) (firstJ m).isSome) := by
  have hlen := h1.len
  have hsa := h1.shape
  obtain ⟨aa, ac, rfl, _, _, _⟩ := hsa
  have HO := Lib.hid (show (firstJ m).isSome = (firstF m m.length 0).isSome from rfl)
  have HV := Lib.hid (show (firstJ m).getD [] = (firstF m m.length 0).getD [] from rfl)
  generalize (firstJ m).isSome = ok at HO ⊢
  generalize (firstJ m).getD [] = rv at HV ⊢
  have Hj := Lib.hid (fun w1 (i j : Nat) (hb : Below w.heap.size w w1) => impl_JoinOut_c (i := (i : Int)) (j := (j : Int)) (Tab.frame _ _ _ _ h1 hb))
  clear h1
  obtain ⟨T, hT⟩ : ∃ T, T = firstF m m.length 0 := ⟨_, rfl⟩
  rw [← hT] at HO HV
  have HT := Lib.hid hT
  clear hT
  go_enter Try.func78, Try.ntmps78
  go_wp2
  go_loopg [10] (m.length) (fun g ii wr => ∃ (i : Nat), ii = .int .i64 i ∧ i + g = m.length ∧ Hid (T = firstF m g i) ∧ Below w.heap.size w wr)
  case atStart => exact ⟨0, rfl, by omega, HT, Below.refl _ _⟩
  case round =>
    obtain ⟨i, rfl, hi, H, hbel⟩ := hrel
    obtain ⟨g, hg⟩ : ∃ g, g = gk := ⟨_, rfl⟩
    rw [← hg] at H hi
    by_cases hlt : i < m.length
    · obtain ⟨g', rfl⟩ : ∃ t, g = t + 1 := ⟨g - 1, by omega⟩
      have Hb := Lib.hid hbel
      clear hbel HT
      go_wp2
      go_loopg [5] (m.length - (i + 1)) (fun g2 jj wr => ∃ (j : Nat), jj = .int .i64 j ∧ j + g2 = m.length ∧ Hid (rowF m i (m.length - (i + 1)) (i + 1) = rowF m i g2 j) ∧ Below w.heap.size w wr)
      case atStart => exact ⟨i + 1, by go_num, by omega, Lib.hid rfl, Hb.out⟩
      case round =>
        obtain ⟨j, rfl, hj, H2, hbel⟩ := hrel
        clear Hb
        obtain ⟨q, hq⟩ : ∃ q, q = gk := ⟨_, rfl⟩
        rw [← hq] at H2 hj
        by_cases hlt2 : j < m.length
        · obtain ⟨q', rfl⟩ : ∃ t, q = t + 1 := ⟨q - 1, by omega⟩
          have H3 := Lib.hid (show rowF m i (m.length - (i + 1)) (i + 1) = if joinOk m i j = true then some (joinV m i j) else rowF m i q' (j + 1) from H2.out)
          have Hc := Lib.hid (Hj.out wr i j hbel)
          have Hb := Lib.hid hbel
          have hz := hbel.size
          clear H2 hbel
          cases hjo : joinOk m i j with
          | true =>
            have H4 := Lib.hid (show T = some (joinV m i j) from by rw [H.out]; exact firstF_some (by rw [H3.out, hjo]; rfl))
            rw [hjo] at Hc
            clear hjo H3
            go_wp2_with fail
            refine Hc.out.mono ?_
            rintro e w1 ⟨v1, rfl, hn1, hb1⟩
            have Hn1 := Lib.hid (hn1.mono hz)
            have Hb1 := Lib.hid (Hb.out.trans (hb1.mono hz))
            clear hn1 hb1
            go_wp2
            go_ret2
            exact ⟨_, by rw [HO.out, H4.out]; rfl, by rw [HV.out, H4.out]; exact Hn1.out, Hb1.out⟩
          | false =>
            have H4 := Lib.hid (show rowF m i (m.length - (i + 1)) (i + 1) = rowF m i q' (j + 1) from by rw [H3.out, hjo]; rfl)
            rw [hjo] at Hc
            clear hjo H3
            go_wp2_with fail
            refine Hc.out.mono ?_
            rintro e w1 ⟨v1, rfl, hn1, hb1⟩
            have Hb1 := Lib.hid (Hb.out.trans (hb1.mono hz))
            clear hn1 hb1
            go_wp2
            go_roundg q'
            case measure => omega
            case rel => exact ⟨j + 1, by go_num, by omega, H4, Hb1.out⟩
        · have e : q = 0 := by omega
          subst e
          have H3 := Lib.hid (show T = firstF m g' (i + 1) from by rw [H.out]; exact firstF_none H2.out)
          have Hb := Lib.hid hbel
          have e2 : j = m.length := by omega
          clear H2 hbel hq hj
          go_wp2
          go_roundg g'
          case measure => omega
          case rel => exact ⟨i + 1, by go_num, by omega, H3, Hb.out⟩
    · have e : g = 0 := by omega
      subst e
      have H2 := Lib.hid (show T = none from H.out)
      clear H hg
      go_wp2
      go_ret2
      exact ⟨_, by rw [HO.out, H2.out]; rfl, by rw [HV.out, H2.out]; exact New.nil _ _, hbel⟩

set_option maxHeartbeats 1000000 in
theorem l18First_c {w : World} {va : Value} {m : List (List Int)} (h1 : Tab w va m) :
    Calls Try.prog 97 #[va] w (Makes2 (OTab 3 33) w ((firstJ m).getD []) (firstJ m).isSome) := by
  have hlen := h1.len
  have hsa := h1.shape
  obtain ⟨aa, ac, rfl, _, _, _⟩ := hsa
  have HO := Lib.hid (show (firstJ m).isSome = (firstF m m.length 0).isSome from rfl)
  have HV := Lib.hid (show (firstJ m).getD [] = (firstF m m.length 0).getD [] from rfl)
  generalize (firstJ m).isSome = ok at HO ⊢
  generalize (firstJ m).getD [] = rv at HV ⊢
  have Hj := Lib.hid (fun w1 (i j : Nat) (hb : Below w.heap.size w w1) => spec_JoinOut_c (i := (i : Int)) (j := (j : Int)) (Tab.frame _ _ _ _ h1 hb))
  clear h1
  obtain ⟨T, hT⟩ : ∃ T, T = firstF m m.length 0 := ⟨_, rfl⟩
  rw [← hT] at HO HV
  have HT := Lib.hid hT
  clear hT
  go_enter Try.func97, Try.ntmps97
  go_wp2
  go_loopg [4] (m.length) (fun g ii wr => ∃ (i : Nat), ii = .int .i64 i ∧ i + g = m.length ∧ Hid (T = firstF m g i) ∧ Below w.heap.size w wr)
  case atStart => exact ⟨0, rfl, by omega, HT, Below.refl _ _⟩
  case round =>
    obtain ⟨i, rfl, hi, H, hbel⟩ := hrel
    obtain ⟨g, hg⟩ : ∃ g, g = gk := ⟨_, rfl⟩
    rw [← hg] at H hi
    by_cases hlt : i < m.length
    · obtain ⟨g', rfl⟩ : ∃ t, g = t + 1 := ⟨g - 1, by omega⟩
      have Hb := Lib.hid hbel
      clear hbel HT
      go_wp2
      go_loopg [5] (m.length - (i + 1)) (fun g2 jj wr => ∃ (j : Nat), jj = .int .i64 j ∧ j + g2 = m.length ∧ Hid (rowF m i (m.length - (i + 1)) (i + 1) = rowF m i g2 j) ∧ Below w.heap.size w wr)
      case atStart => exact ⟨i + 1, by go_num, by omega, Lib.hid rfl, Hb.out⟩
      case round =>
        obtain ⟨j, rfl, hj, H2, hbel⟩ := hrel
        clear Hb
        obtain ⟨q, hq⟩ : ∃ q, q = gk := ⟨_, rfl⟩
        rw [← hq] at H2 hj
        by_cases hlt2 : j < m.length
        · obtain ⟨q', rfl⟩ : ∃ t, q = t + 1 := ⟨q - 1, by omega⟩
          have H3 := Lib.hid (show rowF m i (m.length - (i + 1)) (i + 1) = if joinOk m i j = true then some (joinV m i j) else rowF m i q' (j + 1) from H2.out)
          have Hc := Lib.hid (Hj.out wr i j hbel)
          have Hb := Lib.hid hbel
          have hz := hbel.size
          clear H2 hbel
          cases hjo : joinOk m i j with
          | true =>
            have H4 := Lib.hid (show T = some (joinV m i j) from by rw [H.out]; exact firstF_some (by rw [H3.out, hjo]; rfl))
            rw [hjo] at Hc
            clear hjo H3
            go_wp2_with fail
            refine Hc.out.mono ?_
            rintro e w1 ⟨v1, rfl, hn1, hb1⟩
            have Hn1 := Lib.hid (hn1.mono hz)
            have Hb1 := Lib.hid (Hb.out.trans (hb1.mono hz))
            clear hn1 hb1
            go_wp2
            go_ret2
            exact ⟨_, by rw [HO.out, H4.out]; rfl, by rw [HV.out, H4.out]; exact Hn1.out, Hb1.out⟩
          | false =>
            have H4 := Lib.hid (show rowF m i (m.length - (i + 1)) (i + 1) = rowF m i q' (j + 1) from by rw [H3.out, hjo]; rfl)
            rw [hjo] at Hc
            clear hjo H3
            go_wp2_with fail
            refine Hc.out.mono ?_
            rintro e w1 ⟨v1, rfl, hn1, hb1⟩
            have Hb1 := Lib.hid (Hb.out.trans (hb1.mono hz))
            clear hn1 hb1
            go_wp2
            go_roundg q'
            case measure => omega
            case rel => exact ⟨j + 1, by go_num, by omega, H4, Hb1.out⟩
        · have e : q = 0 := by omega
          subst e
          have H3 := Lib.hid (show T = firstF m g' (i + 1) from by rw [H.out]; exact firstF_none H2.out)
          have Hb := Lib.hid hbel
          have e2 : j = m.length := by omega
          clear H2 hbel hq hj
          go_wp2
          go_roundg g'
          case measure => omega
          case rel => exact ⟨i + 1, by go_num, by omega, H3, Hb.out⟩
    · have e : g = 0 := by omega
      subst e
      have H2 := Lib.hid (show T = none from H.out)
      clear H hg
      go_wp2
      go_ret2
      exact ⟨_, by rw [HO.out, H2.out]; rfl, by rw [HV.out, H2.out]; exact New.empty wr hbel.size, hbel.alloc hbel.size _⟩

def joinedM (m : List (List Int)) : Bool := isMat m && !(firstJ m).isSome

set_option maxHeartbeats 400000 in
theorem impl_IsJoined_c {w : World} {va : Value} {m : List (List Int)} (h1 : Tab w va m) :
    Calls Try.prog 26 #[va] w fun e w' => e = .returned (.bool (joinedM m)) ∧ Below w.heap.size w w' := by
  have Hc := Lib.hid (impl_IsMatrix_c h1)
  have Hf := Lib.hid (joinFirst_c h1)
  have hsa := h1.shape
  obtain ⟨aa, ac, rfl, _, _, _⟩ := hsa
  cases hm : isMat m with
  | false =>
    have H := Lib.hid (show joinedM m = false from by unfold joinedM; rw [hm]; rfl)
    rw [hm] at Hc
    clear h1 hm
    go_enter Try.func26, Try.ntmps26
    go_wp2_with fail
    refine Hc.out.mono ?_
    rintro e w' ⟨rfl, rfl⟩
    go_wp2
    go_ret
    exact ⟨by rw [H.out]; rfl, Below.refl _ _⟩
  | true =>
    have H := Lib.hid (show joinedM m = !(firstJ m).isSome from by unfold joinedM; rw [hm]; rfl)
    rw [hm] at Hc
    clear h1 hm
    generalize (firstJ m).isSome = b at H Hf
    go_enter Try.func26, Try.ntmps26
    go_wp2_with fail
    refine Hc.out.mono ?_
    rintro e w' ⟨rfl, rfl⟩
    go_wp2_with fail
    refine Hf.out.mono ?_
    rintro e w1 ⟨v1, rfl, hn1, hb1⟩
    have Hb1 := Lib.hid hb1
    clear hn1 hb1
    go_wp2
    go_ret
    exact ⟨by rw [H.out]; rfl, Hb1.out⟩

set_option maxHeartbeats 400000 in
theorem spec_IsJoined_c {w : World} {va : Value} {m : List (List Int)} (h1 : Tab w va m) :
    Calls Try.prog 27 #[va] w fun e w' => e = .returned (.bool (joinedM m)) ∧ Below w.heap.size w w' := by
  have Hc := Lib.hid (fun w1 (hb : Below w.heap.size w w1) => spec_IsMatrix_c (Tab.frame _ _ _ _ h1 hb))
  have Hf := Lib.hid (l18First_c h1)
  have hsa := h1.shape
  obtain ⟨aa, ac, rfl, _, _, _⟩ := hsa
  have H := Lib.hid (show joinedM m = (isMat m && !(firstJ m).isSome) from rfl)
  clear h1
  generalize (firstJ m).isSome = b at H Hf
  cases hm : isMat m with
  | false =>
    have H2 := Lib.hid (show joinedM m = false from by rw [H.out, hm]; rfl)
    rw [hm] at Hc
    clear hm H
    go_enter Try.func27, Try.ntmps27
    go_wp2_with fail
    refine Hf.out.mono ?_
    rintro e w1 ⟨v1, rfl, hn1, hb1⟩
    go_wp2_with fail
    refine (Hc.out w1 hb1).mono ?_
    rintro e w' ⟨rfl, rfl⟩
    have Hb1 := Lib.hid hb1
    clear hn1 hb1
    go_wp2
    go_ret
    exact ⟨by rw [H2.out]; rfl, Hb1.out⟩
  | true =>
    have H2 := Lib.hid (show joinedM m = !b from by rw [H.out, hm]; rfl)
    rw [hm] at Hc
    clear hm H
    go_enter Try.func27, Try.ntmps27
    go_wp2_with fail
    refine Hf.out.mono ?_
    rintro e w1 ⟨v1, rfl, hn1, hb1⟩
    go_wp2_with fail
    refine (Hc.out w1 hb1).mono ?_
    rintro e w' ⟨rfl, rfl⟩
    have Hb1 := Lib.hid hb1
    clear hn1 hb1
    go_wp2
    go_ret
    exact ⟨by rw [H2.out]; rfl, Hb1.out⟩
end Go.Proofs.Ytlkgkfgpnnahdaa
end
