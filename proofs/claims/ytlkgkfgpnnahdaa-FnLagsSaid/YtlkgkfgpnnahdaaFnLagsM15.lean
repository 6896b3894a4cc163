/-
  Texts of this claim joined: laws for its walks, contracts of the functions that the law reaches.
-/
import Derived.Test.YtlkgkfgpnnahdaaRows
import Derived.Test.YtlkgkfgpnnahdaaFnLagsM1
import Derived.Test.YtlkgkfgpnnahdaaFnLagsM3
import Derived.Test.YtlkgkfgpnnahdaaFnLagsM4
import Derived.Test.YtlkgkfgpnnahdaaFnLagsM5
import Derived.Test.YtlkgkfgpnnahdaaFnLagsM11
import Derived.Test.YtlkgkfgpnnahdaaFnLagsM14
import Derived.IntWalk
import Derived.Deep.RegionLaw
import Derived.Test.YtlkgkfgpnnahdaaFnLagsM2
import Derived.Test.YtlkgkfgpnnahdaaFnLagsM8
import Derived.Test.YtlkgkfgpnnahdaaFnLagsM6
import Derived.Test.YtlkgkfgpnnahdaaFnLagsM12
import Derived.WalkSpells
import Derived.Test.YtlkgkfgpnnahdaaFnLagsM10
section
/-
  SplitOut, the reference's.
-/
namespace Go.Proofs.Ytlkgkfgpnnahdaa
open Go.RowKit Go.Deep Go.Sd

/-- The first k rows bear their last number already. -/
def splitF (m : List (List Int)) (I : Nat) (P : List Int) (n k : Nat) : List (List Int) := (List.range (n + 1)).map fun i => if i < k then rowOf' n (splitR m I P n i) ++ [splitR m I P n i I] else rowOf' n (splitR m I P n i)
theorem splitF_len (m : List (List Int)) (I : Nat) (P : List Int) (n k : Nat) : (splitF m I P n k).length = n + 1 := by simp [splitF]
theorem splitF_at {m : List (List Int)} {I : Nat} {P : List Int} {n k : Nat} (hk : k < n + 1) : (splitF m I P n k)[k]? = some (rowOf' n (splitR m I P n k)) := by simp [splitF, hk]
theorem splitF_full (m : List (List Int)) (I : Nat) (P : List Int) (n : Nat) : splitF m I P n (n + 1) = splitT m I P n := by
  unfold splitF splitT
  refine List.map_congr_left fun i hi => ?_
  rw [if_pos (List.mem_range.1 hi)]
theorem splitF_set {m : List (List Int)} {I : Nat} {P : List Int} {n k : Nat} : (splitF m I P n k).set k (rowOf' n (splitR m I P n k) ++ [splitR m I P n k I]) = splitF m I P n (k + 1) := by
  apply List.ext_getElem?
  intro j
  by_cases hj : j < n + 1
  · by_cases e : j = k
    · subst e
      rw [List.getElem?_set_self (by rw [splitF_len]; exact hj)]
      simp [splitF, hj]
    · rw [List.getElem?_set_ne (by omega)]
      simp only [splitF, List.getElem?_map, List.getElem?_range hj, Option.map_some]
      by_cases h : j < k
      · rw [if_pos h, if_pos (by omega)]
      · rw [if_neg h, if_neg (by omega)]
  · rw [List.getElem?_eq_none (by rw [List.length_set, splitF_len]; omega), List.getElem?_eq_none (by rw [splitF_len]; omega)]
theorem splitF_start {m : List (List Int)} {I : Nat} {P : List Int} {n : Nat} (hm : Sq n m) (hI : I < n) (hp : P.length = n) :
    m.set I P ++ [rowOf' n (splitR m I P n n)] = splitF m I P n 0 := by
  apply List.ext_getElem?
  intro j
  have hl : (m.set I P).length = n := by rw [List.length_set, hm.1]
  by_cases hj : j < n
  · rw [List.getElem?_append_left (by omega)]
    rw [show (splitF m I P n 0)[j]? = some (rowOf' n (splitR m I P n j)) from by simp [splitF, show j < n + 1 by omega]]
    by_cases e : j = I
    · subst e
      rw [List.getElem?_set_self (by rw [hm.1]; exact hj), splitR_part m P hj, ← row_full hp]
    · rw [List.getElem?_set_ne (by omega), (hm.row hj).1, splitR_row m P hj e]
      exact congrArg some (row_full (hm.row hj).2)
  · by_cases e : j = n
    · subst e
      rw [List.getElem?_append_right (by omega), hl]
      simp [splitF]
    · rw [List.getElem?_eq_none (by rw [List.length_append, hl]; simp; omega), List.getElem?_eq_none (by rw [splitF_len]; omega)]
set_option maxHeartbeats 2000000 in
set_option maxRecDepth 100000 in
theorem spec_SplitOut_c {w : World} {va vp : Value} {m : List (List Int)} {P : List Int} {i : Int} (h1 : Tab w va m) (h2 : Ints w vp P) :
    Calls Try.prog 171 #[va, .int .i64 i, vp] w (Makes2 (OTab 3 33) w (splitV m i P) (splitOk m i P)) := by
  have hsa := h1.shape
  obtain ⟨aa, ac, rfl, _, _, _⟩ := hsa
  have hsp := h2.shape
  obtain ⟨pa, pc, rfl, _, _, _⟩ := hsp
  have Hc := Lib.hid (spec_IsMatrix_c h1)
  have Hno := Lib.hid (fun (h : splitOk m i P = false) => show splitV m i P = [] from by unfold splitV; rw [h]; rfl)
  have hpl := h2.len
  cases hm : isMat m with
  | false =>
    have HK := Lib.hid (show splitOk m i P = false from by unfold splitOk; rw [hm]; rfl)
    rw [hm] at Hc
    rw [HK.out]
    clear h1 h2 hm
    go_enter Try.func171, Try.ntmps171
    go_wp2_with fail
    refine Hc.out.mono ?_
    rintro e w' ⟨rfl, rfl⟩
    go_wp2
    go_ret2
    exact ⟨_, rfl, by rw [Hno.out HK.out]; exact New.empty w (Nat.le_refl _), (Below.refl _ _).alloc (Nat.le_refl _) _⟩
  | true =>
    rw [hm] at Hc
    have sm := isMat_sq hm
    by_cases hij : m.length ≤ 8 ∧ 0 ≤ i ∧ i < m.length ∧ P.length = m.length
    · obtain ⟨I, rfl⟩ : ∃ I : Nat, i = (I : Int) := ⟨i.toNat, by omega⟩
      have HO := Lib.hid (show splitOk m I P = allF (partF m I P) m.length 0 from by unfold splitOk; rw [hm]; simp [hij])
      have HV := Lib.hid (show splitV m I P = if splitOk m I P = true then splitT m I P m.length else [] from rfl)
      generalize splitOk m I P = ok at HO HV Hno ⊢
      generalize splitV m I P = rv at HV Hno ⊢
      have Hpo := Lib.hid (fun (h : allF (partF m I P) m.length 0 = true) => partOk_of hm rfl (show I < m.length by omega) h)
      clear hm
      generalize hn : m.length = n at *
      have hIn : I < n := by omega
      have hn0 : 0 < n := by omega
      have hn8 : n ≤ 8 := hij.1
      have hp : P.length = n := hij.2.2.2
      have t9 : ((n : Int) == 9) = false := by simp; omega
      have tp : ((P.length : Int) != (n : Int)) = false := by simp [hp]
      have Hcp := Lib.hid (fun w1 (hb : Below w.heap.size w w1) => l4Copy_c (Tab.frame _ _ _ _ h1 hb) (by omega) (fun r hr => by rw [sm.1.2 r hr]; omega))
      have Hsq := Lib.hid sm.1
      have H2 := Lib.hid h2
      have Hp := Lib.hid hp
      have Hin := Lib.hid (l1In_yes (a := (I : Int)) (b := 0) (c := (n : Int) - 1) w (by omega) (by omega))
      obtain ⟨ab, ao, ac', hv1, hab, hae⟩ := h1.entAt hn sm.1.2 hn0
      obtain ⟨rfl, rfl⟩ : aa = some ⟨ab, ao, none⟩ ∧ ac = ac' := by simp at hv1; exact hv1
      obtain ⟨pb, po, pc', hv2, hpb, hpe⟩ := ints_at h2 hp hn0
      rw [hp] at hv2
      obtain ⟨rfl, rfl⟩ : pa = some ⟨pb, po, none⟩ ∧ pc = pc' := by simp at hv2; exact hv2
      obtain ⟨rb, ro, rc, hA1, hrb, _, hA2⟩ := hae.at hIn hn0
      have hi1 : (I : Int) < (n : Int) := by omega
      rw [hp] at hpl tp H2 ⊢
      clear h1 h2 sm hij hv1 hv2 hn hae hp
      go_enter Try.func171, Try.ntmps171
      go_wp2_with fail
      refine Hc.out.mono ?_
      rintro e w' ⟨rfl, rfl⟩
      go_wp2_with (go_at_call 100; refine Hin.out.mono ?_; rintro e w' ⟨rfl, rfl⟩)
      go_loopg [8] n (fun g ii wr => ∃ (k : Nat), ii = .int .i64 k ∧ k + g = n ∧ Hid (allF (partF m I P) n 0 = allF (partF m I P) g k) ∧ Drawn w wr)
      case atStart => exact ⟨0, rfl, by omega, Lib.hid rfl, Drawn.refl _⟩
      case round =>
        obtain ⟨k, rfl, hk, H, hdr⟩ := hrel
        obtain ⟨g, hg⟩ : ∃ g, g = gk := ⟨_, rfl⟩
        rw [← hg] at H hk
        by_cases hlt : k < n
        · obtain ⟨g', rfl⟩ : ∃ t, g = t + 1 := ⟨g - 1, by omega⟩
          have H1 := Lib.hid (show allF (partF m I P) n 0 = if partF m I P k = true then allF (partF m I P) g' (k + 1) else false from H.out)
          have hP3 := hpe k hlt
          have hA3 := hA2 k hlt
          have hk1 : (k : Int) < (n : Int) := by omega
          have hrule := hdr.cell
          clear H hpe hA2
          by_cases hx : 0 ≤ P.getD k 0 ∧ P.getD k 0 ≤ ent m I k
          · have H3 := Lib.hid (show allF (partF m I P) n 0 = allF (partF m I P) g' (k + 1) from by rw [H1.out, partF_t hx.1 hx.2, if_pos rfl])
            have Hl := Lib.hid (fun q => (l1In_yes (wr.drewN q) hx.1 hx.2).mono (fun e w'' h => (⟨h.1, q, h.2.symm⟩ : e = .returned (.bool true) ∧ ∃ q', w'' = wr.drewN q')))
            clear H1 hx
            generalize P.getD k 0 = X at *
            generalize ent m I k = Y at *
            go_wp2
            go_quiet ((go_at_call 100; exact Hl.out _))
            go_wp2
            go_roundg g'
            case measure => omega
            case rel => exact ⟨k + 1, by go_num, by omega, H3, hdr.drewN _⟩
          · have H3 := Lib.hid (show ok = false from by rw [HO.out, H1.out, partF_f hx]; rfl)
            have Hl := Lib.hid (fun q => (l1In_no (a := P.getD k 0) (b := 0) (c := ent m I k) (wr.drewN q) (by omega)).mono (fun e w'' h => (⟨h.1, q, h.2.symm⟩ : e = .returned (.bool false) ∧ ∃ q', w'' = wr.drewN q')))
            clear H1 hx
            generalize P.getD k 0 = X at *
            generalize ent m I k = Y at *
            have hz := hdr.heap
            have Hbb := Lib.hid (fun q => (hdr.drewN q).below w.heap.size)
            have hzs : w.heap.size ≤ wr.heap.size := by rw [hz]; exact Nat.le_refl _
            clear hz
            go_wp2
            go_quiet ((go_at_call 100; exact Hl.out _))
            go_wp2
            go_ret2
            exact ⟨_, by rw [H3.out]; rfl, by rw [Hno.out H3.out]; exact New.empty _ hzs, (Hbb.out _).alloc hzs _⟩
        · have e : g = 0 := by omega
          subst e
          have HC := Lib.hid (show allF (partF m I P) n 0 = true from H.out)
          have HK := Lib.hid (show ok = true from by rw [HO.out, HC.out])
          have HV2 := Lib.hid (show rv = splitT m I P n from by rw [HV.out, HK.out]; rfl)
          have Hok := Lib.hid (Hpo.out HC.out)
          have e2 : n = k := by omega
          subst e2
          clear hk H hg
          have hb0 := hdr.below w.heap.size
          have hz0 : w.heap.size = wr.heap.size := by rw [hdr.heap]
          obtain ⟨w1, rfl⟩ : ∃ w1 : World, w1 = wr := ⟨_, rfl⟩
          have Hcw := Lib.hid (Hcp.out _ hb0)
          have Hb0 := Lib.hid hb0
          have Hp' := Lib.hid (fun l (h : l < n) => hpe l h)
          have Ha' := Lib.hid (fun l (h : l < n) => hA2 l h)
          clear hdr hb0 Hcp Hpo Hin Hc
          clear hpe hA2
          go_wp2_with fail
          refine Hcw.out.mono ?_
          rintro e w2 ⟨v2, rfl, hn2, hb2⟩
          have hz2 := hb2.size
          have hmI := (Hsq.out.row hIn).1
          obtain ⟨gb, gc, _, hv, _, _, _, _, _, _, _⟩ := hn2.at (OInts.kept _) hmI
          rw [Hsq.out.1] at hv
          subst hv
          have Hn2 := Lib.hid hn2
          have Hbw := Lib.hid (Hb0.out.trans (hb2.mono (by omega)))
          have hpb2 : pb < w2.heap.size := by omega
          have hww : w.heap.size ≤ w2.heap.size := by omega
          clear hz0
          clear hn2 hb2 hmI Hcw
          go_wp2
          go_loopg [10, 11] n (fun g v ii wr => ∃ (k : Nat), ii = .int .i64 k ∧ k + g = n ∧ New (OInts 3) w2.heap.size wr v ((rowOf' n (splitR m I P n n)).take k) ∧ Below w2.heap.size w2 wr)
          case atStart => exact ⟨0, rfl, by omega, New.empty w2 (Nat.le_refl _), (Below.refl _ _).alloc (Nat.le_refl _) _⟩
          case round =>
            obtain ⟨k, rfl, hk, hnew, hbel⟩ := hrel
            obtain ⟨wo, rfl⟩ : ∃ wo : World, wo = wr := ⟨_, rfl⟩
            have hle := hbel.size
            have hbo := Hbw.out.trans (hbel.mono (by omega))
            have hrule := hbo.rule
            have Hbo := Lib.hid hbo
            have Hn := Lib.hid hnew
            have Hb := Lib.hid hbel
            have Hlk := Lib.hid (show ((rowOf' n (splitR m I P n n)).take k).length ≤ n from by rw [List.length_take]; omega)
            clear hnew hbel hbo
            by_cases hlt : k < n
            · have hP3 := Hp'.out k hlt
              have hA3 := Ha'.out k hlt
              obtain ⟨hd1, hd2, hd3⟩ := Hok.out k hlt
              have hk1 : (k : Int) < (n : Int) := by omega
              have Hs := Lib.hid (show _ = _ from take_snoc' (show (rowOf' n (splitR m I P n n))[k]? = some (ent m I k - P.getD k 0) from by rw [rowOf_at hlt, splitR_last]))
              generalize ent m I k = X at *
              generalize P.getD k 0 = Y at *
              have hw1 : wo.cell? ⟨ab, ao + I, none⟩ = some (.slice (some ⟨rb, ro, none⟩) n rc) := (hrule ab (ao + I) hab).trans hA1
              have hw2 : wo.cell? ⟨rb, ro + k, none⟩ = some (.int .i64 X) := (hrule rb (ro + k) hrb).trans hA3
              have hw3 : wo.cell? ⟨pb, po + k, none⟩ = some (.int .i64 Y) := (hrule pb (po + k) hpb).trans hP3
              have hxy : IntKind.i64.wrap (X - Y) = X - Y := IntWalk.i64_in _ (by omega)
              have Hww := Lib.hid hww
              clear hrule hA1 hA3 hP3
              go_wp2_with fail
              go_region_held3 (fun w' => w'.cell? ⟨ab, ao + I, none⟩ = some (.slice (some ⟨rb, ro, none⟩) n rc) ∧ w'.cell? ⟨rb, ro + k, none⟩ = some (.int .i64 X) ∧ w'.cell? ⟨pb, po + k, none⟩ = some (.int .i64 Y))
                (first
                  | exact hS1
                  | exact ⟨hw1, hw2, hw3⟩
                  | go_keep)
                ((first
                  | (refine step_push (w0 := wo) (lo := w2.heap.size) (y := X - Y) OIntR.kept (by rfl) (.tmp 66) (.tmp 79) 33 (by rfl) 3 (.int .i64 0) 8 Try.underlying33 infoI (by rfl) Hn.out hle (((Below.refl _ _).drew).alloc (Nat.le_refl _) _) ⟨[], ⟨rfl, rfl⟩, by simp [Fresh]⟩ (bb := wo.heap.size) (c := 1) (by simp) (by rfl) (by rfl) (by have := Hlk.out; omega) (by have := Hlk.out; omega) ?_
                     intro v1 wq hn1 _ _ hb1
                     have hS1 : wq.cell? ⟨ab, ao + I, none⟩ = some (.slice (some ⟨rb, ro, none⟩) n rc) ∧ wq.cell? ⟨rb, ro + k, none⟩ = some (.int .i64 X) ∧ wq.cell? ⟨pb, po + k, none⟩ = some (.int .i64 Y) := ⟨(hb1.cell (p := ⟨ab, ao + I, none⟩) (Nat.lt_of_lt_of_le hab Hww.out)).trans hw1, (hb1.cell (p := ⟨rb, ro + k, none⟩) (Nat.lt_of_lt_of_le hrb Hww.out)).trans hw2, (hb1.cell (p := ⟨pb, po + k, none⟩) hpb2).trans hw3⟩)
                  | fail))
              go_wp2
              go_roundg (n - (k + 1))
              case measure => omega
              case rel => exact ⟨k + 1, by go_num, by omega, by rw [← Hs.out]; exact hn1, Hb.out.trans hb1⟩
            · have e : k = n := by omega
              subst e
              clear hk
              obtain ⟨n, rfl⟩ : ∃ n : Nat, n = k := ⟨_, rfl⟩
              have hnew := Hn.out
              rw [rowOf_full] at hnew
              obtain ⟨xa, xn, xc, rfl⟩ := hnew.slice
              have hA := Apart.of_new (lo := w1.heap.size) (OTab.kept _ _) Hn2.out hnew Hb.out hz2
              obtain ⟨gb', gc', hv', _, hgl, hgb, ⟨u0, hgc0⟩, hgf, hst⟩ := hA.at (OInts.kept _) (OInts.kept _) (Hsq.out.row hIn).1
              obtain rfl : gb' = gb := by simp at hv'; exact hv'.1.symm
              have Hst := Lib.hid hst
              have Hsrc := Lib.hid (Ints.frame _ _ _ _ (Ints.frame _ _ _ _ H2.out Hbo.out) ((Below.refl wo.heap.size wo).alloc (Nat.le_refl _) (.cells #[] 3)))
              have hsz1 : w1.heap.size ≤ wo.heap.size := by omega
              clear hnew hA hv' hst hrule hA1
              have Hnx := Lib.hid (show ∀ w3 ya yn yc, Below wo.heap.size wo w3 → New (OInts 3) wo.heap.size w3 (.slice ya yn yc) P → ∃ v4 w4, (Builtin.append_ #[24, 24] 24 #[.slice (some ⟨gb', 0, none⟩) n gc, .slice (some ⟨w3.heap.size, 0, none⟩) 1 1]).run Try.prog ((w3.setCell ⟨gb', I, none⟩ (.slice ya yn yc)).alloc (.cells #[.slice xa xn xc] 33)) = .ok v4 w4 ∧ New (OTab 3 33) w1.heap.size w4 v4 (splitF m I P n 0) ∧ Below w1.heap.size w3 w4 from by
                intro w3 ya yn yc hb3 hn3
                have hz3 := hb3.size
                have hA3 := Hst.out w3 _ P hb3 hn3
                have hA4 := hA3.keep (OTab.kept _ _) (OInts.kept _) ((Below.refl (w3.setCell ⟨gb', I, none⟩ (.slice ya yn yc)).heap.size _).alloc (Nat.le_refl _) (.cells #[.slice xa xn xc] 33)) (Nat.le_refl _)
                obtain ⟨v4, w4, hr4, hn4, hb4⟩ := Apart.push (P := Try.prog) (bb := w3.heap.size) (c := 1) (OInts.kept _) 24 24 (.slice none 0 0) 24 Try.underlying24 infoR rfl hA4 (by simp; omega) (World.cell?_alloc_at _ _ _ 0 (by simp)) (by rw [List.length_set, Hsq.out.1]; omega) (by rw [List.length_set, Hsq.out.1]; omega)
                rw [splitF_start Hsq.out hIn Hp.out] at hn4
                exact ⟨v4, w4, hr4, hn4, ((((Below.refl w1.heap.size w3).setCell (p := ⟨gb', I, none⟩) hgl _).alloc (by simp; omega) _)).trans hb4⟩)
              clear Hst
              go_wp2_with (first
                | (at_builtin; refine wpl_append_vals (f := Value.int .i64) (fun _ => rfl) rfl (.tmp 83) (.tmp 84) 33 rfl 3 (.int .i64 0) 8 Try.underlying33 infoI rfl (New.empty (R := OValR (Value.int .i64)) (lo := wo.heap.size) wo (Nat.le_refl _)) (by simp) Hsrc.out rfl rfl (by rw [Hp.out]; simp; omega) (by rw [Hp.out]; simp; omega) ?_; intro v3 w3 hn3 _ _ hb3; obtain ⟨ya, yn, yc, rfl⟩ := hn3.slice; have hb3' := ((Below.refl wo.heap.size wo).alloc (Nat.le_refl _) (.cells #[] 3)).trans hb3; have hgc3 : w3.cell? ⟨gb', I, none⟩ = some u0 := (hb3'.cell (p := ⟨gb', I, none⟩) hgb).trans hgc0; have hgf3 : w3.frozen? ⟨gb', I, none⟩ = false := (hb3'.frozen (p := ⟨gb', I, none⟩) hgb).trans hgf; obtain ⟨v4, w4, hr4, hn4, hb4⟩ := Hnx.out w3 ya yn yc hb3' hn3; have Hr4 := Lib.hid hr4; have Hn4 := Lib.hid hn4; have Hb4 := Lib.hid ((hb3'.mono hsz1).trans hb4); obtain ⟨hb, hc, _, hv4, _⟩ := hn4.at (OInts.kept _) (splitF_at (k := 0) (Nat.succ_pos n)); rw [splitF_len] at hv4; subst hv4; clear hn3 hb3 hb3' hr4 hn4 hb4 Hnx)
                | (at_builtin; refine wpl_append_run rfl (.tmp 87) (.tmp 89) 24 rfl rfl rfl Hr4.out ?_)
                | fail)
              have hw1n : w.heap.size ≤ w1.heap.size := Hb0.out.size
              have Hbt := Lib.hid (Hbo.out.trans (Hb4.out.mono hw1n))
              have hw14 : w1.heap.size ≤ w4.heap.size := Nat.le_trans hsz1 Hb4.out.size
              clear hgc0 hgf hgb hgl hgc3 hgf3 hle hsz1 hz2 hww hpb2 hpb hab hrb
              go_loopg [12] (n + 1) (fun g ii wr => ∃ (k : Nat), ii = .int .i64 k ∧ k + g = n + 1 ∧ New (OTab 3 33) w1.heap.size wr (.slice (some ⟨hb, 0, none⟩) (n + 1) hc) (splitF m I P n k) ∧ Below w1.heap.size w4 wr)
              case atStart => exact ⟨0, rfl, by omega, Hn4.out, Below.refl _ _⟩
              case round =>
                obtain ⟨k, rfl, hk, hnew, hbel⟩ := hrel
                clear Hn4 Hb4 Hn2 Hbw Hsrc Hn Hb Hbo H2 Hr4
                have Hbk := Lib.hid hbel
                have hwr : w1.heap.size ≤ wr.heap.size := Nat.le_trans hw14 hbel.size
                by_cases hlt : k < n + 1
                · obtain ⟨b', c', rb2, rc2, hv, hnc, hlb, hltb, hcl, hrc, hrb2, hrne, hce, hpush⟩ := hnew.row_push (P := Try.prog) (splitF_at hlt) (rowOf_at hIn) 33 33 (.int .i64 0) 8 Try.underlying33 infoI rfl (by rw [rowOf_len]; omega) (by rw [rowOf_len]; omega)
                  obtain rfl : b' = hb := by simp at hv; exact hv.1.symm
                  rw [rowOf_len] at hcl
                  have HP := Lib.hid (show ∀ W : World, Below wr.heap.size wr W → W.cell? ⟨wr.heap.size, 0, none⟩ = some (.int .i64 (splitR m I P n k I)) → ∃ a' n' c' w2, (Builtin.append_ #[33, 33] 33 #[.slice (some ⟨rb2, 0, none⟩) n rc2, .slice (some ⟨wr.heap.size, 0, none⟩) 1 1]).run Try.prog W = .ok (.slice a' n' c') w2 ∧ w2.cell? ⟨b', k, none⟩ = some (.slice (some ⟨rb2, 0, none⟩) n rc2) ∧ w2.frozen? ⟨b', k, none⟩ = false ∧ Below w1.heap.size wr (w2.setCell ⟨b', k, none⟩ (.slice a' n' c')) ∧ New (OTab 3 33) w1.heap.size (w2.setCell ⟨b', k, none⟩ (.slice a' n' c')) (.slice (some ⟨b', 0, none⟩) (n + 1) hc) (splitF m I P n (k + 1)) from by
                    intro W hW hWc
                    obtain ⟨v', w2, hr, h1, h2, _, h4, h5⟩ := hpush W wr.heap.size 1 _ hW hWc
                    rw [splitF_set] at h5
                    rw [rowOf_len] at h1 hr
                    have h6 : ∃ a n c, v' = .slice a n c := by
                      obtain ⟨b2, c2, u2, hv2, _, _, _, hcu, _, hnu, _⟩ := h5.at (OInts.kept _) (i := k) (List.getElem?_eq_getElem (by rw [splitF_len]; omega))
                      simp at hv2
                      rw [← hv2.1, World.cell?_setCell_same _ _ _ h1] at hcu
                      cases hcu
                      exact hnu.slice
                    obtain ⟨a', n', c'', rfl⟩ := h6
                    exact ⟨a', n', c'', w2, hr, h1, h2, h4.setCell (p := ⟨b', k, none⟩) hlb _, h5⟩)
                  generalize splitR m I P n k I = x at *
                  clear hpush hv hnew hbel
                  go_wp2
                  go_region_law (first
                    | (obtain ⟨a', n', c', w2, hr, hc2, hf2, hb2, hn2⟩ := HP.out (wr.drew.alloc (.cells #[.int .i64 x] 3)) (((Below.refl _ _).drew).alloc (Nat.le_refl _) _) (World.cell?_alloc_at _ _ _ 0 rfl); refine step_append_run (by rfl) (.tmp 102) (.tmp 110) 33 (by rfl) (by rfl) (by rfl) hr ?_; have Hn9 := Lib.hid hn2; have Hb9 := Lib.hid hb2; clear hr hn2 hb2)
                    | (obtain ⟨a', n', c', w2, hr, hc2, hf2, hb2, hn2⟩ := HP.out ((wr.alloc (.cells #[.int .i64 x] 3)).drew) (((Below.refl _ _).alloc (Nat.le_refl _) _).drew) (World.cell?_alloc_at _ _ _ 0 rfl); refine step_append_run (by rfl) (.tmp 102) (.tmp 110) 33 (by rfl) (by rfl) (by rfl) hr ?_; have Hn9 := Lib.hid hn2; have Hb9 := Lib.hid hb2; clear hr hn2 hb2)
                    | fail)
                  all_goals (
                    go_wp2
                    go_roundg (n - k)
                    case measure => omega
                    case rel => exact ⟨k + 1, by go_num, by omega, Hn9.out, Hbk.out.trans Hb9.out⟩)
                · have e : k = n + 1 := by omega
                  subst e
                  rw [splitF_full] at hnew
                  have Hr := Lib.hid (hnew.mono hw1n)
                  have Hbz := Lib.hid (Hbt.out.trans (Hbk.out.mono hw1n))
                  clear hnew hbel Hbk hk
                  go_wp2
                  go_ret2
                  exact ⟨_, by rw [HK.out]; rfl, by rw [HV2.out]; exact Hr.out, Hbz.out⟩
    · have HK := Lib.hid (show splitOk m i P = false from by unfold splitOk; simp [hij])
      rw [HK.out]
      have hm9 := sm.2
      clear h1 h2 hm sm
      generalize m.length = n at *
      generalize P.length = p at *
      by_cases h9 : n = 9
      · clear hij
        subst h9
        go_enter Try.func171, Try.ntmps171
        go_wp2_with fail
        refine Hc.out.mono ?_
        rintro e w' ⟨rfl, rfl⟩
        go_wp2
        go_ret2
        exact ⟨_, rfl, by rw [Hno.out HK.out]; exact New.empty w (Nat.le_refl _), (Below.refl _ _).alloc (Nat.le_refl _) _⟩
      have t9 : ((n : Int) == 9) = false := by simp; omega
      by_cases h0 : i < 0 ∨ (n : Int) - 1 < i
      · have Hin := Lib.hid (l1In_no (a := i) (b := 0) (c := (n : Int) - 1) w h0)
        clear hij h0
        go_enter Try.func171, Try.ntmps171
        go_wp2_with fail
        refine Hc.out.mono ?_
        rintro e w' ⟨rfl, rfl⟩
        go_wp2_with (go_at_call 100; refine Hin.out.mono ?_; rintro e w' ⟨rfl, rfl⟩)
        go_ret2
        exact ⟨_, rfl, by rw [Hno.out HK.out]; exact New.empty w (Nat.le_refl _), (Below.refl _ _).alloc (Nat.le_refl _) _⟩
      have Hin := Lib.hid (l1In_yes (a := i) (b := 0) (c := (n : Int) - 1) w (by omega) (by omega))
      have tp : ((p : Int) != (n : Int)) = true := by simp; omega
      clear hij h0
      go_enter Try.func171, Try.ntmps171
      go_wp2_with fail
      refine Hc.out.mono ?_
      rintro e w' ⟨rfl, rfl⟩
      go_wp2_with (go_at_call 100; refine Hin.out.mono ?_; rintro e w' ⟨rfl, rfl⟩)
      go_ret2
      exact ⟨_, rfl, by rw [Hno.out HK.out]; exact New.empty w (Nat.le_refl _), (Below.refl _ _).alloc (Nat.le_refl _) _⟩
end Go.Proofs.Ytlkgkfgpnnahdaa
end

section
/-
  SplitPair: what it makes.
-/
namespace Go.Proofs.Ytlkgkfgpnnahdaa
open Go.RowKit Go.Deep Go.Sd

def pairE (n I k l : Nat) : Int := if l = k ∨ (k = I ∧ l = n) then 1 else 0
def pairR (n I : Nat) : List (List Int) := tabOf n (n + 1) (pairE n I)
def pairS (m : List (List Int)) (I : Nat) (P : List Int) (n : Nat) : List (List Int) := tabOf (n + 1) n (splitR m I P n)
def pairRV (m : List (List Int)) (i : Int) (P : List Int) : List (List Int) := if splitOk m i P = true then pairR m.length i.toNat else []
def pairSV (m : List (List Int)) (i : Int) (P : List Int) : List (List Int) := if splitOk m i P = true then pairS m i.toNat P m.length else []
theorem pairRV_no {m : List (List Int)} {i : Int} {P : List Int} (h : splitOk m i P = false) : pairRV m i P = [] := by unfold pairRV; rw [if_neg (by rw [h]; simp)]
theorem pairSV_no {m : List (List Int)} {i : Int} {P : List Int} (h : splitOk m i P = false) : pairSV m i P = [] := by unfold pairSV; rw [if_neg (by rw [h]; simp)]
theorem splitOk_of {m : List (List Int)} {i : Int} {P : List Int} (h : splitOk m i P = true) : ∃ I n : Nat, i = (I : Int) ∧ m.length = n ∧ I < n ∧ n ≤ 8 ∧ P.length = n ∧ splitV m i P = splitT m I P n ∧ pairRV m i P = pairR n I ∧ pairSV m i P = pairS m I P n := by
  have h2 := h
  unfold splitOk at h2
  simp only [Bool.and_eq_true, decide_eq_true_eq] at h2
  refine ⟨i.toNat, m.length, by omega, rfl, by omega, by omega, by omega, ?_, ?_, ?_⟩
  · unfold splitV; rw [if_pos h]
  · unfold pairRV; rw [if_pos h]
  · unfold pairSV; rw [if_pos h]
theorem pairR_bd {n I : Nat} (h : n ≤ 8) : (pairR n I).length ≤ 9 ∧ ∀ x, x ∈ pairR n I → x.length ≤ 9 := ⟨by rw [pairR, tabOf_len]; omega, fun x hx => by rw [mem_tabOf hx]; omega⟩
theorem pairS_bd {m : List (List Int)} {I n : Nat} {P : List Int} (h : n ≤ 8) : (pairS m I P n).length ≤ 9 ∧ ∀ x, x ∈ pairS m I P n → x.length ≤ 9 := ⟨by rw [pairS, tabOf_len]; omega, fun x hx => by rw [mem_tabOf hx]; omega⟩
theorem pairRV_bd (m : List (List Int)) (i : Int) (P : List Int) : (pairRV m i P).length ≤ 9 ∧ ∀ x, x ∈ pairRV m i P → x.length ≤ 9 := by
  cases h : splitOk m i P with
  | false => rw [pairRV_no h]; exact ⟨by simp, fun x hx => by cases hx⟩
  | true =>
    obtain ⟨I, n, _, _, _, h8, _, _, e, _⟩ := splitOk_of h
    rw [e]; exact pairR_bd h8
theorem pairSV_bd (m : List (List Int)) (i : Int) (P : List Int) : (pairSV m i P).length ≤ 9 ∧ ∀ x, x ∈ pairSV m i P → x.length ≤ 9 := by
  cases h : splitOk m i P with
  | false => rw [pairSV_no h]; exact ⟨by simp, fun x hx => by cases hx⟩
  | true =>
    obtain ⟨I, n, _, _, _, h8, _, _, _, e⟩ := splitOk_of h
    rw [e]; exact pairS_bd h8

/-- A row as the program fills it. -/
theorem pairRow_other {n I k : Nat} (hk : k < n) (h : k ≠ I) : (List.replicate (n + 1) (0 : Int)).set k 1 = rowOf' (n + 1) (pairE n I k) := by
  rw [← rowOf_const (n + 1) 0, rowOf_set]
  refine rowOf_congr fun l hl => ?_
  unfold pairE
  by_cases e : l = k
  · rw [if_pos e, if_pos (Or.inl e)]
  · rw [if_neg e, if_neg (by omega)]
theorem pairRow_split {n I : Nat} (hk : I < n) : ((List.replicate (n + 1) (0 : Int)).set I 1).set n 1 = rowOf' (n + 1) (pairE n I I) := by
  rw [← rowOf_const (n + 1) 0, rowOf_set, rowOf_set]
  refine rowOf_congr fun l hl => ?_
  unfold pairE
  by_cases e : l = n
  · rw [if_pos e, if_pos (by omega)]
  · rw [if_neg e]
    by_cases e2 : l = I
    · rw [if_pos e2, if_pos (Or.inl e2)]
    · rw [if_neg e2, if_neg (by omega)]

/-- The reference's table when k ones are in. -/
def pairD (n k : Nat) : List (List Int) := tabOf n (n + 1) (fun i j => if j = i ∧ i < k then 1 else 0)
theorem pairD_start (n : Nat) : pairD n 0 = List.replicate n (List.replicate (n + 1) 0) := by
  rw [← tabOf_const]
  exact tabOf_congr fun i _ j _ => if_neg (by omega)
theorem pairD_row {n k i : Nat} (h : i < n) : (pairD n k)[i]? = some (rowOf' (n + 1) (fun j => if j = i ∧ i < k then 1 else 0)) := tabOf_at h
theorem pairD_set {n k : Nat} : (pairD n k).set k ((rowOf' (n + 1) (fun j => if j = k ∧ k < k then 1 else 0)).set k 1) = pairD n (k + 1) := by
  unfold pairD
  rw [tabOf_set2 n (n + 1) (fun i j => if j = i ∧ i < k then 1 else 0) k k]
  refine tabOf_congr fun i _ j _ => ?_
  show (if i = k ∧ j = k then (1 : Int) else if j = i ∧ i < k then 1 else 0) = if j = i ∧ i < k + 1 then 1 else 0
  by_cases h : i = k ∧ j = k
  · rw [if_pos h, if_pos (by omega)]
  · rw [if_neg h]
    by_cases h2 : j = i ∧ i < k
    · rw [if_pos h2, if_pos (by omega)]
    · rw [if_neg h2, if_neg (by omega)]
theorem pairD_last {n I : Nat} (h : I < n) : (pairD n n).set I ((rowOf' (n + 1) (fun j => if j = I ∧ I < n then 1 else 0)).set n 1) = pairR n I := by
  unfold pairD pairR
  rw [tabOf_set2 n (n + 1) (fun i j => if j = i ∧ i < n then 1 else 0) I n]
  refine tabOf_congr fun i hi j _ => ?_
  show (if i = I ∧ j = n then (1 : Int) else if j = i ∧ i < n then 1 else 0) = pairE n I i j
  unfold pairE
  by_cases h1 : i = I ∧ j = n
  · rw [if_pos h1, if_pos (Or.inr h1)]
  · rw [if_neg h1]
    by_cases h2 : j = i ∧ i < n
    · rw [if_pos h2, if_pos (Or.inl h2.1)]
    · rw [if_neg h2, if_neg (by omega)]
theorem ent_splitT {m : List (List Int)} {I n k l : Nat} {P : List Int} (hk : k < n + 1) (hl : l < n) : ent (splitT m I P n) k l = splitR m I P n k l := by
  have e : (splitT m I P n).getD k [] = rowOf' n (splitR m I P n k) ++ [splitR m I P n k I] := by rw [List.getD_eq_getElem?_getD, splitT_at hk]; rfl
  unfold ent
  rw [e, List.getD_eq_getElem?_getD, List.getElem?_append_left (by rw [rowOf_len]; exact hl), rowOf_at hl]
  rfl
end Go.Proofs.Ytlkgkfgpnnahdaa
end

section
/-
  SplitPair, both sides.
-/
namespace Go.Proofs.Ytlkgkfgpnnahdaa
open Go.RowKit Go.Deep Go.Sd

set_option maxHeartbeats 1000000 in
theorem spec_SplitPair_c {w : World} {va vp : Value} {m : List (List Int)} {P : List Int} {i : Int} (h1 : Tab w va m) (h2 : Ints w vp P) :
    Calls Try.prog 170 #[va, .int .i64 i, vp] w (Makes3 (OTab 3 33) (OTab 3 33) w (pairRV m i P) (pairSV m i P) (splitOk m i P)) := by
  have Hc := Lib.hid (spec_SplitOut_c (i := i) h1 h2)
  cases hok : splitOk m i P with
  | false =>
    rw [pairRV_no hok, pairSV_no hok]
    rw [hok] at Hc
    obtain ⟨_, _, rfl, _, _, _⟩ := h1.shape
    obtain ⟨_, _, rfl, _, _, _⟩ := h2.shape
    clear h1 h2 hok
    go_enter Try.func170, Try.ntmps170
    go_wp2_with fail
    refine Hc.out.mono ?_
    rintro e w1 ⟨v1, rfl, hn1, hb1⟩
    have Hb1 := Lib.hid hb1
    clear hn1 hb1
    go_wp2
    go_ret3
    exact ⟨_, _, rfl, Apart.empties (OInts.kept _) _ Hb1.out.size, (Hb1.out.alloc Hb1.out.size _).alloc (by have := Hb1.out.size; simp; omega) _⟩
  | true =>
    obtain ⟨I, n, rfl, hn, hI, hn8, hp, eT, eR, eS⟩ := splitOk_of hok
    rw [eR, eS]
    rw [eT, hok] at Hc
    obtain ⟨aa, ac, rfl, _, _, _⟩ := h1.shape
    obtain ⟨pa, pc, rfl, _, _, _⟩ := h2.shape
    have hac : n ≤ 9223372036854775807 := by omega
    rw [hn, hp] at Hc ⊢
    clear h1 h2 hok eT eR eS hn hp
    go_enter Try.func170, Try.ntmps170
    go_wp2_with fail
    refine Hc.out.mono ?_
    rintro e w1 ⟨v1, rfl, hn1, hb1⟩
    have hz1 := hb1.size
    obtain ⟨ob, oo, oc, rfl, hob, hoe⟩ := hn1.tab.entAt (n := n + 1) (splitT_len _ _ _ _) (splitT_sq m I P n).2 (by omega)
    have Hb1 := Lib.hid hb1
    have Hz := Lib.hid (l4Zero_c (w := w1) (p := n) (r := n + 1) (by omega) (by omega))
    clear hn1 hb1 Hc
    go_wp2_with fail
    refine Hz.out.mono ?_
    rintro e w2 ⟨v2, rfl, hn2, hb2⟩
    rw [← pairD_start n] at hn2
    have ha0 := Apart.of_new (lo := w1.heap.size) (OTab.kept _ _) hn2 (New.empty (e := 33) (R := OInts 3) (lo := w2.heap.size) w2 (Nat.le_refl _)) ((Below.refl _ _).alloc (Nat.le_refl _) _) hb2.size
    obtain ⟨gb, gc, _, _, hv2, _, hgb, hgb2, _⟩ := ha0.tab_store (OTab.kept _ _) (pairD_row (show I < n from hI)) (j := 0) (x := _) (rowOf_at (by omega))
    rw [show (pairD n 0).length = n from tabOf_len _ _ _] at hv2
    subst hv2
    have Ha0 := Lib.hid ha0
    have Hb2 := Lib.hid (hb2.alloc hb2.size (.cells #[] 33))
    clear hn2 hb2 ha0 Hz
    go_wp2
    go_loopg [13] n (fun g ii wr => ∃ (k : Nat), ii = .int .i64 k ∧ k + g = n ∧ Apart (OTab 3 33) (OTab 3 33) w1.heap.size wr (.slice (some ⟨gb, 0, none⟩) n gc) (pairD n k) (.slice (some ⟨w2.heap.size, 0, none⟩) 0 0) [] ∧ Below w1.heap.size w1 wr)
    case atStart => exact ⟨0, rfl, by omega, Ha0.out, Hb2.out⟩
    case round =>
      obtain ⟨k, rfl, hk, hap, hbel⟩ := hrel
      clear Ha0 Hb2
      by_cases hlt : k < n
      · obtain ⟨b', c', rb, rc, hv, _, hlb, hltb, hcl, _, hlrb, hrb, hce, hfr, hst⟩ := hap.tab_store (OTab.kept _ _) (pairD_row hlt) (j := k) (x := 0) (by rw [rowOf_at (by omega), if_neg (by omega)])
        obtain rfl : b' = gb := by simp at hv; exact hv.1.symm
        rw [rowOf_len] at hcl
        have Hst := Lib.hid (by have := hst 1; rw [pairD_set] at this; exact this)
        have Hb3 := Lib.hid (hbel.setCell (p := ⟨rb, k, none⟩) hlrb (.int .i64 1))
        clear hv hst hap hbel
        go_wp2
        go_roundg (n - (k + 1))
        case measure => omega
        case rel => exact ⟨k + 1, by go_num, by omega, Hst.out, Hb3.out⟩
      · have e : k = n := by omega
        subst e
        obtain ⟨n, rfl⟩ : ∃ n : Nat, n = k := ⟨_, rfl⟩
        obtain ⟨b', c', rb, rc, hv, _, hlb, hltb, hcl, _, hlrb, hrb, hce, hfr, hst⟩ := hap.tab_store (OTab.kept _ _) (pairD_row hI) (j := n) (x := 0) (by rw [rowOf_at (by omega), if_neg (by omega)])
        obtain rfl : b' = gb := by simp at hv; exact hv.1.symm
        rw [rowOf_len] at hcl
        have Ha := Lib.hid (by have := hst 1; rw [pairD_last hI] at this; exact this.symm)
        have Hb2 := Lib.hid (hbel.setCell (p := ⟨rb, n, none⟩) hlrb (.int .i64 1))
        clear hv hst hap hbel hk
        go_wp2
        go_loopg [12, 14] (n + 1) (fun g v ii wr => ∃ (k : Nat), ii = .int .i64 k ∧ k + g = n + 1 ∧ Apart (OTab 3 33) (OTab 3 33) w1.heap.size wr v ((pairS m I P n).take k) (.slice (some ⟨b', 0, none⟩) n gc) (pairR n I) ∧ Below w1.heap.size w1 wr)
        case atStart => exact ⟨0, rfl, by omega, Ha.out, Hb2.out⟩
        case round =>
          obtain ⟨k, rfl, hk, hap, hbel⟩ := hrel
          clear Ha Hb2
          have hle := hbel.size
          obtain ⟨qa, qn, qc, rfl⟩ := hap.left.slice
          have Ha := Lib.hid hap
          have Hb := Lib.hid hbel
          by_cases hlt : k < n + 1
          · obtain ⟨rb, ro, rc, hA1, hrb, hA4, hA2⟩ := hoe.at hlt (by omega)
            have hcap := Ints.capn hA4
            have Hsrc := Lib.hid (show SlOf (ValR (Value.int .i64)) (wr.alloc (.cells #[] 3)) (.slice (some ⟨rb, ro, none⟩) n rc) (rowOf' n (splitR m I P n k)) from by
              have h := Ints.part (w := w1) (b := rb) (o := ro) (l := n + 1) (g := fun j => ent (splitT m I P n) k j) hA2 hrb (s := 0) (len := n) (c := rc) (by omega) (by omega) (by omega)
              rw [Nat.add_zero, rowOf_congr (g := splitR m I P n k) fun j hj => by rw [Nat.zero_add]; exact ent_splitT hlt hj] at h
              exact Ints.frame _ _ _ _ (Ints.frame _ _ _ _ h (hbel.mono (Nat.le_refl _))) ((Below.refl _ _).alloc (Nat.le_refl _) _))
            have hob2 : ob < wr.heap.size := by omega
            have hA5 : wr.cell? ⟨ob, oo + k, none⟩ = some (.slice (some ⟨rb, ro, none⟩) (n + 1) rc) := (hbel.rule ob (oo + k) hob).trans hA1
            have hc1 : n ≤ rc := by omega
            have hc2 : (n : Int) ≤ (rc : Int) := by omega
            have Hs := Lib.hid (show _ = _ from take_snoc' (show (pairS m I P n)[k]? = some (rowOf' n (splitR m I P n k)) from tabOf_at hlt))
            have Hlk := Lib.hid (show ((pairS m I P n).take k).length ≤ n + 1 from by rw [List.length_take]; omega)
            have Hm := Lib.hid (show ∀ wm ya yn yc, New (OInts 3) wr.heap.size wm (.slice ya yn yc) (rowOf' n (splitR m I P n k)) → Below wr.heap.size wr wm → ∃ xa xn xc w', (Builtin.append_ #[24, 24] 24 #[.slice qa qn qc, .slice (some ⟨wm.heap.size, 0, none⟩) 1 1]).run Try.prog (wm.alloc (.cells #[.slice ya yn yc] 33)) = .ok (.slice xa xn xc) w' ∧ Apart (OTab 3 33) (OTab 3 33) w1.heap.size w' (.slice xa xn xc) ((pairS m I P n).take (k + 1)) (.slice (some ⟨b', 0, none⟩) n gc) (pairR n I) ∧ Below w1.heap.size wr w' from by
              intro wm ya yn yc hn hb
              have hz := hb.size
              obtain ⟨v', w', hr, hap', hb'⟩ := Apart.grow (P := Try.prog) (OInts.kept _) (OTab.kept _ _) 24 24 (.slice none 0 0) 24 Try.underlying24 infoR rfl Ha.out hle (w1 := wm.alloc (.cells #[.slice ya yn yc] 33)) (hb.alloc (by omega) _) (New.keep (OInts.kept _) hn ((Below.refl _ _).alloc (Nat.le_refl _) _) (Nat.le_refl _)) (bb := wm.heap.size) (c := 1) (World.cell?_alloc_at _ _ _ 0 rfl) (by have := Hlk.out; omega) (by have := Hlk.out; omega)
              rw [Hs.out] at hap'
              obtain ⟨xa, xn, xc, rfl⟩ := hap'.left.slice
              exact ⟨_, _, _, w', hr, hap', hb'⟩)
            clear hap hbel hA4 hA2 hoe Ha hcap hA1
            go_wp2_with (first
              | (at_builtin; refine wpl_append_vals (f := Value.int .i64) (fun _ => rfl) rfl (.tmp 58) (.tmp 65) 33 rfl 3 (.int .i64 0) 8 Try.underlying33 infoI rfl (New.empty (R := OValR (Value.int .i64)) (lo := wr.heap.size) wr (Nat.le_refl _)) (by simp) Hsrc.out rfl rfl (by rw [rowOf_len]; simp; omega) (by rw [rowOf_len]; simp; omega) ?_; intro um wm hnm _ _ hbm; obtain ⟨ya, yn, yc, rfl⟩ := hnm.slice; obtain ⟨xa, xn, xc, w', hr, hap, hb'⟩ := Hm.out wm ya yn yc hnm (((Below.refl wr.heap.size wr).alloc (Nat.le_refl _) (.cells #[] 3)).trans hbm); have Hr := Lib.hid hr; have Hap := Lib.hid hap; have Hb' := Lib.hid (Hb.out.trans hb'); clear hnm hbm hr hap hb' Hm)
              | (at_builtin; refine wpl_append_run rfl (.tmp 57) (.tmp 67) 24 rfl rfl rfl Hr.out ?_)
              | fail)
            go_roundg (n + 1 - (k + 1))
            case measure => omega
            case rel => exact ⟨k + 1, by go_num, by omega, Hap.out, Hb'.out⟩
          · have e : k = n + 1 := by omega
            subst e
            rw [show (pairS m I P n).take (n + 1) = pairS m I P n from tabOf_full] at hap
            have Hf := Lib.hid (hap.symm.mono hz1)
            have Hbf := Lib.hid (Hb1.out.trans (hbel.mono hz1))
            clear hap hbel Ha Hb hk
            go_wp2
            go_ret3
            exact ⟨_, _, rfl, Hf.out, Hbf.out⟩
end Go.Proofs.Ytlkgkfgpnnahdaa
end

section
/-
  TurnStep, both sides.
-/
namespace Go.Proofs.Ytlkgkfgpnnahdaa
open Go.RowKit Go.Deep Go.Sd
theorem cntStp_turn (a : Tb × Tb) : cntStp (a.2, a.1) = cntStp a := Int.add_comm _ _
set_option maxHeartbeats 1000000 in
theorem spec_TurnStep_c {w : World} {v : Value} {x : Tb × Tb} (h : StepR w v x) (hs : StpSz x) :
    Calls Try.prog 172 #[v] w (Makes (OStep 3 33) w (x.2, x.1)) := by
  obtain ⟨v1, v2, rfl, t1, t2⟩ := h
  have Hc := Lib.hid (fun w1 (hb : Below w.heap.size w w1) => l4Copy_c (Tab.frame _ _ _ _ t1 hb) hs.1.1 hs.1.2)
  have Hd := Lib.hid (fun w1 (hb : Below w.heap.size w w1) => l4Copy_c (Tab.frame _ _ _ _ t2 hb) hs.2.1 hs.2.2)
  clear t1 t2 hs
  obtain ⟨x1, x2⟩ := x
  go_enter Try.func172, Try.ntmps172
  go_wp2
  have Hb0 := Lib.hid ((((Below.refl w.heap.size w).alloc (Nat.le_refl _) (.cells #[v1, v2] 41)).alloc (by simp <;> omega) (.cells #[.slice none 0 0, .slice none 0 0] 41)).drew)
  go_region_law (first
    | (go_simp; go_at_call 81; have Hbg := Hb1; go_must (refine (Hc.out _ Hb1.out).mono ?_; rintro e w2 ⟨u2, rfl, hn2, hb2⟩; obtain ⟨va, vn, vc, rfl⟩ := hn2.slice; have cB2 : w2.cell? ⟨w.heap.size + 1, 0, none⟩ = some (.slice none 0 0) := (hb2.cell (p := ⟨w.heap.size + 1, 0, none⟩) (by simp <;> omega)).trans cB; have cC2 : w2.cell? ⟨w.heap.size + 1, 1, none⟩ = some (.slice none 0 0) := (hb2.cell (p := ⟨w.heap.size + 1, 1, none⟩) (by simp <;> omega)).trans cC; have fB2 : w2.frozen? ⟨w.heap.size + 1, 0, none⟩ = false := (hb2.frozen (p := ⟨w.heap.size + 1, 0, none⟩) (by simp <;> omega)).trans fB; have fC2 : w2.frozen? ⟨w.heap.size + 1, 1, none⟩ = false := (hb2.frozen (p := ⟨w.heap.size + 1, 1, none⟩) (by simp <;> omega)).trans fC; have Hn := Lib.hid (New.pair (lo := w.heap.size + 1 + 1) (Hn1.out.mono (by first | omega | (simp <;> omega))) hn2 hb2 (by omega)); have Hb := Lib.hid (Hb1.out.trans (hb2.mono (by omega))); clear hn2 hb2 cA cB cC fB fC Hbg))
    | (go_simp; go_at_call 81; refine (Hd.out _ Hb0.out).mono ?_; rintro e w1 ⟨u1, rfl, hn1, hb1⟩; obtain ⟨ua, un, uc, rfl⟩ := hn1.slice; have cA : w1.cell? ⟨w.heap.size, 0, none⟩ = some v1 := (hb1.cell (p := ⟨w.heap.size, 0, none⟩) (by simp <;> omega)).trans (by simp [go_sem]); have cB : w1.cell? ⟨w.heap.size + 1, 0, none⟩ = some (.slice none 0 0) := (hb1.cell (p := ⟨w.heap.size + 1, 0, none⟩) (by simp <;> omega)).trans (by simp [go_sem]); have cC : w1.cell? ⟨w.heap.size + 1, 1, none⟩ = some (.slice none 0 0) := (hb1.cell (p := ⟨w.heap.size + 1, 1, none⟩) (by simp <;> omega)).trans (by simp [go_sem]); have fB : w1.frozen? ⟨w.heap.size + 1, 0, none⟩ = false := (hb1.frozen (p := ⟨w.heap.size + 1, 0, none⟩) (by simp <;> omega)).trans (by simp [go_sem]); have fC : w1.frozen? ⟨w.heap.size + 1, 1, none⟩ = false := (hb1.frozen (p := ⟨w.heap.size + 1, 1, none⟩) (by simp <;> omega)).trans (by simp [go_sem]); have hz1 : w.heap.size + 2 ≤ w1.heap.size := (by have := hb1.size; simp at this; omega); have Hn1 := Lib.hid hn1; have Hb1 := Lib.hid (Hb0.out.trans (hb1.mono Hb0.out.size)); clear hn1 hb1)
    | fail)
  all_goals (
    have r0 := World.cell?_setCell_same _ _ (.slice ua un uc) cB2
    have s1 : ((w2.setCell ⟨w.heap.size + 1, 0, none⟩ (.slice ua un uc)).cell? ⟨w.heap.size + 1, 1, none⟩) = some (.slice none 0 0) := (World.cell?_setCell_other _ _ _ _ (by simp)).trans cC2
    have r1 := World.cell?_setCell_same _ _ (.slice va vn vc) s1
    try go_wp2
    refine bodyPost_ret (v := .agg #[.slice ua un uc, .slice va vn vc]) (by simp [results, Try.results172, go_sem, r0, r1]) rfl ?_
    exact ⟨_, rfl, (New.setCell_low OStep.held (New.setCell_low OStep.held Hn.out (by simp) _) (by simp <;> omega) _).mono (by omega), (Hb.out.setCell (by simp <;> omega) _).setCell (by simp <;> omega) _⟩)
end Go.Proofs.Ytlkgkfgpnnahdaa
end

section
/-
  Slices as values: lists of tables that share what they list.
-/
namespace Go.Proofs.Ytlkgkfgpnnahdaa
open Go.RowKit Go.Deep Go.Sd
set_option linter.unusedSimpArgs false
abbrev Tr := Option Addr × Nat × Nat
def slV (t : Tr) : Value := .slice t.1 t.2.1 t.2.2
theorem slices_of : ∀ (us : List Value), (∀ u, u ∈ us → ∃ t, u = slV t) → ∃ ts : List Tr, us = ts.map slV
  | [], _ => ⟨[], rfl⟩
  | u :: us, h => by
    obtain ⟨t, rfl⟩ := h u (by simp)
    obtain ⟨ts, rfl⟩ := slices_of us fun u hu => h u (by simp [hu])
    exact ⟨t :: ts, rfl⟩
theorem tabs_vals {w : World} {v : Value} {xs : List Tbl} (h : Tabs w v xs) : ∃ ts : List Tr, SlOf (ValR slV) w v ts ∧ ts.length = xs.length ∧ ∀ (i : Nat) (t : Tr) (x : Tbl), ts[i]? = some t → xs[i]? = some x → Tab w (slV t) x := by
  obtain ⟨us, hsl, hl, hr⟩ := h
  obtain ⟨ts, rfl⟩ := slices_of us fun u hu => by
    obtain ⟨i, hi⟩ := List.getElem?_of_mem hu
    have h1 := (List.getElem?_eq_some_iff.1 hi).1
    obtain ⟨a, c, e, -⟩ := (hr i u xs[i] hi (List.getElem?_eq_getElem (by omega))).shape
    exact ⟨(a, xs[i].length, c), e⟩
  refine ⟨ts, ⟨ts.map slV, hsl, by simp, fun i u x hu hx => ?_⟩, by simpa using hl, fun i t x ht hx => hr i _ x (by rw [List.getElem?_map, ht]; rfl) hx⟩
  rw [List.getElem?_map, hx] at hu
  exact (Option.some.inj hu).symm
theorem vals_tabs {w : World} {v : Value} {ts : List Tr} {xs : List Tbl} (h : SlOf (ValR slV) w v ts) (hl : ts.length = xs.length) (ht : ∀ (i : Nat) (t : Tr) (x : Tbl), ts[i]? = some t → xs[i]? = some x → Tab w (slV t) x) : Tabs w v xs := by
  obtain ⟨us, hsl, hl2, hr⟩ := h
  refine ⟨us, hsl, by omega, fun i u x hu hx => ?_⟩
  have h1 := (List.getElem?_eq_some_iff.1 hu).1
  have h2 : ts[i]? = some ts[i] := List.getElem?_eq_getElem (by omega)
  have e : u = slV ts[i] := hr i u _ hu h2
  rw [e]
  exact ht i _ x h2 hx
theorem slV_kept : Kept (OValR slV) := ⟨fun _ _ _ _ _ h _ => h, fun _ _ _ _ h b hb => by rw [h.2] at hb; simp at hb, fun _ _ _ _ h => by rw [h.1]; rfl⟩
theorem own_tabs_vals {eI eR eT : TypeId} {lo : Nat} {w : World} {v : Value} {xs : List Tbl} (h : New (OTabs eI eR eT) lo w v xs) : ∃ ts : List Tr, SlOf (ValR slV) w v ts ∧ ts.length = xs.length ∧ ∀ w' : World, (∀ b, lo ≤ b → b < w.heap.size → w'.heap[b]? = w.heap[b]?) → ∀ (i : Nat) (t : Tr) (x : Tbl), ts[i]? = some t → xs[i]? = some x → Tab w' (slV t) x := by
  have hnew := h
  obtain ⟨F, hF, hnd, hge⟩ := h
  have hF' := hF
  obtain ⟨us, Fs, how, hl, hr, rfl⟩ := hF
  have hul : us.length = xs.length := by simpa using how.1
  obtain ⟨ts, rfl⟩ := slices_of us fun u hu => by
    obtain ⟨i, hi⟩ := List.getElem?_of_mem hu
    have h1 := (List.getElem?_eq_some_iff.1 hi).1
    obtain ⟨a, c, e, -⟩ := (OTab.reads (hr i u xs[i] Fs[i] hi (List.getElem?_eq_getElem (by omega)) (List.getElem?_eq_getElem (by omega)))).shape
    exact ⟨(a, xs[i].length, c), e⟩
  have htl : ts.length = xs.length := by simpa using hul
  have hown : OwnOf eT (OValR slV) w v ts (v.ownBlock.toList ++ (ts.map fun _ => ([] : List Nat)).flatten) := by
    refine ⟨ts.map slV, ts.map fun _ => [], by rw [htl]; exact how, by simp, ?_, rfl⟩
    intro i u x G hu hx hG
    rw [List.getElem?_map, hx] at hu hG
    exact ⟨(Option.some.inj hu).symm, (Option.some.inj hG).symm⟩
  refine ⟨ts, OwnOf.reads (R' := ValR slV) (fun _ _ _ _ h => h.1) hown, htl, fun w' hk i t x ht hx => ?_⟩
  have h1 := (List.getElem?_eq_some_iff.1 ht).1
  have hG : Fs[i]? = some Fs[i] := List.getElem?_eq_getElem (by omega)
  have h2 := hr i (slV t) x Fs[i] (by rw [List.getElem?_map, ht]; rfl) hx hG
  refine OTab.reads ((OTab.kept eI eR).keep _ _ _ _ _ h2 fun b hb => hk b (hge b (List.mem_append_right _ (List.mem_flatten_of_mem (List.mem_of_getElem? hG) hb))) ((OTab.kept eI eR).lt _ _ _ _ h2 b hb))
/-- A table ahead of others. -/
theorem link_tabs {lo : Nat} {w' : World} {v : Value} {e : TypeId} {t0 : Tr} {ts : List Tr} {x0 : Tbl} {xs : List Tbl} (hn : New (OwnOf e (OValR slV)) lo w' v ([t0] ++ ts)) (h0 : Tab w' (slV t0) x0) (hl : ts.length = xs.length) (ht : ∀ (i : Nat) (t : Tr) (x : Tbl), ts[i]? = some t → xs[i]? = some x → Tab w' (slV t) x) : Tabs w' v (x0 :: xs) := by
  obtain ⟨F, hF, -⟩ := hn
  refine vals_tabs (OwnOf.reads (R' := ValR slV) (fun _ _ _ _ h => h.1) hF) (by simp; omega) fun i t x hi hx => ?_
  cases i with
  | zero =>
    simp at hi hx
    subst hi hx
    exact h0
  | succ i => exact ht i t x (by simpa using hi) (by simpa using hx)
theorem _root_.Go.Sd.Tabs.tabAt {w : World} {v : Value} {L : List Tbl} (h : Tabs w v L) {i : Nat} {x : Tbl} (hx : L[i]? = some x) : ∃ b o c a' c', v = .slice (some ⟨b, o, none⟩) L.length c ∧ b < w.heap.size ∧ w.cell? ⟨b, o + i, none⟩ = some (.slice a' x.length c') ∧ Tab w (.slice a' x.length c') x := by
  obtain ⟨a, c, rfl, -, -, hc⟩ := h.shape
  have hi := (List.getElem?_eq_some_iff.1 hx).1
  obtain ⟨b, o, rfl, hb, hx'⟩ := hc (by omega)
  obtain ⟨u, hu, hru⟩ := hx' i x hx
  obtain ⟨a', c', rfl, -⟩ := hru.shape
  exact ⟨b, o, c, a', c', rfl, hb, hu, hru⟩
end Go.Proofs.Ytlkgkfgpnnahdaa
end

section
/-
  Finite sums of integers; maps between finite ranges.
-/
namespace Go.Sd
/-- The sum of f over 0 .. n - 1. -/
def sumN : Nat → (Nat → Int) → Int
  | 0, _ => 0
  | n + 1, f => sumN n f + f n
theorem sumN_congr {n : Nat} {f g : Nat → Int} (h : ∀ i, i < n → f i = g i) : sumN n f = sumN n g := by
  induction n with
  | zero => rfl
  | succ n ih => rw [sumN, sumN, ih fun i hi => h i (by omega), h n (by omega)]
theorem sumN_zero {n : Nat} {f : Nat → Int} (h : ∀ i, i < n → f i = 0) : sumN n f = 0 := by
  induction n with
  | zero => rfl
  | succ n ih => rw [sumN, ih fun i hi => h i (by omega), h n (by omega)]; rfl
theorem sumN_add (n : Nat) (f g : Nat → Int) : sumN n (fun i => f i + g i) = sumN n f + sumN n g := by
  induction n with
  | zero => rfl
  | succ n ih => rw [sumN, sumN, sumN, ih]; omega
theorem sumN_sub (n : Nat) (f g : Nat → Int) : sumN n (fun i => f i - g i) = sumN n f - sumN n g := by
  induction n with
  | zero => rfl
  | succ n ih => rw [sumN, sumN, sumN, ih]; omega
theorem sumN_comm (n k : Nat) (F : Nat → Nat → Int) : sumN n (fun i => sumN k (F i)) = sumN k (fun j => sumN n (fun i => F i j)) := by
  induction n with
  | zero => exact (sumN_zero fun j _ => rfl).symm
  | succ n ih =>
    rw [sumN, ih, ← sumN_add]
    exact sumN_congr fun j _ => rfl
theorem sumN_le {n : Nat} {f g : Nat → Int} (h : ∀ i, i < n → f i ≤ g i) : sumN n f ≤ sumN n g := by
  induction n with
  | zero => exact Int.le_refl _
  | succ n ih =>
    rw [sumN, sumN]
    have h1 := ih fun i hi => h i (by omega)
    have h2 := h n (by omega)
    omega
theorem sumN_nonneg {n : Nat} {f : Nat → Int} (h : ∀ i, i < n → 0 ≤ f i) : 0 ≤ sumN n f := by
  have := sumN_le (f := fun _ => 0) h
  rw [sumN_zero fun _ _ => rfl] at this
  exact this
/-- One place alone counts. -/
theorem sumN_one {n p : Nat} (hp : p < n) (F : Nat → Int) : sumN n (fun j => if p = j then F j else 0) = F p := by
  induction n with
  | zero => omega
  | succ n ih =>
    rw [sumN]
    by_cases e : p = n
    · subst e
      rw [if_pos rfl, sumN_zero fun i hi => if_neg (by omega)]
      omega
    · rw [if_neg e, ih (by omega)]
      omega
theorem sumN_term {n p : Nat} (hp : p < n) {f : Nat → Int} (h : ∀ i, i < n → 0 ≤ f i) : f p ≤ sumN n f := by
  have h1 := sumN_le (n := n) (f := fun j => if p = j then f j else 0) (g := f) fun i hi => by
    split
    · exact Int.le_refl _
    · exact h i hi
  rw [sumN_one hp] at h1
  exact h1
/-- By classes. -/
theorem sumN_class {n k : Nat} {f : Nat → Nat} (hf : ∀ i, i < n → f i < k) (t : Nat → Int) : sumN n t = sumN k (fun C => sumN n (fun i => if f i = C then t i else 0)) := by
  rw [← sumN_comm n k fun i C => if f i = C then t i else 0]
  exact sumN_congr fun i hi => (sumN_one (hf i hi) fun _ => t i).symm
/-- What sums to nothing over every class sums to nothing over what is made of classes. -/
theorem sumN_made {n k : Nat} {f : Nat → Nat} (hf : ∀ i, i < n → f i < k) {t : Nat → Int} (ht : ∀ C, C < k → sumN n (fun i => if f i = C then t i else 0) = 0)
    {S : Nat → Prop} [DecidablePred S] (hS : ∀ i j, i < n → j < n → f i = f j → (S i ↔ S j)) : sumN n (fun i => if S i then t i else 0) = 0 := by
  rw [sumN_class hf]
  refine sumN_zero fun C hC => ?_
  by_cases h : ∃ i, i < n ∧ f i = C ∧ S i
  · obtain ⟨i0, h0, h1, h2⟩ := h
    refine (sumN_congr fun i hi => ?_).trans (ht C hC)
    by_cases e : f i = C
    · rw [if_pos e, if_pos e, if_pos ((hS i i0 hi h0 (by rw [e, h1])).2 h2)]
    · rw [if_neg e, if_neg e]
  · refine sumN_zero fun i hi => ?_
    by_cases e : f i = C
    · rw [if_pos e, if_neg fun hs => h ⟨i, hi, e, hs⟩]
    · exact if_neg e
/-- p and q are each other's inverses below n. -/
def Inv (n : Nat) (p q : Nat → Nat) : Prop := (∀ i, i < n → p i < n ∧ q (p i) = i) ∧ ∀ i, i < n → q i < n ∧ p (q i) = i
theorem Inv.symm {n : Nat} {p q : Nat → Nat} (h : Inv n p q) : Inv n q p := ⟨h.2, h.1⟩
theorem sumN_perm {n : Nat} {p q : Nat → Nat} (h : Inv n p q) (F : Nat → Int) : sumN n (fun i => F (p i)) = sumN n F := by
  have h1 : sumN n (fun i => F (p i)) = sumN n (fun i => sumN n (fun j => if p i = j then F j else 0)) := sumN_congr fun i hi => (sumN_one (h.1 i hi).1 F).symm
  rw [h1, sumN_comm n n fun i j => if p i = j then F j else 0]
  refine sumN_congr fun j hj => ?_
  refine (sumN_congr (g := fun i => if q j = i then F j else 0) fun i hi => ?_).trans (sumN_one (h.2 j hj).1 fun _ => F j)
  by_cases e : p i = j
  · rw [if_pos e, if_pos (by rw [← e, (h.1 i hi).2])]
  · rw [if_neg e, if_neg fun e2 => e (by rw [← e2, (h.2 j hj).2])]
/-- No more places than there are. -/
theorem inj_le : ∀ {n k : Nat} {f : Nat → Nat}, (∀ i, i < n → f i < k) → (∀ i j, i < n → j < n → f i = f j → i = j) → n ≤ k
  | 0, k, f, _, _ => Nat.zero_le k
  | n + 1, 0, f, h, _ => absurd (h 0 (by omega)) (by omega)
  | n + 1, k + 1, f, h, hi => by
    have h1 := inj_le (n := n) (k := k) (f := fun i => if f i = k then f n else f i) (fun i hn => by
      show (if f i = k then f n else f i) < k
      have h2 := h i (by omega)
      have h3 := h n (by omega)
      split
      · rename_i e
        have h4 : f n ≠ k := fun e2 => absurd (hi i n (by omega) (by omega) (by omega)) (by omega)
        omega
      · omega) (fun i j hin hjn e => by
      have e' : (if f i = k then f n else f i) = (if f j = k then f n else f j) := e
      by_cases h2 : f i = k <;> by_cases h3 : f j = k
      · exact hi i j (by omega) (by omega) (by omega)
      · rw [if_pos h2, if_neg h3] at e'
        exact absurd (hi n j (by omega) (by omega) e') (by omega)
      · rw [if_neg h2, if_pos h3] at e'
        exact absurd (hi i n (by omega) (by omega) e') (by omega)
      · rw [if_neg h2, if_neg h3] at e'
        exact hi i j (by omega) (by omega) e')
    omega
/-- What is injective has an inverse. -/
theorem inj_inv {n : Nat} {f : Nat → Nat} (h : ∀ i, i < n → f i < n) (hi : ∀ i j, i < n → j < n → f i = f j → i = j) : ∃ q, Inv n f q := by
  have hs : ∀ y, y < n → ∃ i, i < n ∧ f i = y := by
    intro y hy
    apply Classical.byContradiction
    intro hno
    have h1 := inj_le (n := n + 1) (k := n) (f := fun i => if i = n then y else f i) (fun i hin => by
      show (if i = n then y else f i) < n
      split
      · exact hy
      · exact h i (by omega)) (fun i j hin hjn e => by
      have e' : (if i = n then y else f i) = (if j = n then y else f j) := e
      by_cases h2 : i = n <;> by_cases h3 : j = n
      · omega
      · rw [if_pos h2, if_neg h3] at e'
        exact absurd ⟨j, by omega, e'.symm⟩ hno
      · rw [if_neg h2, if_pos h3] at e'
        exact absurd ⟨i, by omega, e'⟩ hno
      · rw [if_neg h2, if_neg h3] at e'
        exact hi i j (by omega) (by omega) e')
    omega
  refine ⟨fun y => if hy : y < n then Classical.choose (hs y hy) else 0, ?_, ?_⟩
  · intro i hin
    refine ⟨h i hin, ?_⟩
    have h1 := Classical.choose_spec (hs (f i) (h i hin))
    show (if hy : f i < n then Classical.choose (hs (f i) hy) else 0) = i
    rw [dif_pos (h i hin)]
    exact hi _ _ h1.1 hin h1.2
  · intro y hy
    have h1 := Classical.choose_spec (hs y hy)
    show (if hy : y < n then Classical.choose (hs y hy) else 0) < n ∧ f (if hy : y < n then Classical.choose (hs y hy) else 0) = y
    rw [dif_pos hy]
    exact h1
end Go.Sd
end

section
/-
  The first two vertices that can be joined; IsJoined.
-/
namespace Go.Proofs.Ytlkgkfgpnnahdaa
open Go.RowKit Go.Deep Go.Sd

/-- The first j of the next g ones that can be joined to i. -/
def rowF (m : List (List Int)) (i : Nat) : Nat → Nat → Option (List (List Int))
  | 0, _ => none
  | g + 1, j => if joinOk m i j = true then some (joinV m i j) else rowF m i g (j + 1)
def firstF (m : List (List Int)) : Nat → Nat → Option (List (List Int))
  | 0, _ => none
  | g + 1, i => match rowF m i (m.length - (i + 1)) (i + 1) with
    | some x => some x
    | none => firstF m g (i + 1)
def firstJ (m : List (List Int)) : Option (List (List Int)) := firstF m m.length 0
theorem firstF_some {m : List (List Int)} {g i : Nat} {x : List (List Int)} (h : rowF m i (m.length - (i + 1)) (i + 1) = some x) : firstF m (g + 1) i = some x := by
  unfold firstF; rw [h]
theorem firstF_none {m : List (List Int)} {g i : Nat} (h : rowF m i (m.length - (i + 1)) (i + 1) = none) : firstF m (g + 1) i = firstF m g (i + 1) := by
  conv => lhs; unfold firstF
  rw [h]

set_option maxHeartbeats 1000000 in
theorem joinFirst_c {w : World} {va : Value} {m : List (List Int)} (h1 : Tab w va m) :
    Calls Try.prog 78 #[va] w (Makes2 (OTab 3 33) w ((firstJ m).getD []) (firstJ m).isSome) := by
  have hlen := h1.len
  have hsa := h1.shape
  obtain ⟨aa, ac, rfl, _, _, _⟩ := hsa
  have HO := Lib.hid (show (firstJ m).isSome = (firstF m m.length 0).isSome from rfl)
  have HV := Lib.hid (show (firstJ m).getD [] = (firstF m m.length 0).getD [] from rfl)
  generalize (firstJ m).isSome = ok at HO ⊢
  generalize (firstJ m).getD [] = rv at HV ⊢
  have Hj := Lib.hid (fun w1 (i j : Nat) (hb : Below w.heap.size w w1) => impl_JoinOut_c (i := (i : Int)) (j := (j : Int)) (Tab.frame _ _ _ _ h1 hb))
  clear h1
  obtain ⟨T, hT⟩ : ∃ T, T = firstF m m.length 0 := ⟨_, rfl⟩
  rw [← hT] at HO HV
  have HT := Lib.hid hT
  clear hT
  go_enter Try.func78, Try.ntmps78
  go_wp2
  go_loopg [10] (m.length) (fun g ii wr => ∃ (i : Nat), ii = .int .i64 i ∧ i + g = m.length ∧ Hid (T = firstF m g i) ∧ Below w.heap.size w wr)
  case atStart => exact ⟨0, rfl, by omega, HT, Below.refl _ _⟩
  case round =>
    obtain ⟨i, rfl, hi, H, hbel⟩ := hrel
    obtain ⟨g, hg⟩ : ∃ g, g = gk := ⟨_, rfl⟩
    rw [← hg] at H hi
    by_cases hlt : i < m.length
    · obtain ⟨g', rfl⟩ : ∃ t, g = t + 1 := ⟨g - 1, by omega⟩
      have Hb := Lib.hid hbel
      clear hbel HT
      go_wp2
      go_loopg [5] (m.length - (i + 1)) (fun g2 jj wr => ∃ (j : Nat), jj = .int .i64 j ∧ j + g2 = m.length ∧ Hid (rowF m i (m.length - (i + 1)) (i + 1) = rowF m i g2 j) ∧ Below w.heap.size w wr)
      case atStart => exact ⟨i + 1, by go_num, by omega, Lib.hid rfl, Hb.out⟩
      case round =>
        obtain ⟨j, rfl, hj, H2, hbel⟩ := hrel
        clear Hb
        obtain ⟨q, hq⟩ : ∃ q, q = gk := ⟨_, rfl⟩
        rw [← hq] at H2 hj
        by_cases hlt2 : j < m.length
        · obtain ⟨q', rfl⟩ : ∃ t, q = t + 1 := ⟨q - 1, by omega⟩
          have H3 := Lib.hid (show rowF m i (m.length - (i + 1)) (i + 1) = if joinOk m i j = true then some (joinV m i j) else rowF m i q' (j + 1) from H2.out)
          have Hc := Lib.hid (Hj.out wr i j hbel)
          have Hb := Lib.hid hbel
          have hz := hbel.size
          clear H2 hbel
          cases hjo : joinOk m i j with
          | true =>
            have H4 := Lib.hid (show T = some (joinV m i j) from by rw [H.out]; exact firstF_some (by rw [H3.out, hjo]; rfl))
            rw [hjo] at Hc
            clear hjo H3
            go_wp2_with fail
            refine Hc.out.mono ?_
            rintro e w1 ⟨v1, rfl, hn1, hb1⟩
            have Hn1 := Lib.hid (hn1.mono hz)
            have Hb1 := Lib.hid (Hb.out.trans (hb1.mono hz))
            clear hn1 hb1
            go_wp2
            go_ret2
            exact ⟨_, by rw [HO.out, H4.out]; rfl, by rw [HV.out, H4.out]; exact Hn1.out, Hb1.out⟩
          | false =>
            have H4 := Lib.hid (show rowF m i (m.length - (i + 1)) (i + 1) = rowF m i q' (j + 1) from by rw [H3.out, hjo]; rfl)
            rw [hjo] at Hc
            clear hjo H3
            go_wp2_with fail
            refine Hc.out.mono ?_
            rintro e w1 ⟨v1, rfl, hn1, hb1⟩
            have Hb1 := Lib.hid (Hb.out.trans (hb1.mono hz))
            clear hn1 hb1
            go_wp2
            go_roundg q'
            case measure => omega
            case rel => exact ⟨j + 1, by go_num, by omega, H4, Hb1.out⟩
        · have e : q = 0 := by omega
          subst e
          have H3 := Lib.hid (show T = firstF m g' (i + 1) from by rw [H.out]; exact firstF_none H2.out)
          have Hb := Lib.hid hbel
          have e2 : j = m.length := by omega
          clear H2 hbel hq hj
          go_wp2
          go_roundg g'
          case measure => omega
          case rel => exact ⟨i + 1, by go_num, by omega, H3, Hb.out⟩
    · have e : g = 0 := by omega
      subst e
      have H2 := Lib.hid (show T = none from H.out)
      clear H hg
      go_wp2
      go_ret2
      exact ⟨_, by rw [HO.out, H2.out]; rfl, by rw [HV.out, H2.out]; exact New.nil _ _, hbel⟩

set_option maxHeartbeats 1000000 in
theorem l18First_c {w : World} {va : Value} {m : List (List Int)} (h1 : Tab w va m) :
    Calls Try.prog 97 #[va] w (Makes2 (OTab 3 33) w ((firstJ m).getD []) (firstJ m).isSome) := by
  have hlen := h1.len
  have hsa := h1.shape
  obtain ⟨aa, ac, rfl, _, _, _⟩ := hsa
  have HO := Lib.hid (show (firstJ m).isSome = (firstF m m.length 0).isSome from rfl)
  have HV := Lib.hid (show (firstJ m).getD [] = (firstF m m.length 0).getD [] from rfl)
  generalize (firstJ m).isSome = ok at HO ⊢
  generalize (firstJ m).getD [] = rv at HV ⊢
  have Hj := Lib.hid (fun w1 (i j : Nat) (hb : Below w.heap.size w w1) => spec_JoinOut_c (i := (i : Int)) (j := (j : Int)) (Tab.frame _ _ _ _ h1 hb))
  clear h1
  obtain ⟨T, hT⟩ : ∃ T, T = firstF m m.length 0 := ⟨_, rfl⟩
  rw [← hT] at HO HV
  have HT := Lib.hid hT
  clear hT
  go_enter Try.func97, Try.ntmps97
  go_wp2
  go_loopg [4] (m.length) (fun g ii wr => ∃ (i : Nat), ii = .int .i64 i ∧ i + g = m.length ∧ Hid (T = firstF m g i) ∧ Below w.heap.size w wr)
  case atStart => exact ⟨0, rfl, by omega, HT, Below.refl _ _⟩
  case round =>
    obtain ⟨i, rfl, hi, H, hbel⟩ := hrel
    obtain ⟨g, hg⟩ : ∃ g, g = gk := ⟨_, rfl⟩
    rw [← hg] at H hi
    by_cases hlt : i < m.length
    · obtain ⟨g', rfl⟩ : ∃ t, g = t + 1 := ⟨g - 1, by omega⟩
      have Hb := Lib.hid hbel
      clear hbel HT
      go_wp2
      go_loopg [5] (m.length - (i + 1)) (fun g2 jj wr => ∃ (j : Nat), jj = .int .i64 j ∧ j + g2 = m.length ∧ Hid (rowF m i (m.length - (i + 1)) (i + 1) = rowF m i g2 j) ∧ Below w.heap.size w wr)
      case atStart => exact ⟨i + 1, by go_num, by omega, Lib.hid rfl, Hb.out⟩
      case round =>
        obtain ⟨j, rfl, hj, H2, hbel⟩ := hrel
        clear Hb
        obtain ⟨q, hq⟩ : ∃ q, q = gk := ⟨_, rfl⟩
        rw [← hq] at H2 hj
        by_cases hlt2 : j < m.length
        · obtain ⟨q', rfl⟩ : ∃ t, q = t + 1 := ⟨q - 1, by omega⟩
          have H3 := Lib.hid (show rowF m i (m.length - (i + 1)) (i + 1) = if joinOk m i j = true then some (joinV m i j) else rowF m i q' (j + 1) from H2.out)
          have Hc := Lib.hid (Hj.out wr i j hbel)
          have Hb := Lib.hid hbel
          have hz := hbel.size
          clear H2 hbel
          cases hjo : joinOk m i j with
          | true =>
            have H4 := Lib.hid (show T = some (joinV m i j) from by rw [H.out]; exact firstF_some (by rw [H3.out, hjo]; rfl))
            rw [hjo] at Hc
            clear hjo H3
            go_wp2_with fail
            refine Hc.out.mono ?_
            rintro e w1 ⟨v1, rfl, hn1, hb1⟩
            have Hn1 := Lib.hid (hn1.mono hz)
            have Hb1 := Lib.hid (Hb.out.trans (hb1.mono hz))
            clear hn1 hb1
            go_wp2
            go_ret2
            exact ⟨_, by rw [HO.out, H4.out]; rfl, by rw [HV.out, H4.out]; exact Hn1.out, Hb1.out⟩
          | false =>
            have H4 := Lib.hid (show rowF m i (m.length - (i + 1)) (i + 1) = rowF m i q' (j + 1) from by rw [H3.out, hjo]; rfl)
            rw [hjo] at Hc
            clear hjo H3
            go_wp2_with fail
            refine Hc.out.mono ?_
            rintro e w1 ⟨v1, rfl, hn1, hb1⟩
            have Hb1 := Lib.hid (Hb.out.trans (hb1.mono hz))
            clear hn1 hb1
            go_wp2
            go_roundg q'
            case measure => omega
            case rel => exact ⟨j + 1, by go_num, by omega, H4, Hb1.out⟩
        · have e : q = 0 := by omega
          subst e
          have H3 := Lib.hid (show T = firstF m g' (i + 1) from by rw [H.out]; exact firstF_none H2.out)
          have Hb := Lib.hid hbel
          have e2 : j = m.length := by omega
          clear H2 hbel hq hj
          go_wp2
          go_roundg g'
          case measure => omega
          case rel => exact ⟨i + 1, by go_num, by omega, H3, Hb.out⟩
    · have e : g = 0 := by omega
      subst e
      have H2 := Lib.hid (show T = none from H.out)
      clear H hg
      go_wp2
      go_ret2
      exact ⟨_, by rw [HO.out, H2.out]; rfl, by rw [HV.out, H2.out]; exact New.empty wr hbel.size, hbel.alloc hbel.size _⟩

def joinedM (m : List (List Int)) : Bool := isMat m && !(firstJ m).isSome

set_option maxHeartbeats 400000 in
theorem impl_IsJoined_c {w : World} {va : Value} {m : List (List Int)} (h1 : Tab w va m) :
    Calls Try.prog 26 #[va] w fun e w' => e = .returned (.bool (joinedM m)) ∧ Below w.heap.size w w' := by
  have Hc := Lib.hid (impl_IsMatrix_c h1)
  have Hf := Lib.hid (joinFirst_c h1)
  have hsa := h1.shape
  obtain ⟨aa, ac, rfl, _, _, _⟩ := hsa
  cases hm : isMat m with
  | false =>
    have H := Lib.hid (show joinedM m = false from by unfold joinedM; rw [hm]; rfl)
    rw [hm] at Hc
    clear h1 hm
    go_enter Try.func26, Try.ntmps26
    go_wp2_with fail
    refine Hc.out.mono ?_
    rintro e w' ⟨rfl, rfl⟩
    go_wp2
    go_ret
    exact ⟨by rw [H.out]; rfl, Below.refl _ _⟩
  | true =>
    have H := Lib.hid (show joinedM m = !(firstJ m).isSome from by unfold joinedM; rw [hm]; rfl)
    rw [hm] at Hc
    clear h1 hm
    generalize (firstJ m).isSome = b at H Hf
    go_enter Try.func26, Try.ntmps26
    go_wp2_with fail
    refine Hc.out.mono ?_
    rintro e w' ⟨rfl, rfl⟩
    go_wp2_with fail
    refine Hf.out.mono ?_
    rintro e w1 ⟨v1, rfl, hn1, hb1⟩
    have Hb1 := Lib.hid hb1
    clear hn1 hb1
    go_wp2
    go_ret
    exact ⟨by rw [H.out]; rfl, Hb1.out⟩

set_option maxHeartbeats 400000 in
theorem spec_IsJoined_c {w : World} {va : Value} {m : List (List Int)} (h1 : Tab w va m) :
    Calls Try.prog 27 #[va] w fun e w' => e = .returned (.bool (joinedM m)) ∧ Below w.heap.size w w' := by
  have Hc := Lib.hid (fun w1 (hb : Below w.heap.size w w1) => spec_IsMatrix_c (Tab.frame _ _ _ _ h1 hb))
  have Hf := Lib.hid (l18First_c h1)
  have hsa := h1.shape
  obtain ⟨aa, ac, rfl, _, _, _⟩ := hsa
  have H := Lib.hid (show joinedM m = (isMat m && !(firstJ m).isSome) from rfl)
  clear h1
  generalize (firstJ m).isSome = b at H Hf
  cases hm : isMat m with
  | false =>
    have H2 := Lib.hid (show joinedM m = false from by rw [H.out, hm]; rfl)
    rw [hm] at Hc
    clear hm H
    go_enter Try.func27, Try.ntmps27
    go_wp2_with fail
    refine Hf.out.mono ?_
    rintro e w1 ⟨v1, rfl, hn1, hb1⟩
    go_wp2_with fail
    refine (Hc.out w1 hb1).mono ?_
    rintro e w' ⟨rfl, rfl⟩
    have Hb1 := Lib.hid hb1
    clear hn1 hb1
    go_wp2
    go_ret
    exact ⟨by rw [H2.out]; rfl, Hb1.out⟩
  | true =>
    have H2 := Lib.hid (show joinedM m = !b from by rw [H.out, hm]; rfl)
    rw [hm] at Hc
    clear hm H
    go_enter Try.func27, Try.ntmps27
    go_wp2_with fail
    refine Hf.out.mono ?_
    rintro e w1 ⟨v1, rfl, hn1, hb1⟩
    go_wp2_with fail
    refine (Hc.out w1 hb1).mono ?_
    rintro e w' ⟨rfl, rfl⟩
    have Hb1 := Lib.hid hb1
    clear hn1 hb1
    go_wp2
    go_ret
    exact ⟨by rw [H2.out]; rfl, Hb1.out⟩
end Go.Proofs.Ytlkgkfgpnnahdaa
end
