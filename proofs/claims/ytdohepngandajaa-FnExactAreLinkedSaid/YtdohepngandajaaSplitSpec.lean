/-
  SplitOut, the reference's.
-/
import Derived.Test.YtdohepngandajaaRows
import Derived.Test.YtdohepngandajaaBase
import Derived.Test.YtdohepngandajaaTabs
import Derived.Test.YtdohepngandajaaMat
import Derived.Test.YtdohepngandajaaZero
import Derived.Test.YtdohepngandajaaJoin
import Derived.Test.YtdohepngandajaaSplit
import Derived.Test.YtdohepngandajaaSplitOut
import Derived.IntWalk
import Derived.Deep.RegionLaw
namespace Go.Proofs.Ytdohepngandajaa
open Go.RowKit Go.Deep Go.Sd

/-- The first k rows bear their last number already. -/
def splitF (m : List (List Int)) (I : Nat) (P : List Int) (n k : Nat) : List (List Int) := (List.range (n + 1)).map fun i => if i < k then rowOf' n (splitR m I P n i) ++ [splitR m I P n i I] else rowOf' n (splitR m I P n i)
theorem splitF_len (m : List (List Int)) (I : Nat) (P : List Int) (n k : Nat) : (splitF m I P n k).length = n + 1 := by simp [splitF]
theorem splitF_at {m : List (List Int)} {I : Nat} {P : List Int} {n k : Nat} (hk : k < n + 1) : (splitF m I P n k)[k]? = some (rowOf' n (splitR m I P n k)) := by simp [splitF, hk]
theorem splitF_full (m : List (List Int)) (I : Nat) (P : List Int) (n : Nat) : splitF m I P n (n + 1) = splitT m I P n := by
  unfold splitF splitT
  refine List.map_congr_left fun i hi => ?_
  rw [if_pos (List.mem_range.1 hi)]
theorem splitF_set {m : List (List Int)} {I : Nat} {P : List Int} {n k : Nat} : (splitF m I P n k).set k (rowOf' n (splitR m I P n k) ++ [splitR m I P n k I]) = splitF m I P n (k + 1) := by
  apply List.ext_getElem?
  intro j
  by_cases hj : j < n + 1
  · by_cases e : j = k
    · subst e
      rw [List.getElem?_set_self (by rw [splitF_len]; exact hj)]
      simp [splitF, hj]
    · rw [List.getElem?_set_ne (by omega)]
      simp only [splitF, List.getElem?_map, List.getElem?_range hj, Option.map_some]
      by_cases h : j < k
      · rw [if_pos h, if_pos (by omega)]
      · rw [if_neg h, if_neg (by omega)]
  · rw [List.getElem?_eq_none (by rw [List.length_set, splitF_len]; omega), List.getElem?_eq_none (by rw [splitF_len]; omega)]
theorem splitF_start {m : List (List Int)} {I : Nat} {P : List Int} {n : Nat} (hm : Sq n m) (hI : I < n) (hp : P.length = n) :
    m.set I P ++ [rowOf' n (splitR m I P n n)] = splitF m I P n 0 := by
  apply List.ext_getElem?
  intro j
  have hl : (m.set I P).length = n := by rw [List.length_set, hm.1]
  by_cases hj : j < n
  · rw [List.getElem?_append_left (by omega)]
    rw [show (splitF m I P n 0)[j]? = some (rowOf' n (splitR m I P n j)) from by simp [splitF, show j < n + 1 by omega]]
    by_cases e : j = I
    · subst e
      rw [List.getElem?_set_self (by rw [hm.1]; exact hj), splitR_part m P hj, ← row_full hp]
    · rw [List.getElem?_set_ne (by omega), (hm.row hj).1, splitR_row m P hj e]
      exact congrArg some (row_full (hm.row hj).2)
  · by_cases e : j = n
    · subst e
      rw [List.getElem?_append_right (by omega), hl]
      simp [splitF]
    · rw [List.getElem?_eq_none (by rw [List.length_append, hl]; simp; omega), List.getElem?_eq_none (by rw [splitF_len]; omega)]
set_option maxHeartbeats 2000000 in
set_option maxRecDepth 100000 in
theorem spec_SplitOut_c {w : World} {va vp : Value} {m : List (List Int)} {P : List Int} {i : Int} (h1 : Tab w va m) (h2 : Ints w vp P) :
    Calls Try.prog 151 #[va, .int .i64 i, vp] w (Makes2 (OTab 3 50) w (splitV m i P) (splitOk m i P)) := by
  have hsa := h1.shape
  obtain ⟨aa, ac, rfl, _, _, _⟩ := hsa
  have hsp := h2.shape
  obtain ⟨pa, pc, rfl, _, _, _⟩ := hsp
  have Hc := Lib.hid (spec_IsMatrix_c h1)
  have Hno := Lib.hid (fun (h : splitOk m i P = false) => show splitV m i P = [] from by unfold splitV; rw [h]; rfl)
  have hpl := h2.len
  cases hm : isMat m with
  | false =>
    have HK := Lib.hid (show splitOk m i P = false from by unfold splitOk; rw [hm]; rfl)
    rw [hm] at Hc
    rw [HK.out]
    clear h1 h2 hm
    go_enter Try.func151, Try.ntmps151
    go_wp2_with fail
    refine Hc.out.mono ?_
    rintro e w' ⟨rfl, rfl⟩
    go_wp2
    go_ret2
    exact ⟨_, rfl, by rw [Hno.out HK.out]; exact New.empty w (Nat.le_refl _), (Below.refl _ _).alloc (Nat.le_refl _) _⟩
  | true =>
    rw [hm] at Hc
    have sm := isMat_sq hm
    by_cases hij : m.length ≤ 8 ∧ 0 ≤ i ∧ i < m.length ∧ P.length = m.length
    · obtain ⟨I, rfl⟩ : ∃ I : Nat, i = (I : Int) := ⟨i.toNat, by omega⟩
      have HO := Lib.hid (show splitOk m I P = allF (partF m I P) m.length 0 from by unfold splitOk; rw [hm]; simp [hij])
      have HV := Lib.hid (show splitV m I P = if splitOk m I P = true then splitT m I P m.length else [] from rfl)
      generalize splitOk m I P = ok at HO HV Hno ⊢
      generalize splitV m I P = rv at HV Hno ⊢
      have Hpo := Lib.hid (fun (h : allF (partF m I P) m.length 0 = true) => partOk_of hm rfl (show I < m.length by omega) h)
      clear hm
      generalize hn : m.length = n at *
      have hIn : I < n := by omega
      have hn0 : 0 < n := by omega
      have hn8 : n ≤ 8 := hij.1
      have hp : P.length = n := hij.2.2.2
      have t9 : ((n : Int) == 9) = false := by simp; omega
      have tp : ((P.length : Int) != (n : Int)) = false := by simp [hp]
      have Hcp := Lib.hid (fun w1 (hb : Below w.heap.size w w1) => l4Copy_c (Tab.frame _ _ _ _ h1 hb) (by omega) (fun r hr => by rw [sm.1.2 r hr]; omega))
      have Hsq := Lib.hid sm.1
      have H2 := Lib.hid h2
      have Hp := Lib.hid hp
      have Hin := Lib.hid (l1In_yes (a := (I : Int)) (b := 0) (c := (n : Int) - 1) w (by omega) (by omega))
      obtain ⟨ab, ao, ac', hv1, hab, hae⟩ := h1.entAt hn sm.1.2 hn0
      obtain ⟨rfl, rfl⟩ : aa = some ⟨ab, ao, none⟩ ∧ ac = ac' := by simp at hv1; exact hv1
      obtain ⟨pb, po, pc', hv2, hpb, hpe⟩ := ints_at h2 hp hn0
      rw [hp] at hv2
      obtain ⟨rfl, rfl⟩ : pa = some ⟨pb, po, none⟩ ∧ pc = pc' := by simp at hv2; exact hv2
      obtain ⟨rb, ro, rc, hA1, hrb, _, hA2⟩ := hae.at hIn hn0
      have hi1 : (I : Int) < (n : Int) := by omega
      rw [hp] at hpl tp H2 ⊢
      clear h1 h2 sm hij hv1 hv2 hn hae hp
      go_enter Try.func151, Try.ntmps151
      go_wp2_with fail
      refine Hc.out.mono ?_
      rintro e w' ⟨rfl, rfl⟩
      go_wp2_with (go_at_call 75; refine Hin.out.mono ?_; rintro e w' ⟨rfl, rfl⟩)
      go_loopg [8] n (fun g ii wr => ∃ (k : Nat), ii = .int .i64 k ∧ k + g = n ∧ Hid (allF (partF m I P) n 0 = allF (partF m I P) g k) ∧ Drawn w wr)
      case atStart => exact ⟨0, rfl, by omega, Lib.hid rfl, Drawn.refl _⟩
      case round =>
        obtain ⟨k, rfl, hk, H, hdr⟩ := hrel
        obtain ⟨g, hg⟩ : ∃ g, g = gk := ⟨_, rfl⟩
        rw [← hg] at H hk
        by_cases hlt : k < n
        · obtain ⟨g', rfl⟩ : ∃ t, g = t + 1 := ⟨g - 1, by omega⟩
          have H1 := Lib.hid (show allF (partF m I P) n 0 = if partF m I P k = true then allF (partF m I P) g' (k + 1) else false from H.out)
          have hP3 := hpe k hlt
          have hA3 := hA2 k hlt
          have hk1 : (k : Int) < (n : Int) := by omega
          have hrule := hdr.cell
          clear H hpe hA2
          by_cases hx : 0 ≤ P.getD k 0 ∧ P.getD k 0 ≤ ent m I k
          · have H3 := Lib.hid (show allF (partF m I P) n 0 = allF (partF m I P) g' (k + 1) from by rw [H1.out, partF_t hx.1 hx.2, if_pos rfl])
            have Hl := Lib.hid (fun q => (l1In_yes (wr.drewN q) hx.1 hx.2).mono (fun e w'' h => (⟨h.1, q, h.2.symm⟩ : e = .returned (.bool true) ∧ ∃ q', w'' = wr.drewN q')))
            clear H1 hx
            generalize P.getD k 0 = X at *
            generalize ent m I k = Y at *
            go_wp2
            go_quiet ((go_at_call 75; exact Hl.out _))
            go_wp2
            go_roundg g'
            case measure => omega
            case rel => exact ⟨k + 1, by go_num, by omega, H3, hdr.drewN _⟩
          · have H3 := Lib.hid (show ok = false from by rw [HO.out, H1.out, partF_f hx]; rfl)
            have Hl := Lib.hid (fun q => (l1In_no (a := P.getD k 0) (b := 0) (c := ent m I k) (wr.drewN q) (by omega)).mono (fun e w'' h => (⟨h.1, q, h.2.symm⟩ : e = .returned (.bool false) ∧ ∃ q', w'' = wr.drewN q')))
            clear H1 hx
            generalize P.getD k 0 = X at *
            generalize ent m I k = Y at *
            have hz := hdr.heap
            have Hbb := Lib.hid (fun q => (hdr.drewN q).below w.heap.size)
            have hzs : w.heap.size ≤ wr.heap.size := by rw [hz]; exact Nat.le_refl _
            clear hz
            go_wp2
            go_quiet ((go_at_call 75; exact Hl.out _))
            go_wp2
            go_ret2
            exact ⟨_, by rw [H3.out]; rfl, by rw [Hno.out H3.out]; exact New.empty _ hzs, (Hbb.out _).alloc hzs _⟩
        · have e : g = 0 := by omega
          subst e
          have HC := Lib.hid (show allF (partF m I P) n 0 = true from H.out)
          have HK := Lib.hid (show ok = true from by rw [HO.out, HC.out])
          have HV2 := Lib.hid (show rv = splitT m I P n from by rw [HV.out, HK.out]; rfl)
          have Hok := Lib.hid (Hpo.out HC.out)
          have e2 : n = k := by omega
          subst e2
          clear hk H hg
          have hb0 := hdr.below w.heap.size
          have hz0 : w.heap.size = wr.heap.size := by rw [hdr.heap]
          obtain ⟨w1, rfl⟩ : ∃ w1 : World, w1 = wr := ⟨_, rfl⟩
          have Hcw := Lib.hid (Hcp.out _ hb0)
          have Hb0 := Lib.hid hb0
          have Hp' := Lib.hid (fun l (h : l < n) => hpe l h)
          have Ha' := Lib.hid (fun l (h : l < n) => hA2 l h)
          clear hdr hb0 Hcp Hpo Hin Hc
          clear hpe hA2
          go_wp2_with fail
          refine Hcw.out.mono ?_
          rintro e w2 ⟨v2, rfl, hn2, hb2⟩
          have hz2 := hb2.size
          have hmI := (Hsq.out.row hIn).1
          obtain ⟨gb, gc, _, hv, _, _, _, _, _, _, _⟩ := hn2.at (OInts.kept _) hmI
          rw [Hsq.out.1] at hv
          subst hv
          have Hn2 := Lib.hid hn2
          have Hbw := Lib.hid (Hb0.out.trans (hb2.mono (by omega)))
          have hpb2 : pb < w2.heap.size := by omega
          have hww : w.heap.size ≤ w2.heap.size := by omega
          clear hz0
          clear hn2 hb2 hmI Hcw
          go_wp2
          go_loopg [10, 11] n (fun g v ii wr => ∃ (k : Nat), ii = .int .i64 k ∧ k + g = n ∧ New (OInts 3) w2.heap.size wr v ((rowOf' n (splitR m I P n n)).take k) ∧ Below w2.heap.size w2 wr)
          case atStart => exact ⟨0, rfl, by omega, New.empty w2 (Nat.le_refl _), (Below.refl _ _).alloc (Nat.le_refl _) _⟩
          case round =>
            obtain ⟨k, rfl, hk, hnew, hbel⟩ := hrel
            obtain ⟨wo, rfl⟩ : ∃ wo : World, wo = wr := ⟨_, rfl⟩
            have hle := hbel.size
            have hbo := Hbw.out.trans (hbel.mono (by omega))
            have hrule := hbo.rule
            have Hbo := Lib.hid hbo
            have Hn := Lib.hid hnew
            have Hb := Lib.hid hbel
            have Hlk := Lib.hid (show ((rowOf' n (splitR m I P n n)).take k).length ≤ n from by rw [List.length_take]; omega)
            clear hnew hbel hbo
            by_cases hlt : k < n
            · have hP3 := Hp'.out k hlt
              have hA3 := Ha'.out k hlt
              obtain ⟨hd1, hd2, hd3⟩ := Hok.out k hlt
              have hk1 : (k : Int) < (n : Int) := by omega
              have Hs := Lib.hid (show _ = _ from take_snoc' (show (rowOf' n (splitR m I P n n))[k]? = some (ent m I k - P.getD k 0) from by rw [rowOf_at hlt, splitR_last]))
              generalize ent m I k = X at *
              generalize P.getD k 0 = Y at *
              have hw1 : wo.cell? ⟨ab, ao + I, none⟩ = some (.slice (some ⟨rb, ro, none⟩) n rc) := (hrule ab (ao + I) hab).trans hA1
              have hw2 : wo.cell? ⟨rb, ro + k, none⟩ = some (.int .i64 X) := (hrule rb (ro + k) hrb).trans hA3
              have hw3 : wo.cell? ⟨pb, po + k, none⟩ = some (.int .i64 Y) := (hrule pb (po + k) hpb).trans hP3
              have hxy : IntKind.i64.wrap (X - Y) = X - Y := IntWalk.i64_in _ (by omega)
              have Hww := Lib.hid hww
              clear hrule hA1 hA3 hP3
              go_wp2_with fail
              go_region_held3 (fun w' => w'.cell? ⟨ab, ao + I, none⟩ = some (.slice (some ⟨rb, ro, none⟩) n rc) ∧ w'.cell? ⟨rb, ro + k, none⟩ = some (.int .i64 X) ∧ w'.cell? ⟨pb, po + k, none⟩ = some (.int .i64 Y))
                (first
                  | exact hS1
                  | exact ⟨hw1, hw2, hw3⟩
                  | go_keep)
                ((first
                  | (refine step_push (w0 := wo) (lo := w2.heap.size) (y := X - Y) OIntR.kept (by rfl) (.tmp 66) (.tmp 79) 50 (by rfl) 3 (.int .i64 0) 8 Try.underlying50 infoI (by rfl) Hn.out hle (((Below.refl _ _).drew).alloc (Nat.le_refl _) _) ⟨[], ⟨rfl, rfl⟩, by simp [Fresh]⟩ (bb := wo.heap.size) (c := 1) (by simp) (by rfl) (by rfl) (by have := Hlk.out; omega) (by have := Hlk.out; omega) ?_
                     intro v1 wq hn1 _ _ hb1
                     have hS1 : wq.cell? ⟨ab, ao + I, none⟩ = some (.slice (some ⟨rb, ro, none⟩) n rc) ∧ wq.cell? ⟨rb, ro + k, none⟩ = some (.int .i64 X) ∧ wq.cell? ⟨pb, po + k, none⟩ = some (.int .i64 Y) := ⟨(hb1.cell (p := ⟨ab, ao + I, none⟩) (Nat.lt_of_lt_of_le hab Hww.out)).trans hw1, (hb1.cell (p := ⟨rb, ro + k, none⟩) (Nat.lt_of_lt_of_le hrb Hww.out)).trans hw2, (hb1.cell (p := ⟨pb, po + k, none⟩) hpb2).trans hw3⟩)
                  | fail))
              go_wp2
              go_roundg (n - (k + 1))
              case measure => omega
              case rel => exact ⟨k + 1, by go_num, by omega, by rw [← Hs.out]; exact hn1, Hb.out.trans hb1⟩
            · have e : k = n := by omega
              subst e
              clear hk
              obtain ⟨n, rfl⟩ : ∃ n : Nat, n = k := ⟨_, rfl⟩
              have hnew := Hn.out
              rw [rowOf_full] at hnew
              obtain ⟨xa, xn, xc, rfl⟩ := hnew.slice
              have hA := Apart.of_new (lo := w1.heap.size) (OTab.kept _ _) Hn2.out hnew Hb.out hz2
              obtain ⟨gb', gc', hv', _, hgl, hgb, ⟨u0, hgc0⟩, hgf, hst⟩ := hA.at (OInts.kept _) (OInts.kept _) (Hsq.out.row hIn).1
              obtain rfl : gb' = gb := by simp at hv'; exact hv'.1.symm
              have Hst := Lib.hid hst
              have Hsrc := Lib.hid (Ints.frame _ _ _ _ (Ints.frame _ _ _ _ H2.out Hbo.out) ((Below.refl wo.heap.size wo).alloc (Nat.le_refl _) (.cells #[] 3)))
              have hsz1 : w1.heap.size ≤ wo.heap.size := by omega
              clear hnew hA hv' hst hrule hA1
              have Hnx := Lib.hid (show ∀ w3 ya yn yc, Below wo.heap.size wo w3 → New (OInts 3) wo.heap.size w3 (.slice ya yn yc) P → ∃ v4 w4, (Builtin.append_ #[41, 41] 41 #[.slice (some ⟨gb', 0, none⟩) n gc, .slice (some ⟨w3.heap.size, 0, none⟩) 1 1]).run Try.prog ((w3.setCell ⟨gb', I, none⟩ (.slice ya yn yc)).alloc (.cells #[.slice xa xn xc] 50)) = .ok v4 w4 ∧ New (OTab 3 50) w1.heap.size w4 v4 (splitF m I P n 0) ∧ Below w1.heap.size w3 w4 from by
                intro w3 ya yn yc hb3 hn3
                have hz3 := hb3.size
                have hA3 := Hst.out w3 _ P hb3 hn3
                have hA4 := hA3.keep (OTab.kept _ _) (OInts.kept _) ((Below.refl (w3.setCell ⟨gb', I, none⟩ (.slice ya yn yc)).heap.size _).alloc (Nat.le_refl _) (.cells #[.slice xa xn xc] 50)) (Nat.le_refl _)
                obtain ⟨v4, w4, hr4, hn4, hb4⟩ := Apart.push (P := Try.prog) (bb := w3.heap.size) (c := 1) (OInts.kept _) 41 41 (.slice none 0 0) 24 Try.underlying41 infoR rfl hA4 (by simp; omega) (World.cell?_alloc_at _ _ _ 0 (by simp)) (by rw [List.length_set, Hsq.out.1]; omega) (by rw [List.length_set, Hsq.out.1]; omega)
                rw [splitF_start Hsq.out hIn Hp.out] at hn4
                exact ⟨v4, w4, hr4, hn4, ((((Below.refl w1.heap.size w3).setCell (p := ⟨gb', I, none⟩) hgl _).alloc (by simp; omega) _)).trans hb4⟩)
              clear Hst
              go_wp2_with (first
                | (at_builtin; refine wpl_append_vals (f := Value.int .i64) (fun _ => rfl) rfl (.tmp 83) (.tmp 84) 50 rfl 3 (.int .i64 0) 8 Try.underlying50 infoI rfl (New.empty (R := OValR (Value.int .i64)) (lo := wo.heap.size) wo (Nat.le_refl _)) (by simp) Hsrc.out rfl rfl (by rw [Hp.out]; simp; omega) (by rw [Hp.out]; simp; omega) ?_; intro v3 w3 hn3 _ _ hb3; obtain ⟨ya, yn, yc, rfl⟩ := hn3.slice; have hb3' := ((Below.refl wo.heap.size wo).alloc (Nat.le_refl _) (.cells #[] 3)).trans hb3; have hgc3 : w3.cell? ⟨gb', I, none⟩ = some u0 := (hb3'.cell (p := ⟨gb', I, none⟩) hgb).trans hgc0; have hgf3 : w3.frozen? ⟨gb', I, none⟩ = false := (hb3'.frozen (p := ⟨gb', I, none⟩) hgb).trans hgf; obtain ⟨v4, w4, hr4, hn4, hb4⟩ := Hnx.out w3 ya yn yc hb3' hn3; have Hr4 := Lib.hid hr4; have Hn4 := Lib.hid hn4; have Hb4 := Lib.hid ((hb3'.mono hsz1).trans hb4); obtain ⟨hb, hc, _, hv4, _⟩ := hn4.at (OInts.kept _) (splitF_at (k := 0) (Nat.succ_pos n)); rw [splitF_len] at hv4; subst hv4; clear hn3 hb3 hb3' hr4 hn4 hb4 Hnx)
                | (at_builtin; refine wpl_append_run rfl (.tmp 87) (.tmp 89) 41 rfl rfl rfl Hr4.out ?_)
                | fail)
              have hw1n : w.heap.size ≤ w1.heap.size := Hb0.out.size
              have Hbt := Lib.hid (Hbo.out.trans (Hb4.out.mono hw1n))
              have hw14 : w1.heap.size ≤ w4.heap.size := Nat.le_trans hsz1 Hb4.out.size
              clear hgc0 hgf hgb hgl hgc3 hgf3 hle hsz1 hz2 hww hpb2 hpb hab hrb
              go_loopg [12] (n + 1) (fun g ii wr => ∃ (k : Nat), ii = .int .i64 k ∧ k + g = n + 1 ∧ New (OTab 3 50) w1.heap.size wr (.slice (some ⟨hb, 0, none⟩) (n + 1) hc) (splitF m I P n k) ∧ Below w1.heap.size w4 wr)
              case atStart => exact ⟨0, rfl, by omega, Hn4.out, Below.refl _ _⟩
              case round =>
                obtain ⟨k, rfl, hk, hnew, hbel⟩ := hrel
                clear Hn4 Hb4 Hn2 Hbw Hsrc Hn Hb Hbo H2 Hr4
                have Hbk := Lib.hid hbel
                have hwr : w1.heap.size ≤ wr.heap.size := Nat.le_trans hw14 hbel.size
                by_cases hlt : k < n + 1
                · obtain ⟨b', c', rb2, rc2, hv, hnc, hlb, hltb, hcl, hrc, hrb2, hrne, hce, hpush⟩ := hnew.row_push (P := Try.prog) (splitF_at hlt) (rowOf_at hIn) 50 50 (.int .i64 0) 8 Try.underlying50 infoI rfl (by rw [rowOf_len]; omega) (by rw [rowOf_len]; omega)
                  obtain rfl : b' = hb := by simp at hv; exact hv.1.symm
                  rw [rowOf_len] at hcl
                  have HP := Lib.hid (show ∀ W : World, Below wr.heap.size wr W → W.cell? ⟨wr.heap.size, 0, none⟩ = some (.int .i64 (splitR m I P n k I)) → ∃ a' n' c' w2, (Builtin.append_ #[50, 50] 50 #[.slice (some ⟨rb2, 0, none⟩) n rc2, .slice (some ⟨wr.heap.size, 0, none⟩) 1 1]).run Try.prog W = .ok (.slice a' n' c') w2 ∧ w2.cell? ⟨b', k, none⟩ = some (.slice (some ⟨rb2, 0, none⟩) n rc2) ∧ w2.frozen? ⟨b', k, none⟩ = false ∧ Below w1.heap.size wr (w2.setCell ⟨b', k, none⟩ (.slice a' n' c')) ∧ New (OTab 3 50) w1.heap.size (w2.setCell ⟨b', k, none⟩ (.slice a' n' c')) (.slice (some ⟨b', 0, none⟩) (n + 1) hc) (splitF m I P n (k + 1)) from by
                    intro W hW hWc
                    obtain ⟨v', w2, hr, h1, h2, _, h4, h5⟩ := hpush W wr.heap.size 1 _ hW hWc
                    rw [splitF_set] at h5
                    rw [rowOf_len] at h1 hr
                    have h6 : ∃ a n c, v' = .slice a n c := by
                      obtain ⟨b2, c2, u2, hv2, _, _, _, hcu, _, hnu, _⟩ := h5.at (OInts.kept _) (i := k) (List.getElem?_eq_getElem (by rw [splitF_len]; omega))
                      simp at hv2
                      rw [← hv2.1, World.cell?_setCell_same _ _ _ h1] at hcu
                      cases hcu
                      exact hnu.slice
                    obtain ⟨a', n', c'', rfl⟩ := h6
                    exact ⟨a', n', c'', w2, hr, h1, h2, h4.setCell (p := ⟨b', k, none⟩) hlb _, h5⟩)
                  generalize splitR m I P n k I = x at *
                  clear hpush hv hnew hbel
                  go_wp2
                  go_region_law (first
                    | (obtain ⟨a', n', c', w2, hr, hc2, hf2, hb2, hn2⟩ := HP.out (wr.drew.alloc (.cells #[.int .i64 x] 3)) (((Below.refl _ _).drew).alloc (Nat.le_refl _) _) (World.cell?_alloc_at _ _ _ 0 rfl); refine step_append_run (by rfl) (.tmp 102) (.tmp 110) 50 (by rfl) (by rfl) (by rfl) hr ?_; have Hn9 := Lib.hid hn2; have Hb9 := Lib.hid hb2; clear hr hn2 hb2)
                    | (obtain ⟨a', n', c', w2, hr, hc2, hf2, hb2, hn2⟩ := HP.out ((wr.alloc (.cells #[.int .i64 x] 3)).drew) (((Below.refl _ _).alloc (Nat.le_refl _) _).drew) (World.cell?_alloc_at _ _ _ 0 rfl); refine step_append_run (by rfl) (.tmp 102) (.tmp 110) 50 (by rfl) (by rfl) (by rfl) hr ?_; have Hn9 := Lib.hid hn2; have Hb9 := Lib.hid hb2; clear hr hn2 hb2)
                    | fail)
                  all_goals (
                    go_wp2
                    go_roundg (n - k)
                    case measure => omega
                    case rel => exact ⟨k + 1, by go_num, by omega, Hn9.out, Hbk.out.trans Hb9.out⟩)
                · have e : k = n + 1 := by omega
                  subst e
                  rw [splitF_full] at hnew
                  have Hr := Lib.hid (hnew.mono hw1n)
                  have Hbz := Lib.hid (Hbt.out.trans (Hbk.out.mono hw1n))
                  clear hnew hbel Hbk hk
                  go_wp2
                  go_ret2
                  exact ⟨_, by rw [HK.out]; rfl, by rw [HV2.out]; exact Hr.out, Hbz.out⟩
    · have HK := Lib.hid (show splitOk m i P = false from by unfold splitOk; simp [hij])
      rw [HK.out]
      have hm9 := sm.2
      clear h1 h2 hm sm
      generalize m.length = n at *
      generalize P.length = p at *
      by_cases h9 : n = 9
      · clear hij
        subst h9
        go_enter Try.func151, Try.ntmps151
        go_wp2_with fail
        refine Hc.out.mono ?_
        rintro e w' ⟨rfl, rfl⟩
        go_wp2
        go_ret2
        exact ⟨_, rfl, by rw [Hno.out HK.out]; exact New.empty w (Nat.le_refl _), (Below.refl _ _).alloc (Nat.le_refl _) _⟩
      have t9 : ((n : Int) == 9) = false := by simp; omega
      by_cases h0 : i < 0 ∨ (n : Int) - 1 < i
      · have Hin := Lib.hid (l1In_no (a := i) (b := 0) (c := (n : Int) - 1) w h0)
        clear hij h0
        go_enter Try.func151, Try.ntmps151
        go_wp2_with fail
        refine Hc.out.mono ?_
        rintro e w' ⟨rfl, rfl⟩
        go_wp2_with (go_at_call 75; refine Hin.out.mono ?_; rintro e w' ⟨rfl, rfl⟩)
        go_ret2
        exact ⟨_, rfl, by rw [Hno.out HK.out]; exact New.empty w (Nat.le_refl _), (Below.refl _ _).alloc (Nat.le_refl _) _⟩
      have Hin := Lib.hid (l1In_yes (a := i) (b := 0) (c := (n : Int) - 1) w (by omega) (by omega))
      have tp : ((p : Int) != (n : Int)) = true := by simp; omega
      clear hij h0
      go_enter Try.func151, Try.ntmps151
      go_wp2_with fail
      refine Hc.out.mono ?_
      rintro e w' ⟨rfl, rfl⟩
      go_wp2_with (go_at_call 75; refine Hin.out.mono ?_; rintro e w' ⟨rfl, rfl⟩)
      go_ret2
      exact ⟨_, rfl, by rw [Hno.out HK.out]; exact New.empty w (Nat.le_refl _), (Below.refl _ _).alloc (Nat.le_refl _) _⟩
end Go.Proofs.Ytdohepngandajaa
