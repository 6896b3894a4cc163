/-
  SplitOut, the program's.
-/
import Derived.Test.YtdohepngandajaaRows
import Derived.Test.YtdohepngandajaaBase
import Derived.Test.YtdohepngandajaaTabs
import Derived.Test.YtdohepngandajaaMat
import Derived.Test.YtdohepngandajaaJoin
import Derived.Test.YtdohepngandajaaSplit
namespace Go.Proofs.Ytdohepngandajaa
open Go.RowKit Go.Deep Go.Sd

def partF (m : List (List Int)) (I : Nat) (P : List Int) (l : Nat) : Bool := decide (0 ≤ P.getD l 0 ∧ P.getD l 0 ≤ ent m I l)
def splitOk (m : List (List Int)) (i : Int) (P : List Int) : Bool :=
  isMat m && decide (m.length ≤ 8 ∧ 0 ≤ i ∧ i < m.length ∧ P.length = m.length) && allF (partF m i.toNat P) m.length 0
def splitV (m : List (List Int)) (i : Int) (P : List Int) : List (List Int) := if splitOk m i P = true then splitT m i.toNat P m.length else []

theorem allF_all {h : Nat → Bool} : ∀ {g k : Nat}, allF h g k = true → ∀ l, k ≤ l → l < k + g → h l = true
  | 0, k, _, l, h1, h2 => by omega
  | g + 1, k, H, l, h1, h2 => by
    unfold allF at H
    by_cases hk : h k = true
    · rw [if_pos hk] at H
      by_cases e : l = k
      · rw [e]; exact hk
      · exact allF_all H l (by omega) (by omega)
    · rw [if_neg hk] at H; cases H

theorem partOk_of {m : List (List Int)} {I n : Nat} {P : List Int} (hm : isMat m = true) (hn : m.length = n) (hI : I < n) (h : allF (partF m I P) n 0 = true) : partOk m I P n := by
  intro l hl
  have h1 := allF_all h l (Nat.zero_le _) (by omega)
  unfold partF at h1
  simp only [decide_eq_true_eq] at h1
  subst hn
  obtain ⟨r, hr, hx⟩ := ent_mem (isMat_sq hm).1.2 hI hl
  have h2 := isMat_bd hm r hr _ hx
  omega

theorem partF_t {m : List (List Int)} {I k : Nat} {P : List Int} (hx : 0 ≤ P.getD k 0) (hy : P.getD k 0 ≤ ent m I k) : partF m I P k = true := decide_eq_true ⟨hx, hy⟩
theorem partF_f {m : List (List Int)} {I k : Nat} {P : List Int} (h : ¬ (0 ≤ P.getD k 0 ∧ P.getD k 0 ≤ ent m I k)) : partF m I P k = false := decide_eq_false h

theorem splitT_sq (m : List (List Int)) (I : Nat) (P : List Int) (n : Nat) : Sq (n + 1) (splitT m I P n) := ⟨splitT_len m I P n, fun r hr => by
  unfold splitT at hr
  obtain ⟨k, _, rfl⟩ := List.mem_map.1 hr
  rw [List.length_append, rowOf_len]
  rfl⟩
theorem splitOk_sq {m : List (List Int)} {i : Int} {P : List Int} (h : splitOk m i P = true) : ∃ n, Sq n (splitV m i P) ∧ 0 < n ∧ n ≤ 9 := by
  refine ⟨m.length + 1, by unfold splitV; rw [if_pos h]; exact splitT_sq _ _ _ _, by omega, ?_⟩
  unfold splitOk at h
  simp only [Bool.and_eq_true, decide_eq_true_eq] at h
  omega
theorem splitV_bd (m : List (List Int)) (i : Int) (P : List Int) : (splitV m i P).length ≤ 9 ∧ ∀ x, x ∈ splitV m i P → x.length ≤ 9 := by
  by_cases h : splitOk m i P = true
  · obtain ⟨n, hs, _, h9⟩ := splitOk_sq h
    exact ⟨by rw [hs.1]; exact h9, fun x hx => by rw [hs.2 x hx]; exact h9⟩
  · unfold splitV
    rw [if_neg h]
    exact ⟨by simp, fun x hx => by cases hx⟩

set_option maxHeartbeats 2000000 in
set_option maxRecDepth 100000 in
theorem impl_SplitOut_c {w : World} {va vp : Value} {m : List (List Int)} {P : List Int} {i : Int} (h1 : Tab w va m) (h2 : Ints w vp P) :
    Calls Try.prog 97 #[va, .int .i64 i, vp] w (Makes2 (OTab 3 50) w (splitV m i P) (splitOk m i P)) := by
  have hsa := h1.shape
  obtain ⟨aa, ac, rfl, _, _, _⟩ := hsa
  have hsp := h2.shape
  obtain ⟨pa, pc, rfl, _, _, _⟩ := hsp
  have Hc := Lib.hid (impl_IsMatrix_c h1)
  have Hno := Lib.hid (fun (h : splitOk m i P = false) => show splitV m i P = [] from by unfold splitV; rw [h]; rfl)
  have hpl := h2.len
  cases hm : isMat m with
  | false =>
    have HK := Lib.hid (show splitOk m i P = false from by unfold splitOk; rw [hm]; rfl)
    rw [hm] at Hc
    rw [HK.out]
    clear h1 h2 hm
    go_enter Try.func97, Try.ntmps97
    go_wp2_with fail
    refine Hc.out.mono ?_
    rintro e w' ⟨rfl, rfl⟩
    go_wp2
    go_ret2
    exact ⟨_, rfl, by rw [Hno.out HK.out]; exact New.nil _ _, Below.refl _ _⟩
  | true =>
    rw [hm] at Hc
    have sm := isMat_sq hm
    by_cases hij : m.length ≤ 8 ∧ 0 ≤ i ∧ i < m.length ∧ P.length = m.length
    · obtain ⟨I, rfl⟩ : ∃ I : Nat, i = (I : Int) := ⟨i.toNat, by omega⟩
      have HO := Lib.hid (show splitOk m I P = allF (partF m I P) m.length 0 from by unfold splitOk; rw [hm]; simp [hij])
      have HV := Lib.hid (show splitV m I P = if splitOk m I P = true then splitT m I P m.length else [] from rfl)
      generalize splitOk m I P = ok at HO HV Hno ⊢
      generalize splitV m I P = rv at HV Hno ⊢
      have Hpo := Lib.hid (fun (h : allF (partF m I P) m.length 0 = true) => partOk_of hm rfl (show I < m.length by omega) h)
      clear hm
      generalize hn : m.length = n at *
      have hIn : I < n := by omega
      have hn0 : 0 < n := by omega
      have hn8 : n ≤ 8 := hij.1
      have hp : P.length = n := hij.2.2.2
      have t9 : ((n : Int) == 9) = false := by simp; omega
      have tI : decide ((I : Int) < 0) = false := by simp
      have tn : decide (n ≤ I) = false := by simp; omega
      have tp : ((P.length : Int) != (n : Int)) = false := by simp [hp]
      have Hsp := Lib.hid (fun (h : partOk m I P n) => split_c h1 h2 sm.1 hp hIn hn8 h)
      obtain ⟨ab, ao, ac', hv1, hab, hae⟩ := h1.entAt hn sm.1.2 hn0
      obtain ⟨rfl, rfl⟩ : aa = some ⟨ab, ao, none⟩ ∧ ac = ac' := by simp at hv1; exact hv1
      obtain ⟨pb, po, pc', hv2, hpb, hpe⟩ := ints_at h2 hp hn0
      rw [hp] at hv2
      obtain ⟨rfl, rfl⟩ : pa = some ⟨pb, po, none⟩ ∧ pc = pc' := by simp at hv2; exact hv2
      obtain ⟨rb, ro, rc, hA1, hrb, _, hA2⟩ := hae.at hIn hn0
      have hi1 : (I : Int) < (n : Int) := by omega
      rw [hp] at hpl Hsp tp ⊢
      clear h1 h2 sm hij hv1 hv2 hn hae
      go_enter Try.func97, Try.ntmps97
      go_wp2_with fail
      refine Hc.out.mono ?_
      rintro e w' ⟨rfl, rfl⟩
      go_wp2
      go_loopg [37] n (fun g ii wr => ∃ (k : Nat), ii = .int .i64 k ∧ k + g = n ∧ Hid (allF (partF m I P) n 0 = allF (partF m I P) g k) ∧ w = wr)
      case atStart => exact ⟨0, rfl, by omega, Lib.hid rfl, rfl⟩
      case round =>
        obtain ⟨k, rfl, hk, H, rfl⟩ := hrel
        obtain ⟨g, hg⟩ : ∃ g, g = gk := ⟨_, rfl⟩
        rw [← hg] at H hk
        by_cases hlt : k < n
        · obtain ⟨g', rfl⟩ : ∃ t, g = t + 1 := ⟨g - 1, by omega⟩
          have H1 := Lib.hid (show allF (partF m I P) n 0 = if partF m I P k = true then allF (partF m I P) g' (k + 1) else false from H.out)
          have hP3 := hpe k hlt
          have hA3 := hA2 k hlt
          have hk1 : (k : Int) < (n : Int) := by omega
          clear H hpe hA2
          by_cases hx : 0 ≤ P.getD k 0
          · by_cases hy : P.getD k 0 ≤ ent m I k
            · have H2 := Lib.hid (show allF (partF m I P) n 0 = allF (partF m I P) g' (k + 1) from by rw [H1.out, partF_t hx hy, if_pos rfl])
              clear H1
              generalize P.getD k 0 = X at *
              generalize ent m I k = Y at *
              go_wp2
              go_roundg g'
              case measure => omega
              case rel => exact ⟨k + 1, by go_num, by omega, H2, rfl⟩
            · have H2 := Lib.hid (show ok = false from by rw [HO.out, H1.out, partF_f (fun h => hy h.2)]; rfl)
              clear H1
              have hy' : ent m I k < P.getD k 0 := by omega
              generalize P.getD k 0 = X at *
              generalize ent m I k = Y at *
              go_wp2
              go_ret2
              exact ⟨_, by rw [H2.out]; rfl, by rw [Hno.out H2.out]; exact New.nil _ _, Below.refl _ _⟩
          · have H2 := Lib.hid (show ok = false from by rw [HO.out, H1.out, partF_f (fun h => hx h.1)]; rfl)
            clear H1
            have hx' : P.getD k 0 < 0 := by omega
            generalize P.getD k 0 = X at *
            go_wp2
            go_ret2
            exact ⟨_, by rw [H2.out]; rfl, by rw [Hno.out H2.out]; exact New.nil _ _, Below.refl _ _⟩
        · have e : g = 0 := by omega
          subst e
          have HC := Lib.hid (show allF (partF m I P) n 0 = true from H.out)
          have HK := Lib.hid (show ok = true from by rw [HO.out, HC.out])
          have HV2 := Lib.hid (show rv = splitT m I P n from by rw [HV.out, HK.out]; rfl)
          have Hs := Lib.hid (Hsp.out (Hpo.out HC.out))
          clear H hpe hA2
          go_wp2_with fail
          refine Hs.out.mono ?_
          rintro e w1 ⟨v1, rfl, hn1, hb1⟩
          go_wp2
          go_ret2
          exact ⟨_, by rw [HK.out]; rfl, by rw [HV2.out]; exact hn1, hb1⟩
    · have HK := Lib.hid (show splitOk m i P = false from by unfold splitOk; simp [hij])
      rw [HK.out]
      have hm9 := sm.2.2
      clear h1 h2 hm sm
      generalize m.length = n at *
      generalize P.length = p at *
      by_cases h9 : n = 9
      · clear hij
        subst h9
        go_enter Try.func97, Try.ntmps97
        go_wp2_with fail
        refine Hc.out.mono ?_
        rintro e w' ⟨rfl, rfl⟩
        go_wp2
        go_ret2
        exact ⟨_, rfl, by rw [Hno.out HK.out]; exact New.nil _ _, Below.refl _ _⟩
      have t9 : ((n : Int) == 9) = false := by simp; omega
      by_cases h0 : i < 0
      · clear hij
        go_enter Try.func97, Try.ntmps97
        go_wp2_with fail
        refine Hc.out.mono ?_
        rintro e w' ⟨rfl, rfl⟩
        go_wp2
        go_ret2
        exact ⟨_, rfl, by rw [Hno.out HK.out]; exact New.nil _ _, Below.refl _ _⟩
      by_cases h1 : (n : Int) ≤ i
      · clear hij
        go_enter Try.func97, Try.ntmps97
        go_wp2_with fail
        refine Hc.out.mono ?_
        rintro e w' ⟨rfl, rfl⟩
        go_wp2
        go_ret2
        exact ⟨_, rfl, by rw [Hno.out HK.out]; exact New.nil _ _, Below.refl _ _⟩
      have tp : ((p : Int) != (n : Int)) = true := by simp; omega
      clear hij
      go_enter Try.func97, Try.ntmps97
      go_wp2_with fail
      refine Hc.out.mono ?_
      rintro e w' ⟨rfl, rfl⟩
      go_wp2
      go_ret2
      exact ⟨_, rfl, by rw [Hno.out HK.out]; exact New.nil _ _, Below.refl _ _⟩
end Go.Proofs.Ytdohepngandajaa
