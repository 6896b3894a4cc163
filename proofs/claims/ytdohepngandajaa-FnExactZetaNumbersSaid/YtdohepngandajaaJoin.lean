/-
  JoinOut, the program's: two vertices joined to which the same arcs lead.
-/
import Derived.Test.YtdohepngandajaaRows
import Derived.Test.YtdohepngandajaaBase
import Derived.Test.YtdohepngandajaaTabs
import Derived.Test.YtdohepngandajaaMat
import Derived.Test.YtdohepngandajaaAlike
import Derived.Test.YtdohepngandajaaPower
import Derived.Test.YtdohepngandajaaAllF
namespace Go.Proofs.Ytdohepngandajaa
open Go.RowKit Go.Deep Go.Sd

def skip (j k : Nat) : Nat := if k < j then k else k + 1
def cnt (j k : Nat) : Nat := if k ≤ j then k else k - 1
theorem skip_cnt {j k : Nat} (h : k ≠ j) : skip j (cnt j k) = k := by unfold skip cnt; split <;> split <;> omega
theorem cnt_same (j : Nat) : cnt j (j + 1) = cnt j j := by unfold cnt; split <;> split <;> omega
theorem cnt_next {j k : Nat} (h : k ≠ j) : cnt j (k + 1) = cnt j k + 1 := by unfold cnt; split <;> split <;> omega
theorem cnt_lt {j k n : Nat} (h : k ≠ j) (hj : j < n) (hk : k < n) : cnt j k < n - 1 := by unfold cnt; split <;> omega
theorem cnt_full {j n : Nat} (hj : j < n) : cnt j n = n - 1 := by unfold cnt; split <;> omega
theorem cnt_le (j k : Nat) : cnt j k ≤ k := by unfold cnt; split <;> omega
theorem cnt_zero (j : Nat) : cnt j 0 = 0 := by unfold cnt; split <;> omega
theorem skip_lt {j k n : Nat} (hk : k < n - 1) : skip j k < n := by unfold skip; split <;> omega

def joinE (m : List (List Int)) (i j k l : Nat) : Int := if k = i then ent m k l + ent m j l else ent m k l
def joinT (m : List (List Int)) (i j n : Nat) : List (List Int) := tabOf (n - 1) (n - 1) (fun k l => joinE m i j (skip j k) (skip j l))
def colsEq (m : List (List Int)) (i j n : Nat) : Bool := allF (fun k => decide (ent m k i = ent m k j)) n 0
def joinOk (m : List (List Int)) (i j : Int) : Bool :=
  isMat m && decide (0 ≤ i ∧ i < j ∧ j < m.length) && colsEq m i.toNat j.toNat m.length && isMat (joinT m i.toNat j.toNat m.length)
def joinV (m : List (List Int)) (i j : Int) : List (List Int) := if joinOk m i j = true then joinT m i.toNat j.toNat m.length else []

theorem joinE_bd {m : List (List Int)} (h : isMat m = true) {j k l : Nat} (hk : k < m.length) (hj : j < m.length) (hl : l < m.length) :
    0 ≤ ent m k l ∧ ent m k l ≤ 1000000 ∧ 0 ≤ ent m j l ∧ ent m j l ≤ 1000000 := by
  obtain ⟨r, hr, hx⟩ := ent_mem (isMat_sq h).1.2 hk hl
  obtain ⟨r2, hr2, hx2⟩ := ent_mem (isMat_sq h).1.2 hj hl
  have h1 := isMat_bd h r hr _ hx
  have h2 := isMat_bd h r2 hr2 _ hx2
  omega

set_option maxHeartbeats 2000000 in
set_option maxRecDepth 100000 in
theorem impl_JoinOut_c {w : World} {va : Value} {m : List (List Int)} {i j : Int} (h1 : Tab w va m) :
    Calls Try.prog 99 #[va, .int .i64 i, .int .i64 j] w (Makes2 (OTab 3 50) w (joinV m i j) (joinOk m i j)) := by
  have hsa := h1.shape
  obtain ⟨aa, ac, rfl, _, _, _⟩ := hsa
  have Hc := Lib.hid (impl_IsMatrix_c h1)
  cases hm : isMat m with
  | false =>
    have HK := Lib.hid (show joinOk m i j = false from by unfold joinOk; rw [hm]; rfl)
    have HV := Lib.hid (show joinV m i j = [] from by unfold joinV; rw [HK.out]; rfl)
    rw [hm] at Hc
    rw [HK.out]
    clear h1 hm
    go_enter Try.func99, Try.ntmps99
    go_wp2_with fail
    refine Hc.out.mono ?_
    rintro e w' ⟨rfl, rfl⟩
    go_wp2
    go_ret2
    exact ⟨_, rfl, by rw [HV.out]; exact New.nil _ _, Below.refl _ _⟩
  | true =>
    rw [hm] at Hc
    have sm := isMat_sq hm
    by_cases hij : 0 ≤ i ∧ i < j ∧ j < m.length
    · obtain ⟨I, rfl⟩ : ∃ I : Nat, i = (I : Int) := ⟨i.toNat, by omega⟩
      obtain ⟨J, rfl⟩ : ∃ J : Nat, j = (J : Int) := ⟨j.toNat, by omega⟩
      have HO := Lib.hid (show joinOk m I J = (colsEq m I J m.length && isMat (joinT m I J m.length)) from by unfold joinOk; rw [hm]; simp [hij])
      have HV := Lib.hid (show joinV m I J = if joinOk m I J = true then joinT m I J m.length else [] from rfl)
      generalize joinOk m I J = ok at HO HV ⊢
      generalize joinV m I J = rv at HV ⊢
      have Hbd := Lib.hid (fun k l (hk : k < m.length) (hl : l < m.length) => joinE_bd (j := J) hm hk (by omega) hl)
      clear hm
      generalize hn : m.length = n at *
      have hIJ : I < J := by omega
      have hJn : J < n := by omega
      have hn0 : 0 < n := by omega
      have hn9 : n ≤ 9 := sm.2.2
      have dI : decide ((I : Int) < 0) = false := by simp
      have dJ : decide (J ≤ I) = false := by simp; omega
      have dn : decide (n ≤ J) = false := by simp; omega
      obtain ⟨ab, ao, ac', hv1, hab, hae⟩ := h1.entAt hn sm.1.2 hn0
      obtain ⟨rfl, rfl⟩ : aa = some ⟨ab, ao, none⟩ ∧ ac = ac' := by simp at hv1; exact hv1
      clear h1 sm hij hv1 hn
      go_enter Try.func99, Try.ntmps99
      go_wp2_with fail
      refine Hc.out.mono ?_
      rintro e w' ⟨rfl, rfl⟩
      go_wp2
      go_loopg [36] n (fun g ii wr => ∃ (k : Nat), ii = .int .i64 k ∧ k + g = n ∧ Hid (colsEq m I J n = allF (fun k => decide (ent m k I = ent m k J)) g k) ∧ Drawn w wr)
      case atStart => exact ⟨0, rfl, by omega, Lib.hid rfl, Drawn.refl _⟩
      case round =>
        obtain ⟨k, rfl, hk, H, hdr⟩ := hrel
        obtain ⟨g, hg⟩ : ∃ g, g = gk := ⟨_, rfl⟩
        rw [← hg] at H hk
        by_cases hlt : k < n
        · obtain ⟨g', rfl⟩ : ∃ t, g = t + 1 := ⟨g - 1, by omega⟩
          have H1 := Lib.hid (show colsEq m I J n = if decide (ent m k I = ent m k J) = true then allF (fun k => decide (ent m k I = ent m k J)) g' (k + 1) else false from H.out)
          obtain ⟨rb, ro, rc, hA1, hrb, _, hA2⟩ := hae.at hlt hn0
          have hA3 := hA2 I (by omega)
          have hA4 := hA2 J (by omega)
          have hrule := hdr.cell
          have hi1 : (I : Int) < (n : Int) := by omega
          have hi2 : (J : Int) < (n : Int) := by omega
          clear H hA2 hae
          by_cases he : ent m k I = ent m k J
          · have H2 := Lib.hid (show colsEq m I J n = allF (fun k => decide (ent m k I = ent m k J)) g' (k + 1) from by rw [H1.out]; simp [he])
            have t1 : (ent m k I != ent m k J) = false := by simp [he]
            clear he H1
            go_wp2
            go_quiet (fail)
            go_wp2
            go_roundg g'
            case measure => omega
            case rel => exact ⟨k + 1, by go_num, by omega, H2, hdr.drewN _⟩
          · have HK := Lib.hid (show ok = false from by rw [HO.out, H1.out]; simp [he])
            have HV2 := Lib.hid (show rv = [] from by rw [HV.out, HK.out]; rfl)
            have t1 : (ent m k I != ent m k J) = true := by simp [he]
            clear he H1
            go_wp2
            go_quiet (fail)
            go_wp2
            go_ret2
            exact ⟨_, by rw [HK.out]; rfl, by rw [HV2.out]; exact New.nil _ _, (hdr.drewN _).below _⟩
        · have e : g = 0 := by omega
          subst e
          have HC := Lib.hid (show colsEq m I J n = true from H.out)
          have e2 : n = k := by omega
          subst e2
          clear hk
          obtain ⟨wa, rfl⟩ : ∃ wa : World, wa = wr := ⟨_, rfl⟩
          have hba : Below w.heap.size w wa := hdr.below _
          have hza : w.heap.size = wa.heap.size := by rw [hdr.heap]
          have hae1 := hae.frame hab hba
          have hab1 : ab < wa.heap.size := by omega
          have Hba := Lib.hid hba
          have Hza := Lib.hid hza
          clear H hdr hae hba hza hg
          go_wp2
          go_loopg [10, 53] n (fun g v ii wr => ∃ (k : Nat), ii = .int .i64 k ∧ k + g = n ∧ New (OTab 3 50) wa.heap.size wr v ((joinT m I J n).take (cnt J k)) ∧ Below wa.heap.size wa wr)
          case atStart => exact ⟨0, rfl, by omega, by rw [cnt_zero]; exact New.empty wa (Nat.le_refl _), (Below.refl _ _).alloc (Nat.le_refl _) _⟩
          case round =>
            obtain ⟨k, rfl, hk, hnew, hbel⟩ := hrel
            obtain ⟨wo, rfl⟩ : ∃ wo : World, wo = wr := ⟨_, rfl⟩
            have hle := hbel.size
            have hrule := hbel.rule
            have Hn := Lib.hid hnew
            have Hb := Lib.hid hbel
            have hlk : ((joinT m I J n).take (cnt J k)).length ≤ n := by have := cnt_le J k; rw [List.length_take]; omega
            have Hlk := Lib.hid hlk
            clear hnew hbel hlk
            by_cases hlt : k < n
            · obtain ⟨rb, ro, rc, hA1, hrb, _, hA2⟩ := hae1.at hlt hn0
              by_cases hkJ : k = J
              · have Hs := Lib.hid (cnt_same J)
                have t1 : ((k : Int) == (J : Int)) = true := by simp [hkJ]
                have HkJ := Lib.hid hkJ
                clear hkJ hA2 hae1
                go_wp2
                go_roundg (n - (k + 1))
                case measure => omega
                case rel => exact ⟨k + 1, by go_num, by omega, by have e := HkJ.out; have h := Hn.out; rw [e] at h ⊢; rw [Hs.out]; exact h, Hb.out⟩
              · have t1 : ((k : Int) == (J : Int)) = false := by simp; omega
                have HkJ := Lib.hid hkJ
                obtain ⟨sb, so, sc, hJ1, hsb, _, hJ2⟩ := hae1.at hJn hn0
                clear hkJ hae1
                go_wp2
                clear hrule
                go_loopg [13, 64] n (fun g lv ll wr => ∃ (l : Nat), ll = .int .i64 l ∧ l + g = n ∧ New (OInts 3) wo.heap.size wr lv ((rowOf' (n - 1) (fun l' => joinE m I J k (skip J l'))).take (cnt J l)) ∧ Below wo.heap.size wo wr)
                case atStart => exact ⟨0, rfl, by omega, by rw [cnt_zero]; exact New.empty wo (Nat.le_refl _), (Below.refl _ _).alloc (Nat.le_refl _) _⟩
                case round =>
                  obtain ⟨l, rfl, hl, hnew, hbel⟩ := hrel
                  obtain ⟨wi, rfl⟩ : ∃ wi : World, wi = wr := ⟨_, rfl⟩
                  have hle2 := hbel.size
                  have hrule2 : ∀ b o, b < wa.heap.size → wi.cell? ⟨b, o, none⟩ = wa.cell? ⟨b, o, none⟩ := fun b o hb => (hbel.rule b o (by omega)).trans (Hb.out.rule b o hb)
                  have Hn2 := Lib.hid hnew
                  have Hb2 := Lib.hid hbel
                  have Hll := Lib.hid (show ((rowOf' (n - 1) (fun l' => joinE m I J k (skip J l'))).take (cnt J l)).length ≤ n from by have := cnt_le J l; rw [List.length_take]; omega)
                  clear hnew hbel
                  by_cases hlt2 : l < n
                  · have hA3 := hA2 l hlt2
                    have hJ3 := hJ2 l hlt2
                    obtain ⟨hd1, hd2, hd3, hd4⟩ := Hbd.out k l hlt hlt2
                    by_cases hlJ : l = J
                    · have Hs := Lib.hid (cnt_same J)
                      have t2 : ((l : Int) == (J : Int)) = true := by simp [hlJ]
                      have HlJ := Lib.hid hlJ
                      clear hlJ hA2 hJ2
                      go_wp2
                      go_roundg (n - (l + 1))
                      case measure => omega
                      case rel => exact ⟨l + 1, by go_num, by omega, by have e := HlJ.out; have h := Hn2.out; rw [e] at h ⊢; rw [Hs.out]; exact h, Hb2.out⟩
                    · have t2 : ((l : Int) == (J : Int)) = false := by simp; omega
                      have hat : (rowOf' (n - 1) (fun l' => joinE m I J k (skip J l')))[cnt J l]? = some (joinE m I J k l) := by rw [rowOf_at (cnt_lt hlJ hJn hlt2), skip_cnt hlJ]
                      have Hs := Lib.hid (show _ = _ from take_snoc' hat)
                      rw [← cnt_next hlJ] at Hs
                      by_cases hkI : k = I
                      · have t3 : ((k : Int) == (I : Int)) = true := by simp [hkI]
                        have He := Lib.hid (show joinE m I J k l = ent m k l + ent m J l from by unfold joinE; rw [if_pos hkI])
                        generalize ent m k l = X at *
                        generalize ent m J l = Y at *
                        rw [He.out] at Hs
                        clear hlJ hat hA2 hJ2 hkI
                        go_wp2_with (at_builtin; refine wpl_push (w0 := wi) (lo := wo.heap.size) (y := X + Y) OIntR.kept rfl (.tmp 81) (.tmp 91) 50 rfl 3 (.int .i64 0) 8 Try.underlying50 infoI rfl Hn2.out hle2 ((Below.refl _ _).alloc (Nat.le_refl _) _) ⟨[], ⟨rfl, rfl⟩, by simp [Fresh]⟩ (bb := wi.heap.size) (c := 1) (by simp) rfl rfl (by have := Hll.out; omega) (by have := Hll.out; omega) ?_; intro v1 w1 hn1 _ _ hb1)
                        go_roundg (n - (l + 1))
                        case measure => omega
                        case rel => exact ⟨l + 1, by go_num, by omega, by rw [← Hs.out]; exact hn1, Hb2.out.trans hb1⟩
                      · have t3 : ((k : Int) == (I : Int)) = false := by simp; omega
                        have He := Lib.hid (show joinE m I J k l = ent m k l from by unfold joinE; rw [if_neg hkI])
                        generalize ent m k l = X at *
                        rw [He.out] at Hs
                        clear hlJ hat hA2 hJ2 hkI
                        go_wp2_with (at_builtin; refine wpl_push (w0 := wi) (lo := wo.heap.size) (y := X) OIntR.kept rfl (.tmp 69) (.tmp 71) 50 rfl 3 (.int .i64 0) 8 Try.underlying50 infoI rfl Hn2.out hle2 ((Below.refl _ _).alloc (Nat.le_refl _) _) ⟨[], ⟨rfl, rfl⟩, by simp [Fresh]⟩ (bb := wi.heap.size) (c := 1) (by simp) rfl rfl (by have := Hll.out; omega) (by have := Hll.out; omega) ?_; intro v1 w1 hn1 _ _ hb1)
                        go_roundg (n - (l + 1))
                        case measure => omega
                        case rel => exact ⟨l + 1, by go_num, by omega, by rw [← Hs.out]; exact hn1, Hb2.out.trans hb1⟩
                  · have e : l = n := by omega
                    subst e
                    have hr := Hn2.out
                    rw [cnt_full hJn, rowOf_full] at hr
                    obtain ⟨xa, xn, xc, rfl⟩ := hr.slice
                    have Hr := Lib.hid hr
                    have hat : (joinT m I J l)[cnt J k]? = some (rowOf' (l - 1) (fun l' => joinE m I J k (skip J l'))) := by unfold joinT; rw [tabOf_at (cnt_lt HkJ.out hJn hlt), skip_cnt HkJ.out]
                    have Hs := Lib.hid (show _ = _ from take_snoc' hat)
                    rw [← cnt_next HkJ.out] at Hs
                    clear hr hat hA2 hJ2
                    go_wp2_with (at_builtin; refine wpl_push (w0 := wo) (lo := wa.heap.size) (OInts.kept _) rfl (.tmp 94) (.tmp 96) 41 rfl 50 (.slice none 0 0) 24 Try.underlying41 infoR rfl Hn.out hle (Hb2.out.alloc hle2 _) (New.keep (OInts.kept _) Hr.out ((Below.refl wi.heap.size _).alloc (Nat.le_refl _) _) (Nat.le_refl _)) (bb := wi.heap.size) (c := 1) (by simp) rfl rfl (by have := Hlk.out; omega) (by have := Hlk.out; omega) ?_; intro v1 w1 hn1 _ _ hb1)
                    go_roundg (l - (k + 1))
                    case measure => omega
                    case rel => exact ⟨k + 1, by go_num, by omega, by rw [← Hs.out]; exact hn1, Hb.out.trans hb1⟩
            · have e : k = n := by omega
              subst e
              have hr := Hn.out
              rw [cnt_full hJn, show (joinT m I J k).take (k - 1) = joinT m I J k from tabOf_full] at hr
              have Hr := Lib.hid hr
              clear hr hae1 hrule
              cases hp : isMat (joinT m I J k) with
              | false =>
                have HK := Lib.hid (show ok = false from by rw [HO.out, hp]; simp)
                have HV2 := Lib.hid (show rv = [] from by rw [HV.out, HK.out]; rfl)
                have Hch := Lib.hid (checked_no Hr.out.tab hp)
                clear hp
                go_wp2_with fail
                refine Hch.out.mono ?_
                rintro e w' ⟨rfl, rfl⟩
                go_wp2
                go_ret2
                exact ⟨_, by rw [HK.out]; rfl, by rw [HV2.out]; exact New.nil _ _, Hba.out.trans (Hb.out.mono (by have := Hza.out; omega))⟩
              | true =>
                have HK := Lib.hid (show ok = true from by rw [HO.out, hp, HC.out]; rfl)
                have HV2 := Lib.hid (show rv = joinT m I J k from by rw [HV.out, HK.out]; rfl)
                have Hch := Lib.hid (checked_yes Hr.out.tab hp)
                clear hp
                go_wp2_with fail
                refine Hch.out.mono ?_
                rintro e w' ⟨rfl, rfl⟩
                go_wp2
                go_ret2
                exact ⟨_, by rw [HK.out]; rfl, by rw [HV2.out]; exact Hr.out.mono (by have := Hza.out; omega), Hba.out.trans (Hb.out.mono (by have := Hza.out; omega))⟩
    · have HK := Lib.hid (show joinOk m i j = false from by unfold joinOk; simp [hij])
      have HV := Lib.hid (show joinV m i j = [] from by unfold joinV; rw [HK.out]; rfl)
      rw [HK.out]
      clear h1 hm sm
      by_cases h0 : i < 0
      · clear hij
        go_enter Try.func99, Try.ntmps99
        go_wp2_with fail
        refine Hc.out.mono ?_
        rintro e w' ⟨rfl, rfl⟩
        go_wp2
        go_ret2
        exact ⟨_, rfl, by rw [HV.out]; exact New.nil _ _, Below.refl _ _⟩
      by_cases h1 : j ≤ i
      · clear hij
        go_enter Try.func99, Try.ntmps99
        go_wp2_with fail
        refine Hc.out.mono ?_
        rintro e w' ⟨rfl, rfl⟩
        go_wp2
        go_ret2
        exact ⟨_, rfl, by rw [HV.out]; exact New.nil _ _, Below.refl _ _⟩
      have h2 : (m.length : Int) ≤ j := by omega
      clear hij
      go_enter Try.func99, Try.ntmps99
      go_wp2_with fail
      refine Hc.out.mono ?_
      rintro e w' ⟨rfl, rfl⟩
      go_wp2
      go_ret2
      exact ⟨_, rfl, by rw [HV.out]; exact New.nil _ _, Below.refl _ _⟩
end Go.Proofs.Ytdohepngandajaa
