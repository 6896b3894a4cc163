/-
  Texts of this claim joined: laws for its walks, contracts of the functions that the law reaches.
-/
import Derived.Test.YtlkgkfgpnnahdaaGreatFnStepsM12
import Derived.Test.YtlkgkfgpnnahdaaGreatFnStepsM17
import Derived.Test.YtlkgkfgpnnahdaaGreatFnStepsM9
import Derived.Deep.RegionHeld3
import Derived.Deep.DeepCutAuto
import Derived.Test.YtlkgkfgpnnahdaaGreatFnStepsM6
import Derived.Test.YtlkgkfgpnnahdaaGreatFnStepsM10
import Derived.Test.YtlkgkfgpnnahdaaGreatFnStepsM2
import Derived.Test.YtlkgkfgpnnahdaaGreatFnStepsM11
import Derived.Test.YtlkgkfgpnnahdaaGreatFnStepsM14
import Derived.Test.YtlkgkfgpnnahdaaGreatRows
import Derived.Test.YtlkgkfgpnnahdaaGreatFnStepsM1
import Derived.Test.YtlkgkfgpnnahdaaGreatFnStepsM3
import Derived.Deep.RegionLaw
import Derived.WalkSpells
import Derived.IntWalk
section
/-
  AreLinked, both sides, over StepsFrom and AreAlike.
-/
namespace Go.Proofs.YtlkgkfgpnnahdaaGreat
open Go.RowKit Go.Deep Go.Sd
set_option linter.unusedSimpArgs false
def linkL (A B : List Tbl) : Bool := A.any fun x => B.any fun y => alikeM x y
def linkM (a b : Tbl) : Bool := isMat a && (isMat b && (decide (a.length ≤ 2) && (decide (b.length ≤ 2) && linkL (a :: stepsV a) (b :: stepsV b))))
theorem link_drop {A B : List Tbl} {k : Nat} {x : Tbl} (h : A[k]? = some x) : linkL (A.drop k) B = ((B.drop 0).any (fun y => alikeM x y) || linkL (A.drop (k + 1)) B) := by
  unfold linkL
  rw [drop_cons' h, List.any_cons]
  rfl
theorem any_drop {α : Type} {p : α → Bool} {xs : List α} {k : Nat} {x : α} (h : xs[k]? = some x) : (xs.drop k).any p = (p x || (xs.drop (k + 1)).any p) := by
  rw [drop_cons' h, List.any_cons]

set_option maxHeartbeats 4000000 in
set_option maxRecDepth 100000 in
theorem impl_AreLinked_c {w : World} {va vb : Value} {a b : Tbl} (h1 : Tab w va a) (h2 : Tab w vb b) :
    Calls Tryz.prog 22 #[va, vb] w fun e w' => e = .returned (.bool (linkM a b)) ∧ Below w.heap.size w w' := by
  have HIa := Lib.hid (impl_IsMatrix_c h1)
  have HIb := Lib.hid (impl_IsMatrix_c h2)
  have HTa := Lib.hid h1
  have HTb := Lib.hid h2
  obtain ⟨aa, ca, rfl, -⟩ := h1.shape
  obtain ⟨ab, cb, rfl, -⟩ := h2.shape
  have hla := h1.len
  have hlb := h2.len
  have HM := Lib.hid (show linkM a b = (isMat a && (isMat b && (decide (a.length ≤ 2) && (decide (b.length ≤ 2) && linkL (a :: stepsV a) (b :: stepsV b))))) from rfl)
  generalize linkM a b = R at HM ⊢
  clear h1 h2
  cases ha : isMat a with
  | false =>
    rw [ha] at HIa HM
    have HF := Lib.hid (show R = false from by rw [HM.out]; rfl)
    clear HM HTa HTb
    go_enter Tryz.func22, Tryz.ntmps22
    go_wp2_with fail
    (with_reducible refine HIa.out.mono ?_)
    rintro e w0 ⟨rfl, rfl⟩
    go_wp2
    go_ret
    exact ⟨by rw [HF.out]; rfl, Below.refl _ _⟩
  | true =>
  rw [ha] at HIa HM
  have Hma := Lib.hid ha
  clear ha
  cases hb : isMat b with
  | false =>
    rw [hb] at HIb HM
    have HF := Lib.hid (show R = false from by rw [HM.out]; rfl)
    clear HM HTa HTb
    go_enter Tryz.func22, Tryz.ntmps22
    go_wp2_with fail
    (with_reducible refine HIa.out.mono ?_)
    rintro e w0 ⟨rfl, rfl⟩
    go_wp2_with fail
    (with_reducible refine HIb.out.mono ?_)
    rintro e w0 ⟨rfl, rfl⟩
    go_wp2
    go_ret
    exact ⟨by rw [HF.out]; rfl, Below.refl _ _⟩
  | true =>
  rw [hb] at HIb HM
  have Hmb := Lib.hid hb
  clear hb
  by_cases h2a : 2 < a.length
  · have h2i : (2 : Int) < (a.length : Int) := by omega
    have HF := Lib.hid (show R = false from by rw [HM.out]; rw [show decide (a.length ≤ 2) = false from decide_eq_false (by omega)]; rfl)
    clear HM HTa HTb
    go_enter Tryz.func22, Tryz.ntmps22
    go_wp2_with fail
    (with_reducible refine HIa.out.mono ?_)
    rintro e w0 ⟨rfl, rfl⟩
    go_wp2_with fail
    (with_reducible refine HIb.out.mono ?_)
    rintro e w0 ⟨rfl, rfl⟩
    go_wp2
    go_ret
    exact ⟨by rw [HF.out]; rfl, Below.refl _ _⟩
  have h2i : ¬ ((2 : Int) < (a.length : Int)) := by omega
  by_cases h2b : 2 < b.length
  · have h3i : (2 : Int) < (b.length : Int) := by omega
    have HF := Lib.hid (show R = false from by rw [HM.out]; rw [show decide (b.length ≤ 2) = false from decide_eq_false (by omega)]; simp)
    clear HM HTa HTb
    go_enter Tryz.func22, Tryz.ntmps22
    go_wp2_with fail
    (with_reducible refine HIa.out.mono ?_)
    rintro e w0 ⟨rfl, rfl⟩
    go_wp2_with fail
    (with_reducible refine HIb.out.mono ?_)
    rintro e w0 ⟨rfl, rfl⟩
    go_wp2
    go_ret
    exact ⟨by rw [HF.out]; rfl, Below.refl _ _⟩
  have h3i : ¬ ((2 : Int) < (b.length : Int)) := by omega
  have HR := Lib.hid (show R = linkL (a :: stepsV a) (b :: stepsV b) from by rw [HM.out, show decide (a.length ≤ 2) = true from decide_eq_true (by omega), show decide (b.length ≤ 2) = true from decide_eq_true (by omega)]; rfl)
  have HLa := Lib.hid (stepsV_len a)
  have HLb := Lib.hid (stepsV_len b)
  have HSa := Lib.hid (fun (w' : World) (hb : Below w.heap.size w w') => impl_StepsFrom_c (Tab.frame _ _ _ _ HTa.out hb))
  have HSb := Lib.hid (fun (w' : World) (hb : Below w.heap.size w w') => impl_StepsFrom_c (Tab.frame _ _ _ _ HTb.out hb))
  generalize stepsV a = SA at HSa HR HLa
  generalize stepsV b = SB at HSb HR HLb
  obtain ⟨LA, hLA⟩ : ∃ L, L = a :: SA := ⟨_, rfl⟩
  rw [← hLA] at HR
  have HlA := Lib.hid (show LA.length ≤ 2113 from by rw [hLA]; simpa using HLa.out)
  have HEA := Lib.hid hLA
  clear hLA
  obtain ⟨LB, hLB⟩ : ∃ L, L = b :: SB := ⟨_, rfl⟩
  rw [← hLB] at HR
  have HlB := Lib.hid (show LB.length ≤ 2113 from by rw [hLB]; simpa using HLb.out)
  have HEB := Lib.hid hLB
  clear hLB
  clear HM Hma Hmb
  go_enter Tryz.func22, Tryz.ntmps22
  go_wp2_with fail
  (with_reducible refine HIa.out.mono ?_)
  rintro e w0 ⟨rfl, rfl⟩
  go_wp2_with fail
  (with_reducible refine HIb.out.mono ?_)
  rintro e w0 ⟨rfl, rfl⟩
  have HBc := Lib.hid (Below.refl w.heap.size w)
  go_wp2_with fail
  obtain ⟨wl0, el⟩ : ∃ x, x = w.alloc (.cells #[.slice ab b.length cb] 24) := ⟨_, rfl⟩
  rw [← el]
  have HBl := Lib.hid (show Below w.heap.size w wl0 from by rw [el]; exact (Below.refl _ _).alloc (Nat.le_refl _) _)
  have HNl := Lib.hid (show New (OwnOf 24 (OValR slV)) w.heap.size wl0 (.slice (some ⟨w.heap.size, 0, none⟩) 1 1) [(ab, b.length, cb)] from by rw [el]; exact New.one slV_kept (R := OValR slV) (x := (ab, b.length, cb)) ⟨[], ⟨rfl, rfl⟩, by simp [Fresh]⟩ (Nat.le_refl _))
  have Hzl := Lib.hid (show wl0.heap.size = w.heap.size + 1 from by rw [el]; simp)
  clear el
  (with_reducible refine (HSb.out _ (HBc.out.trans (HBl.out.mono HBc.out.size))).mono ?_)
  rintro e ws0 ⟨vs0, rfl, hn, hb⟩
  have HBm := Lib.hid (HBl.out.trans (hb.mono HBl.out.size))
  have HNm := Lib.hid (New.keep (OwnOf.kept slV_kept) HNl.out hb (Nat.le_refl _))
  have Hzm := Lib.hid HBm.out.size
  obtain ⟨ts0, hts, htl, htr⟩ := own_tabs_vals hn
  obtain ⟨sa0, sc0, rfl, -⟩ := hts.shape
  have HTm := Lib.hid hts
  have Htl := Lib.hid htl
  have Htr := Lib.hid htr
  have Hlt := Lib.hid (show ts0.length ≤ 2112 from by have := HLb.out; omega)
  clear hn hb hts htl htr HSb HBl HNl
  go_wp2_with (at_builtin; go_loud (refine wpl_append_vals (f := slV) (fun _ => rfl) rfl (.tmp 29) (.tmp 31) 33 rfl 24 (.slice none 0 0) 24 Tryz.underlying33 infoT rfl (lo := w.heap.size) HNm.out Hzm.out HTm.out rfl rfl (by have := Hlt.out; simp only [List.length_singleton]; omega) (by have := Hlt.out; simp only [List.length_singleton]; omega) ?_); intro v0 wq0 hn hg _ hb; have HBq := Lib.hid (HBm.out.trans hb); go_loud (have htab : Tabs wq0 v0 LB := (by rw [HEB.out]; exact link_tabs hn (Tab.frame _ _ _ _ HTb.out (HBc.out.trans (HBq.out.mono HBc.out.size))) Htl.out (Htr.out _ fun b hb1 hb2 => hg.block b hb2 (fun e => by have e2 : b = w.heap.size := Option.some.inj e; have := Hzl.out; omega)))); obtain ⟨ya0, yc0, rfl, -⟩ := htab.shape; have HTB := Lib.hid htab; clear hn hg hb htab)
  replace HBc := Lib.hid (HBc.out.trans (HBq.out.mono HBc.out.size))
  clear HBm HNm HTm HBq Hzl Hzm Htl Htr Hlt
  go_wp2_with fail
  obtain ⟨wl1, el⟩ : ∃ x, x = wq0.alloc (.cells #[.slice aa a.length ca] 24) := ⟨_, rfl⟩
  rw [← el]
  have HBl := Lib.hid (show Below wq0.heap.size wq0 wl1 from by rw [el]; exact (Below.refl _ _).alloc (Nat.le_refl _) _)
  have HNl := Lib.hid (show New (OwnOf 24 (OValR slV)) wq0.heap.size wl1 (.slice (some ⟨wq0.heap.size, 0, none⟩) 1 1) [(aa, a.length, ca)] from by rw [el]; exact New.one slV_kept (R := OValR slV) (x := (aa, a.length, ca)) ⟨[], ⟨rfl, rfl⟩, by simp [Fresh]⟩ (Nat.le_refl _))
  have Hzl := Lib.hid (show wl1.heap.size = wq0.heap.size + 1 from by rw [el]; simp)
  clear el
  (with_reducible refine (HSa.out _ (HBc.out.trans (HBl.out.mono HBc.out.size))).mono ?_)
  rintro e ws1 ⟨vs1, rfl, hn, hb⟩
  have HBm := Lib.hid (HBl.out.trans (hb.mono HBl.out.size))
  have HNm := Lib.hid (New.keep (OwnOf.kept slV_kept) HNl.out hb (Nat.le_refl _))
  have Hzm := Lib.hid HBm.out.size
  obtain ⟨ts1, hts, htl, htr⟩ := own_tabs_vals hn
  obtain ⟨sa1, sc1, rfl, -⟩ := hts.shape
  have HTm := Lib.hid hts
  have Htl := Lib.hid htl
  have Htr := Lib.hid htr
  have Hlt := Lib.hid (show ts1.length ≤ 2112 from by have := HLa.out; omega)
  clear hn hb hts htl htr HSa HBl HNl
  go_wp2_with (at_builtin; go_loud (refine wpl_append_vals (f := slV) (fun _ => rfl) rfl (.tmp 34) (.tmp 36) 33 rfl 24 (.slice none 0 0) 24 Tryz.underlying33 infoT rfl (lo := wq0.heap.size) HNm.out Hzm.out HTm.out rfl rfl (by have := Hlt.out; simp only [List.length_singleton]; omega) (by have := Hlt.out; simp only [List.length_singleton]; omega) ?_); intro v1 wq1 hn hg _ hb; have HBq := Lib.hid (HBm.out.trans hb); go_loud (have htab : Tabs wq1 v1 LA := (by rw [HEA.out]; exact link_tabs hn (Tab.frame _ _ _ _ HTa.out (HBc.out.trans (HBq.out.mono HBc.out.size))) Htl.out (Htr.out _ fun b hb1 hb2 => hg.block b hb2 (fun e => by have e2 : b = wq0.heap.size := Option.some.inj e; have := Hzl.out; omega)))); obtain ⟨ya1, yc1, rfl, -⟩ := htab.shape; have HTA := Lib.hid htab; clear hn hg hb htab)
  replace HBc := Lib.hid (HBc.out.trans (HBq.out.mono HBc.out.size))
  replace HTB := Lib.hid (Tabs.frame _ _ _ _ HTB.out HBq.out)
  clear HBm HNm HTm HBq Hzl Hzm Htl Htr Hlt
  obtain ⟨nA, hnA⟩ : ∃ n, n = LA.length := ⟨_, rfl⟩
  have HnA := Lib.hid hnA
  have hlA := HlA.out
  have HTA' := Lib.hid (show Tabs wq1 (.slice ya1 nA yc1) LA from by rw [hnA]; exact HTA.out)
  rw [← hnA] at hlA ⊢
  clear hnA HTA
  obtain ⟨nB, hnB⟩ : ∃ n, n = LB.length := ⟨_, rfl⟩
  have HnB := Lib.hid hnB
  have hlB := HlB.out
  have HTB' := Lib.hid (show Tabs wq1 (.slice ya0 nB yc0) LB from by rw [hnB]; exact HTB.out)
  rw [← hnB] at hlB ⊢
  clear hnB HTB
  have HR0 := Lib.hid (show R = linkL (LA.drop 0) LB from HR.out)
  clear HR HLa HLb HEA HEB HlA HlB HIa HIb hla hlb h2i h3i h2a h2b
  go_loopg [39] nA (fun g i wr => ∃ (k : Nat), i = .int .i64 k ∧ k + g = nA ∧ Hid (R = linkL (LA.drop k) LB) ∧ Hid (Below wq1.heap.size wq1 wr))
  case atStart => exact ⟨0, rfl, by omega, HR0, Lib.hid (Below.refl _ _)⟩
  case round =>
    clear HR0
    obtain ⟨k, rfl, hk, HR, HB⟩ := hrel
    obtain ⟨wk, rfl⟩ : ∃ x, x = wr := ⟨_, rfl⟩
    by_cases hkn : k < nA
    · have hki : (k : Int) < (nA : Int) := by omega
      obtain ⟨g, rfl⟩ : ∃ x, gk = x + 1 := ⟨gk - 1, by omega⟩
      obtain ⟨x, hx, -⟩ := at_lt (xs := LA) (k := k) (by have := HnA.out; omega)
      have HR1 := Lib.hid (show R = ((LB.drop 0).any (fun y => alikeM x y) || linkL (LA.drop (k + 1)) LB) from by rw [HR.out]; exact link_drop hx)
      obtain ⟨b1, o1, c1, xa, xc, hv, hb1, g1, hxT⟩ := HTA'.out.tabAt hx
      simp only [Value.slice.injEq] at hv
      obtain ⟨rfl, -, rfl⟩ := hv
      have HxT := Lib.hid hxT
      generalize x.length = xl at *
      clear hxT HR hx
      have gk1 := (HB.out.cell (p := ⟨b1, o1 + k, none⟩) hb1).trans g1
      clear g1 hb1
      go_wp2
      clear gk1
      go_loopg [45] nB (fun g2 i wr => ∃ (j : Nat), i = .int .i64 j ∧ j + g2 = nB ∧ Hid (R = ((LB.drop j).any (fun y => alikeM x y) || linkL (LA.drop (k + 1)) LB)) ∧ Hid (Below wq1.heap.size wq1 wr))
      case atStart => exact ⟨0, rfl, by omega, HR1, HB⟩
      case round =>
        clear HR1 HB
        obtain ⟨j, rfl, hj, HR, HB⟩ := hrel
        obtain ⟨wj, rfl⟩ : ∃ x, x = wr := ⟨_, rfl⟩
        by_cases hjn : j < nB
        · have hji : (j : Int) < (nB : Int) := by omega
          obtain ⟨g2, rfl⟩ : ∃ x, gk = x + 1 := ⟨gk - 1, by omega⟩
          obtain ⟨y, hy, -⟩ := at_lt (xs := LB) (k := j) (by have := HnB.out; omega)
          have HR1 := Lib.hid (show R = ((alikeM x y || (LB.drop (j + 1)).any (fun y => alikeM x y)) || linkL (LA.drop (k + 1)) LB) from by rw [HR.out, any_drop hy])
          obtain ⟨b2, o2, c2, pa, pc, hv, hb2, g2', hyT⟩ := HTB'.out.tabAt hy
          simp only [Value.slice.injEq] at hv
          obtain ⟨rfl, -, rfl⟩ := hv
          have HyT := Lib.hid hyT
          generalize y.length = yl at *
          have HC := Lib.hid (fun (w2 : World) (hb : Below wq1.heap.size wq1 w2) => impl_AreAlike_c (Tab.frame _ _ _ _ HxT.out hb) (Tab.frame _ _ _ _ HyT.out hb))
          generalize hal : alikeM x y = al at HC HR1
          clear hal hyT HR hy HyT
          have gk2 := (HB.out.cell (p := ⟨b2, o2 + j, none⟩) hb2).trans g2'
          clear g2' hb2
          go_wp2_with fail
          (with_reducible refine (HC.out _ HB.out).mono ?_)
          rintro e w4 ⟨rfl, hb⟩
          have HB4 := Lib.hid (HB.out.trans (hb.mono HB.out.size))
          clear hb HB HC gk2
          cases al with
          | true =>
            have HF := Lib.hid (show R = true from by rw [HR1.out]; rfl)
            clear HR1
            go_wp2
            go_ret
            exact ⟨by rw [HF.out]; rfl, HBc.out.trans (HB4.out.mono HBc.out.size)⟩
          | false =>
            have HR2 := Lib.hid (show R = ((LB.drop (j + 1)).any (fun y => alikeM x y) || linkL (LA.drop (k + 1)) LB) from by rw [HR1.out]; rfl)
            clear HR1
            go_wp2
            go_roundg g2
            case measure => omega
            case rel => exact ⟨j + 1, by go_num, by omega, HR2, HB4⟩
        · have hji : ¬ ((j : Int) < (nB : Int)) := by omega
          have HR2 := Lib.hid (show R = linkL (LA.drop (k + 1)) LB from by rw [HR.out, drop_len (by have := HnB.out; omega)]; rfl)
          clear HR
          go_wp2
          go_roundg g
          case measure => omega
          case rel => exact ⟨k + 1, by go_num, by omega, HR2, HB⟩
    · have hki : ¬ ((k : Int) < (nA : Int)) := by omega
      have HF := Lib.hid (show R = false from by rw [HR.out, drop_len (by have := HnA.out; omega)]; rfl)
      clear HR
      go_wp2
      go_ret
      exact ⟨by rw [HF.out]; rfl, HBc.out.trans (HB.out.mono HBc.out.size)⟩
set_option maxHeartbeats 4000000 in
set_option maxRecDepth 100000 in
theorem spec_AreLinked_c {w : World} {va vb : Value} {a b : Tbl} (h1 : Tab w va a) (h2 : Tab w vb b) :
    Calls Tryz.prog 23 #[va, vb] w fun e w' => e = .returned (.bool (linkM a b)) ∧ Below w.heap.size w w' := by
  have HIa := Lib.hid (spec_IsMatrix_c h1)
  have HIb := Lib.hid (spec_IsMatrix_c h2)
  have HTa := Lib.hid h1
  have HTb := Lib.hid h2
  obtain ⟨aa, ca, rfl, -⟩ := h1.shape
  obtain ⟨ab, cb, rfl, -⟩ := h2.shape
  have hla := h1.len
  have hlb := h2.len
  have HM := Lib.hid (show linkM a b = (isMat a && (isMat b && (decide (a.length ≤ 2) && (decide (b.length ≤ 2) && linkL (a :: stepsV a) (b :: stepsV b))))) from rfl)
  generalize linkM a b = R at HM ⊢
  clear h1 h2
  cases ha : isMat a with
  | false =>
    rw [ha] at HIa HM
    have HF := Lib.hid (show R = false from by rw [HM.out]; rfl)
    clear HM HTa HTb
    go_enter Tryz.func23, Tryz.ntmps23
    go_wp2_with fail
    (with_reducible refine HIa.out.mono ?_)
    rintro e w0 ⟨rfl, rfl⟩
    go_wp2
    go_ret
    exact ⟨by rw [HF.out]; rfl, Below.refl _ _⟩
  | true =>
  rw [ha] at HIa HM
  have Hma := Lib.hid ha
  clear ha
  cases hb : isMat b with
  | false =>
    rw [hb] at HIb HM
    have HF := Lib.hid (show R = false from by rw [HM.out]; rfl)
    clear HM HTa HTb
    go_enter Tryz.func23, Tryz.ntmps23
    go_wp2_with fail
    (with_reducible refine HIa.out.mono ?_)
    rintro e w0 ⟨rfl, rfl⟩
    go_wp2_with fail
    (with_reducible refine HIb.out.mono ?_)
    rintro e w0 ⟨rfl, rfl⟩
    go_wp2
    go_ret
    exact ⟨by rw [HF.out]; rfl, Below.refl _ _⟩
  | true =>
  rw [hb] at HIb HM
  have Hmb := Lib.hid hb
  clear hb
  by_cases h2a : 2 < a.length
  · have h2i : (2 : Int) < (a.length : Int) := by omega
    have HF := Lib.hid (show R = false from by rw [HM.out]; rw [show decide (a.length ≤ 2) = false from decide_eq_false (by omega)]; rfl)
    clear HM HTa HTb
    go_enter Tryz.func23, Tryz.ntmps23
    go_wp2_with fail
    (with_reducible refine HIa.out.mono ?_)
    rintro e w0 ⟨rfl, rfl⟩
    go_wp2_with fail
    (with_reducible refine HIb.out.mono ?_)
    rintro e w0 ⟨rfl, rfl⟩
    go_wp2
    go_ret
    exact ⟨by rw [HF.out]; rfl, Below.refl _ _⟩
  have h2i : ¬ ((2 : Int) < (a.length : Int)) := by omega
  by_cases h2b : 2 < b.length
  · have h3i : (2 : Int) < (b.length : Int) := by omega
    have HF := Lib.hid (show R = false from by rw [HM.out]; rw [show decide (b.length ≤ 2) = false from decide_eq_false (by omega)]; simp)
    clear HM HTa HTb
    go_enter Tryz.func23, Tryz.ntmps23
    go_wp2_with fail
    (with_reducible refine HIa.out.mono ?_)
    rintro e w0 ⟨rfl, rfl⟩
    go_wp2_with fail
    (with_reducible refine HIb.out.mono ?_)
    rintro e w0 ⟨rfl, rfl⟩
    go_wp2
    go_ret
    exact ⟨by rw [HF.out]; rfl, Below.refl _ _⟩
  have h3i : ¬ ((2 : Int) < (b.length : Int)) := by omega
  have HR := Lib.hid (show R = linkL (a :: stepsV a) (b :: stepsV b) from by rw [HM.out, show decide (a.length ≤ 2) = true from decide_eq_true (by omega), show decide (b.length ≤ 2) = true from decide_eq_true (by omega)]; rfl)
  have HLa := Lib.hid (stepsV_len a)
  have HLb := Lib.hid (stepsV_len b)
  have HSa := Lib.hid (fun (w' : World) (hb : Below w.heap.size w w') => spec_StepsFrom_c (Tab.frame _ _ _ _ HTa.out hb))
  have HSb := Lib.hid (fun (w' : World) (hb : Below w.heap.size w w') => spec_StepsFrom_c (Tab.frame _ _ _ _ HTb.out hb))
  generalize stepsV a = SA at HSa HR HLa
  generalize stepsV b = SB at HSb HR HLb
  obtain ⟨LA, hLA⟩ : ∃ L, L = a :: SA := ⟨_, rfl⟩
  rw [← hLA] at HR
  have HlA := Lib.hid (show LA.length ≤ 2113 from by rw [hLA]; simpa using HLa.out)
  have HEA := Lib.hid hLA
  clear hLA
  obtain ⟨LB, hLB⟩ : ∃ L, L = b :: SB := ⟨_, rfl⟩
  rw [← hLB] at HR
  have HlB := Lib.hid (show LB.length ≤ 2113 from by rw [hLB]; simpa using HLb.out)
  have HEB := Lib.hid hLB
  clear hLB
  clear HM Hma Hmb
  go_enter Tryz.func23, Tryz.ntmps23
  go_wp2_with fail
  (with_reducible refine HIa.out.mono ?_)
  rintro e w0 ⟨rfl, rfl⟩
  go_wp2_with fail
  (with_reducible refine HIb.out.mono ?_)
  rintro e w0 ⟨rfl, rfl⟩
  have HBc := Lib.hid (Below.refl w.heap.size w)
  go_wp2_with fail
  obtain ⟨wl0, el⟩ : ∃ x, x = w.alloc (.cells #[.slice aa a.length ca] 24) := ⟨_, rfl⟩
  rw [← el]
  have HBl := Lib.hid (show Below w.heap.size w wl0 from by rw [el]; exact (Below.refl _ _).alloc (Nat.le_refl _) _)
  have HNl := Lib.hid (show New (OwnOf 24 (OValR slV)) w.heap.size wl0 (.slice (some ⟨w.heap.size, 0, none⟩) 1 1) [(aa, a.length, ca)] from by rw [el]; exact New.one slV_kept (R := OValR slV) (x := (aa, a.length, ca)) ⟨[], ⟨rfl, rfl⟩, by simp [Fresh]⟩ (Nat.le_refl _))
  have Hzl := Lib.hid (show wl0.heap.size = w.heap.size + 1 from by rw [el]; simp)
  clear el
  (with_reducible refine (HSa.out _ (HBc.out.trans (HBl.out.mono HBc.out.size))).mono ?_)
  rintro e ws0 ⟨vs0, rfl, hn, hb⟩
  have HBm := Lib.hid (HBl.out.trans (hb.mono HBl.out.size))
  have HNm := Lib.hid (New.keep (OwnOf.kept slV_kept) HNl.out hb (Nat.le_refl _))
  have Hzm := Lib.hid HBm.out.size
  obtain ⟨ts0, hts, htl, htr⟩ := own_tabs_vals hn
  obtain ⟨sa0, sc0, rfl, -⟩ := hts.shape
  have HTm := Lib.hid hts
  have Htl := Lib.hid htl
  have Htr := Lib.hid htr
  have Hlt := Lib.hid (show ts0.length ≤ 2112 from by have := HLa.out; omega)
  clear hn hb hts htl htr HSa HBl HNl
  go_wp2_with (at_builtin; go_loud (refine wpl_append_vals (f := slV) (fun _ => rfl) rfl (.tmp 28) (.tmp 30) 33 rfl 24 (.slice none 0 0) 24 Tryz.underlying33 infoT rfl (lo := w.heap.size) HNm.out Hzm.out HTm.out rfl rfl (by have := Hlt.out; simp only [List.length_singleton]; omega) (by have := Hlt.out; simp only [List.length_singleton]; omega) ?_); intro v0 wq0 hn hg _ hb; have HBq := Lib.hid (HBm.out.trans hb); go_loud (have htab : Tabs wq0 v0 LA := (by rw [HEA.out]; exact link_tabs hn (Tab.frame _ _ _ _ HTa.out (HBc.out.trans (HBq.out.mono HBc.out.size))) Htl.out (Htr.out _ fun b hb1 hb2 => hg.block b hb2 (fun e => by have e2 : b = w.heap.size := Option.some.inj e; have := Hzl.out; omega)))); obtain ⟨ya0, yc0, rfl, -⟩ := htab.shape; have HTA := Lib.hid htab; clear hn hg hb htab)
  replace HBc := Lib.hid (HBc.out.trans (HBq.out.mono HBc.out.size))
  clear HBm HNm HTm HBq Hzl Hzm Htl Htr Hlt
  go_wp2_with fail
  obtain ⟨wl1, el⟩ : ∃ x, x = wq0.alloc (.cells #[.slice ab b.length cb] 24) := ⟨_, rfl⟩
  rw [← el]
  have HBl := Lib.hid (show Below wq0.heap.size wq0 wl1 from by rw [el]; exact (Below.refl _ _).alloc (Nat.le_refl _) _)
  have HNl := Lib.hid (show New (OwnOf 24 (OValR slV)) wq0.heap.size wl1 (.slice (some ⟨wq0.heap.size, 0, none⟩) 1 1) [(ab, b.length, cb)] from by rw [el]; exact New.one slV_kept (R := OValR slV) (x := (ab, b.length, cb)) ⟨[], ⟨rfl, rfl⟩, by simp [Fresh]⟩ (Nat.le_refl _))
  have Hzl := Lib.hid (show wl1.heap.size = wq0.heap.size + 1 from by rw [el]; simp)
  clear el
  (with_reducible refine (HSb.out _ (HBc.out.trans (HBl.out.mono HBc.out.size))).mono ?_)
  rintro e ws1 ⟨vs1, rfl, hn, hb⟩
  have HBm := Lib.hid (HBl.out.trans (hb.mono HBl.out.size))
  have HNm := Lib.hid (New.keep (OwnOf.kept slV_kept) HNl.out hb (Nat.le_refl _))
  have Hzm := Lib.hid HBm.out.size
  obtain ⟨ts1, hts, htl, htr⟩ := own_tabs_vals hn
  obtain ⟨sa1, sc1, rfl, -⟩ := hts.shape
  have HTm := Lib.hid hts
  have Htl := Lib.hid htl
  have Htr := Lib.hid htr
  have Hlt := Lib.hid (show ts1.length ≤ 2112 from by have := HLb.out; omega)
  clear hn hb hts htl htr HSb HBl HNl
  go_wp2_with (at_builtin; go_loud (refine wpl_append_vals (f := slV) (fun _ => rfl) rfl (.tmp 33) (.tmp 35) 33 rfl 24 (.slice none 0 0) 24 Tryz.underlying33 infoT rfl (lo := wq0.heap.size) HNm.out Hzm.out HTm.out rfl rfl (by have := Hlt.out; simp only [List.length_singleton]; omega) (by have := Hlt.out; simp only [List.length_singleton]; omega) ?_); intro v1 wq1 hn hg _ hb; have HBq := Lib.hid (HBm.out.trans hb); go_loud (have htab : Tabs wq1 v1 LB := (by rw [HEB.out]; exact link_tabs hn (Tab.frame _ _ _ _ HTb.out (HBc.out.trans (HBq.out.mono HBc.out.size))) Htl.out (Htr.out _ fun b hb1 hb2 => hg.block b hb2 (fun e => by have e2 : b = wq0.heap.size := Option.some.inj e; have := Hzl.out; omega)))); obtain ⟨ya1, yc1, rfl, -⟩ := htab.shape; have HTB := Lib.hid htab; clear hn hg hb htab)
  replace HBc := Lib.hid (HBc.out.trans (HBq.out.mono HBc.out.size))
  replace HTA := Lib.hid (Tabs.frame _ _ _ _ HTA.out HBq.out)
  clear HBm HNm HTm HBq Hzl Hzm Htl Htr Hlt
  obtain ⟨nA, hnA⟩ : ∃ n, n = LA.length := ⟨_, rfl⟩
  have HnA := Lib.hid hnA
  have hlA := HlA.out
  have HTA' := Lib.hid (show Tabs wq1 (.slice ya0 nA yc0) LA from by rw [hnA]; exact HTA.out)
  rw [← hnA] at hlA ⊢
  clear hnA HTA
  obtain ⟨nB, hnB⟩ : ∃ n, n = LB.length := ⟨_, rfl⟩
  have HnB := Lib.hid hnB
  have hlB := HlB.out
  have HTB' := Lib.hid (show Tabs wq1 (.slice ya1 nB yc1) LB from by rw [hnB]; exact HTB.out)
  rw [← hnB] at hlB ⊢
  clear hnB HTB
  have HR0 := Lib.hid (show R = linkL (LA.drop 0) LB from HR.out)
  clear HR HLa HLb HEA HEB HlA HlB HIa HIb hla hlb h2i h3i h2a h2b
  skip
  go_loopg [7] nA (fun g i wr => ∃ (k : Nat), i = .int .i64 k ∧ k + g = nA ∧ Hid (R = linkL (LA.drop k) LB) ∧ Hid (Below wq1.heap.size wq1 wr))
  case atStart => exact ⟨0, rfl, by omega, HR0, Lib.hid (Below.refl _ _)⟩
  case round =>
    clear HR0
    obtain ⟨k, rfl, hk, HR, HB⟩ := hrel
    obtain ⟨wk, rfl⟩ : ∃ x, x = wr := ⟨_, rfl⟩
    by_cases hkn : k < nA
    · have hki : (k : Int) < (nA : Int) := by omega
      obtain ⟨g, rfl⟩ : ∃ x, gk = x + 1 := ⟨gk - 1, by omega⟩
      obtain ⟨x, hx, -⟩ := at_lt (xs := LA) (k := k) (by have := HnA.out; omega)
      have HR1 := Lib.hid (show R = ((LB.drop 0).any (fun y => alikeM x y) || linkL (LA.drop (k + 1)) LB) from by rw [HR.out]; exact link_drop hx)
      obtain ⟨b1, o1, c1, xa, xc, hv, hb1, g1, hxT⟩ := HTA'.out.tabAt hx
      simp only [Value.slice.injEq] at hv
      obtain ⟨rfl, -, rfl⟩ := hv
      have HxT := Lib.hid hxT
      generalize x.length = xl at *
      clear hxT HR hx
      go_wp2
      go_loopg [8] nB (fun g2 i wr => ∃ (j : Nat), i = .int .i64 j ∧ j + g2 = nB ∧ Hid (R = ((LB.drop j).any (fun y => alikeM x y) || linkL (LA.drop (k + 1)) LB)) ∧ Hid (Below wq1.heap.size wq1 wr))
      case atStart => exact ⟨0, rfl, by omega, HR1, HB⟩
      case round =>
        clear HR1 HB
        obtain ⟨j, rfl, hj, HR, HB⟩ := hrel
        obtain ⟨wj, rfl⟩ : ∃ x, x = wr := ⟨_, rfl⟩
        by_cases hjn : j < nB
        · have hji : (j : Int) < (nB : Int) := by omega
          obtain ⟨g2, rfl⟩ : ∃ x, gk = x + 1 := ⟨gk - 1, by omega⟩
          obtain ⟨y, hy, -⟩ := at_lt (xs := LB) (k := j) (by have := HnB.out; omega)
          have HR1 := Lib.hid (show R = ((alikeM x y || (LB.drop (j + 1)).any (fun y => alikeM x y)) || linkL (LA.drop (k + 1)) LB) from by rw [HR.out, any_drop hy])
          obtain ⟨b2, o2, c2, pa, pc, hv, hb2, g2', hyT⟩ := HTB'.out.tabAt hy
          simp only [Value.slice.injEq] at hv
          obtain ⟨rfl, -, rfl⟩ := hv
          have HyT := Lib.hid hyT
          generalize y.length = yl at *
          have HC := Lib.hid (fun (w2 : World) (hb : Below wq1.heap.size wq1 w2) => spec_AreAlike_c (Tab.frame _ _ _ _ HxT.out hb) (Tab.frame _ _ _ _ HyT.out hb))
          generalize hal : alikeM x y = al at HC HR1
          clear hal hyT HR hy HyT
          have hS0 : wj.cell? ⟨b1, o1 + k, none⟩ = some (.slice xa xl xc) ∧ wj.cell? ⟨b2, o2 + j, none⟩ = some (.slice pa yl pc) := ⟨(HB.out.cell (p := ⟨b1, o1 + k, none⟩) hb1).trans g1, (HB.out.cell (p := ⟨b2, o2 + j, none⟩) hb2).trans g2'⟩
          have hSd : wj.drew.cell? ⟨b1, o1 + k, none⟩ = some (.slice xa xl xc) ∧ wj.drew.cell? ⟨b2, o2 + j, none⟩ = some (.slice pa yl pc) := hS0
          have HS := Lib.hid (fun (wz : World) (hb3 : Below wq1.heap.size wq1 wz) => (show wz.cell? ⟨b1, o1 + k, none⟩ = some (.slice xa xl xc) ∧ wz.cell? ⟨b2, o2 + j, none⟩ = some (.slice pa yl pc) from ⟨(hb3.cell (p := ⟨b1, o1 + k, none⟩) hb1).trans g1, (hb3.cell (p := ⟨b2, o2 + j, none⟩) hb2).trans g2'⟩))
          have HC1 := Lib.hid (HC.out _ HB.out.drew)
          have HB1 := Lib.hid HB.out.drew
          clear HC
          go_wp2
          go_region_held3 (fun w' => w'.cell? ⟨b1, o1 + k, none⟩ = some (.slice xa xl xc) ∧ w'.cell? ⟨b2, o2 + j, none⟩ = some (.slice pa yl pc))
            (first | with_reducible exact hS1 | with_reducible exact hSd | with_reducible exact hS0 | go_keep)
            ((first
              | (go_at_call 62; (with_reducible refine HC1.out.mono ?_); rintro e w4 ⟨rfl, hb⟩; have HB4 := Lib.hid (HB1.out.trans (hb.mono HB1.out.size)); have hS1 := HS.out _ HB4.out; clear hb)
              | fail))
          clear hS0 hSd hS1 HS HC1 HB1 HB
          cases al with
          | true =>
            have HF := Lib.hid (show R = true from by rw [HR1.out]; rfl)
            clear HR1
            go_wp2
            go_ret
            exact ⟨by rw [HF.out]; rfl, HBc.out.trans (HB4.out.mono HBc.out.size)⟩
          | false =>
            have HR2 := Lib.hid (show R = ((LB.drop (j + 1)).any (fun y => alikeM x y) || linkL (LA.drop (k + 1)) LB) from by rw [HR1.out]; rfl)
            clear HR1
            go_wp2
            go_roundg g2
            case measure => omega
            case rel => exact ⟨j + 1, by go_num, by omega, HR2, HB4⟩
        · have hji : ¬ ((j : Int) < (nB : Int)) := by omega
          have HR2 := Lib.hid (show R = linkL (LA.drop (k + 1)) LB from by rw [HR.out, drop_len (by have := HnB.out; omega)]; rfl)
          clear HR
          go_wp2
          go_roundg g
          case measure => omega
          case rel => exact ⟨k + 1, by go_num, by omega, HR2, HB⟩
    · have hki : ¬ ((k : Int) < (nA : Int)) := by omega
      have HF := Lib.hid (show R = false from by rw [HR.out, drop_len (by have := HnA.out; omega)]; rfl)
      clear HR
      go_wp2
      go_ret
      exact ⟨by rw [HF.out]; rfl, HBc.out.trans (HB.out.mono HBc.out.size)⟩
end Go.Proofs.YtlkgkfgpnnahdaaGreat
end

section
/-
  TurnedPoly, ZetaNumbers and SameAwayFromZero, both sides.
-/
namespace Go.Proofs.YtlkgkfgpnnahdaaGreat
open Go.RowKit Go.Deep Go.Sd
set_option linter.unusedSimpArgs false
theorem coefs_len (m : List (List Int)) (n : Nat) : (coefs m n).length = n + 1 := by simp [coefs]
theorem coefs_at (m : List (List Int)) {n j : Nat} (h : j ≤ n) : (coefs m n)[j]? = some (coef m n j) := by simp [coefs, Nat.lt_succ_of_le h]
theorem charL_at (m : List (List Int)) {n j : Nat} (h : j ≤ n) : (charL m n)[n - j]? = some (coef m n j) := by
  unfold charL
  rw [rowOf_at (by omega), show n - (n - j) = j by omega]
theorem take_at {xs : List Int} {j : Nat} {x : Int} (h : xs[j]? = some x) : xs.take (j + 1) = xs.take j ++ [x] := by
  rw [List.take_add_one, h]; rfl
set_option maxHeartbeats 1000000 in
set_option maxRecDepth 100000 in
theorem spec_TurnedPoly_c {w : World} {va : Value} {m : List (List Int)} (h : Tab w va m) :
    Calls Tryz.prog 65 #[va] w (Makes (OInts 3) w (turnedP m)) := by
  have HI := Lib.hid (spec_IsSmall_c h)
  have HT := Lib.hid h
  obtain ⟨va0, vc0, rfl, -⟩ := h.shape
  clear h
  cases hsm : smallM m with
  | false =>
    have HF := Lib.hid (show turnedP m = [] from by unfold turnedP; rw [if_neg (by rw [hsm]; simp)])
    rw [hsm] at HI
    clear hsm HT
    go_enter Tryz.func65, Tryz.ntmps65
    go_wp2_with fail
    (with_reducible refine HI.out.mono ?_)
    rintro e w9 ⟨rfl, hw9⟩
    rw [hw9]
    clear hw9 w9
    go_wp2
    go_ret
    exact ⟨_, rfl, by rw [HF.out]; exact New.empty _ (Nat.le_refl _), (Below.refl _ _).alloc (Nat.le_refl _) _⟩
  | true =>
  obtain ⟨hm1, hm4, hbd⟩ := smallM_sq hsm
  have hsq := (isMat_sq hm1).1
  have HF := Lib.hid (show turnedP m = cutL (coefs m m.length) from by unfold turnedP; rw [if_pos hsm])
  rw [hsm] at HI
  have HC := Lib.hid (fun w1 (k : Nat) (hb : Below w.heap.size w w1) => l7Minors_c (k := k) (Tab.frame _ _ _ _ HT.out hb) hsq hm4 hbd)
  have HMb := Lib.hid (fun (k : Nat) => (show -2519424 ≤ minS m m.length k (2 ^ m.length) ∧ minS m m.length k (2 ^ m.length) ≤ 2519424 from by
    have h1 := minS_bd16 (k := k) hsq hm4 hbd (Nat.le_refl (2 ^ m.length))
    have h2 := detB_mono k
    omega))
  have HCo := Lib.hid (fun (k : Nat) => (show coef m m.length k = sgn k * minS m m.length k (2 ^ m.length) from rfl))
  generalize turnedP m = R at HF ⊢
  obtain ⟨n, hn⟩ : ∃ n, n = m.length := ⟨_, rfl⟩
  rw [← hn] at HI HF HC HMb HCo hm4 ⊢
  have HAt := Lib.hid (fun j (h : j ≤ n) => coefs_at m h)
  have Hcl := Lib.hid (coefs_len m n)
  generalize coefs m n = cs at HF HAt Hcl
  clear hsm hm1 hbd hsq hn HT
  go_enter Tryz.func65, Tryz.ntmps65
  go_wp2_with fail
  (with_reducible refine HI.out.mono ?_)
  rintro e w9 ⟨rfl, hw9⟩
  rw [hw9]
  clear hw9 w9
  have HN0 := Lib.hid (New.empty (e := 3) (R := OIntR) w (Nat.le_refl w.heap.size))
  have HB0 := Lib.hid ((Below.refl w.heap.size w).alloc (Nat.le_refl _) (.cells #[] 3))
  clear HI
  go_wp2
  go_loopg [3, 4, 5] (n + 1) (fun g v sg i wr => ∃ (j : Nat) (s : Int), sg = .int .i64 s ∧ i = .int .i64 j ∧ j + g = n + 1 ∧ Hid (s = sgn j) ∧ Hid (New (OInts 3) w.heap.size wr v (cs.take j)) ∧ Hid (Below w.heap.size w wr))
  case atStart => exact ⟨0, 1, rfl, rfl, by omega, Lib.hid rfl, HN0, HB0⟩
  case round =>
    clear HN0 HB0
    obtain ⟨j, s, rfl, rfl, hj, Hs, Hn, Hb⟩ := hrel
    obtain ⟨wk, rfl⟩ : ∃ x, x = wr := ⟨_, rfl⟩
    have hle := Hb.out.size
    obtain ⟨oa, oc, rfl, -⟩ := (New.ints Hn.out).shape
    by_cases hjn : j ≤ n
    · have hji : (j : Int) ≤ (n : Int) := by omega
      obtain ⟨g, rfl⟩ : ∃ x, gk = x + 1 := ⟨gk - 1, by omega⟩
      have hsb : s = 1 ∨ s = -1 := by rw [Hs.out]; exact sgn_bd j
      have hneg : IntKind.i64.wrap (-s) = -s := IntWalk.i64_in _ (by omega)
      have HSg := Lib.hid (show -s = sgn (j + 1) from by rw [sgn_next, Hs.out])
      have HCk := Lib.hid (HC.out wk j Hb.out)
      have hmb := HMb.out j
      have hcj := HCo.out j
      rw [← Hs.out] at hcj
      have hat := HAt.out j hjn
      rw [hcj] at hat
      have HTk := Lib.hid (take_at hat)
      have hrl := Lib.hid (show (cs.take j).length ≤ 9 from by rw [List.length_take]; omega)
      obtain ⟨ln, hln⟩ : ∃ x, x = (cs.take j).length := ⟨_, rfl⟩
      have Hln := Lib.hid hln
      rw [← hln] at Hn ⊢
      generalize minS m n j (2 ^ n) = D at HCk hmb HTk
      have hp : -2519424 ≤ s * D ∧ s * D ≤ 2519424 := by
        have := prod_bd (X := 1) (Y := 2519424) (x := s) (y := D) (by omega) hmb
        omega
      have hw1 : IntKind.i64.wrap (s * D) = s * D := IntWalk.i64_in _ (by omega)
      clear hln hcj hat hp hmb hsb
      go_wp2_with fail
      (with_reducible refine HCk.out.mono ?_)
      rintro e w2 ⟨rfl, hb2⟩
      have Hb2 := Lib.hid (Hb.out.trans (hb2.mono hle))
      have hz2 := Hb2.out.size
      have Hn2 := Lib.hid (Hn.out.keep (OInts.kept _) hb2 (Nat.le_refl _))
      clear hb2 HCk Hn
      go_wp2_with (at_builtin; refine wpl_push (w0 := w2) (lo := w.heap.size) (y := (s * D)) OIntR.kept rfl (.tmp 17) (.tmp 23) 46 rfl 3 (.int .i64 0) 8 Tryz.underlying46 infoI rfl Hn2.out hz2 ((Below.refl _ _).alloc (Nat.le_refl _) _) ⟨[], ⟨rfl, rfl⟩, by simp [Fresh]⟩ (bb := w2.heap.size) (c := 1) (by simp) rfl rfl (by have := hrl.out; omega) (by have := hrl.out; omega) ?_; intro v3 w3 hn3 _ _ hb3; have Hn3 := Lib.hid hn3; have Hb3 := Lib.hid hb3; clear hn3 hb3)
      go_roundg g
      case measure => omega
      case rel => exact ⟨j + 1, -s, rfl, by go_num, by omega, HSg, Lib.hid (by rw [HTk.out]; exact Hn3.out), Lib.hid (Hb2.out.trans Hb3.out)⟩
    · have hji : ¬ ((j : Int) ≤ (n : Int)) := by omega
      have hj1 : j = n + 1 := by omega
      have hnn := Hn.out
      rw [hj1, List.take_of_length_le (by rw [Hcl.out]; exact Nat.le_refl _)] at hnn
      have hcl := Hcl.out
      have HTr := Lib.hid (l7Cut_c (New.ints hnn) (by omega) (by omega))
      rw [hj1, List.take_of_length_le (by rw [Hcl.out]; exact Nat.le_refl _)]
      clear hj1 hnn hcl Hn hjn hji
      have hji : ¬ ((n : Int) + 1 ≤ (n : Int)) := by omega
      go_wp2_with fail
      (with_reducible refine HTr.out.mono ?_)
      rintro e w4 ⟨r, rfl, hnr, hb4⟩
      have HNr := Lib.hid (hnr.mono hle)
      have Hb4 := Lib.hid (Hb.out.trans (hb4.mono hle))
      clear hnr hb4 HTr
      go_wp2
      go_ret
      exact ⟨_, rfl, by rw [HF.out]; exact HNr.out, Hb4.out⟩
theorem zetaV_cnt (m : List (List Int)) (n : Int) : ((zetaV m n).length : Int) ≤ 1099511627776 := by have := zetaV_len m n; omega
def sameZ (a b : List (List Int)) : Bool := smallM a && (smallM b && decide (turnedP a = turnedP b))
set_option maxHeartbeats 1000000 in
set_option maxRecDepth 100000 in
theorem spec_SameAway_c {w : World} {va vb : Value} {a b : List (List Int)} (h1 : Tab w va a) (h2 : Tab w vb b) :
    Calls Tryz.prog 26 #[va, vb] w fun e w' => e = .returned (.bool (sameZ a b)) ∧ Below w.heap.size w w' := by
  have HIa := Lib.hid (spec_IsSmall_c h1)
  have HIb := Lib.hid (spec_IsSmall_c h2)
  have HPa := Lib.hid (spec_TurnedPoly_c h1)
  have HPb := Lib.hid (fun w1 (hb : Below w.heap.size w w1) => spec_TurnedPoly_c (Tab.frame _ _ _ _ h2 hb))
  obtain ⟨va0, vc0, rfl, -⟩ := h1.shape
  obtain ⟨vb0, vd0, rfl, -⟩ := h2.shape
  have HM := Lib.hid (show sameZ a b = (smallM a && (smallM b && decide (turnedP a = turnedP b))) from rfl)
  generalize sameZ a b = R at HM ⊢
  clear h1 h2
  cases ha : smallM a with
  | false =>
    rw [ha] at HIa HM
    have HF := Lib.hid (show R = false from by rw [HM.out]; rfl)
    clear HM HPa HPb ha
    go_enter Tryz.func26, Tryz.ntmps26
    go_wp2_with fail
    (with_reducible refine HIa.out.mono ?_)
    rintro e w9 ⟨rfl, hw9⟩
    rw [hw9]
    clear hw9 w9
    go_wp2
    go_ret
    exact ⟨by rw [HF.out]; rfl, Below.refl _ _⟩
  | true =>
  rw [ha] at HIa HM
  cases hb : smallM b with
  | false =>
    rw [hb] at HIb HM
    have HF := Lib.hid (show R = false from by rw [HM.out]; rfl)
    clear HM HPa HPb ha hb
    go_enter Tryz.func26, Tryz.ntmps26
    go_wp2_with fail
    (with_reducible refine HIa.out.mono ?_)
    rintro e w9 ⟨rfl, hw9⟩
    rw [hw9]
    clear hw9 w9
    go_wp2_with fail
    (with_reducible refine HIb.out.mono ?_)
    rintro e w9 ⟨rfl, hw9⟩
    rw [hw9]
    clear hw9 w9
    go_wp2
    go_ret
    exact ⟨by rw [HF.out]; rfl, Below.refl _ _⟩
  | true =>
  rw [hb] at HIb HM
  have HF := Lib.hid (show R = decide (turnedP a = turnedP b) from by rw [HM.out]; rfl)
  clear HM ha hb
  generalize turnedP a = pa at *
  generalize turnedP b = pb at *
  go_enter Tryz.func26, Tryz.ntmps26
  go_wp2_with fail
  (with_reducible refine HIa.out.mono ?_)
  rintro e w9 ⟨rfl, hw9⟩
  rw [hw9]
  clear hw9 w9
  go_wp2_with fail
  (with_reducible refine HIb.out.mono ?_)
  rintro e w9 ⟨rfl, hw9⟩
  rw [hw9]
  clear hw9 w9
  go_wp2_with fail
  (with_reducible refine HPa.out.mono ?_)
  rintro e w1 ⟨v1, rfl, hn1, hb1⟩
  have hz1 := hb1.size
  obtain ⟨x1, y1, rfl, -⟩ := (New.ints hn1).shape
  have HB2 := Lib.hid hb1
  have HN1 := Lib.hid hn1
  clear hn1 hb1 HPa HIa HIb
  go_wp2_with fail
  (with_reducible refine (HPb.out w1 HB2.out).mono ?_)
  rintro e w3 ⟨v3, rfl, hn3, hb3⟩
  obtain ⟨x3, y3, rfl, -⟩ := (New.ints hn3).shape
  have HE := Lib.hid (l4SameRow_c (Ints.frame _ _ _ _ HN1.out.ints hb3) hn3.ints)
  have HB4 := Lib.hid (HB2.out.trans (hb3.mono hz1))
  clear hn3 hb3 HPb HN1
  go_wp2_with fail
  (with_reducible refine HE.out.mono ?_)
  rintro e w5 ⟨rfl, hd⟩
  have HB5 := Lib.hid (HB4.out.trans (hd.below _))
  clear hd HE
  generalize decide (pa = pb) = D at *
  go_wp2
  go_ret
  exact ⟨by rw [HF.out]; rfl, HB5.out⟩
end Go.Proofs.YtlkgkfgpnnahdaaGreat
end

section
/-
  Equal traces make SameAwayFromZero true.
-/
namespace Go.Proofs.YtlkgkfgpnnahdaaGreat
open Go.RowKit Go.Deep Go.Sd
theorem sameZ_of' {a b : List (List Int)} (ha : smallM a = true) (hb : smallM b = true) (h : SameTr a b) : sameZ a b = true := by
  unfold sameZ
  rw [ha, hb, decide_eq_true (turned_same ha hb h)]
  rfl
end Go.Proofs.YtlkgkfgpnnahdaaGreat
end

section
/-
  The laws of steps on plain matrices: what StepsFrom lists, what AreLinked tells.
-/
namespace Go.Proofs.YtlkgkfgpnnahdaaGreat
open Go.RowKit Go.Deep Go.Sd
theorem all_add {Q : Tbl → Prop} {o : List Tbl} (h : ∀ x, x ∈ o → Q x) {m : Tbl} {ok : Bool} (hm : ok = true → m.length ≤ 4 → smallT m = true → Q m) : ∀ x, x ∈ addT o m ok → Q x := by
  unfold addT
  split
  · rename_i h1
    intro x hx
    rcases List.mem_append.1 hx with hx | hx
    · exact h x hx
    · simp at hx
      subst hx
      exact hm h1.1 h1.2.1 h1.2.2.1
  · exact h
theorem all_overP {Q : Tbl → Prop} {f : List Int → Tbl × Bool} (hf : ∀ p, (f p).2 = true → (f p).1.length ≤ 4 → smallT (f p).1 = true → Q (f p).1) : ∀ (ps : List (List Int)) {o : List Tbl}, (∀ x, x ∈ o → Q x) → ∀ x, x ∈ overP f ps o → Q x
  | [], _, h => h
  | p :: ps, _, h => all_overP hf ps (all_add h (hf p))
theorem all_overN {Q : Tbl → Prop} {f : Nat → List Tbl → List Tbl} (hf : ∀ i o, (∀ x, x ∈ o → Q x) → ∀ x, x ∈ f i o → Q x) : ∀ (n k : Nat) {o : List Tbl}, (∀ x, x ∈ o → Q x) → ∀ x, x ∈ overN f n k o → Q x
  | 0, _, _, h => h
  | n + 1, k, _, h => all_overN hf n (k + 1) (hf k _ h)
theorem small_of {x : Tbl} (h : isMat x = true) (h4 : x.length ≤ 4) (hs : smallT x = true) : smallM x = true := by
  unfold smallM
  rw [Bool.and_eq_true, Bool.and_eq_true]
  refine ⟨h, decide_eq_true h4, List.all_eq_true.2 fun r hr => List.all_eq_true.2 fun y hy => ?_⟩
  unfold smallT at hs
  have h1 := List.all_eq_true.1 (List.all_eq_true.1 hs r hr) y hy
  unfold nineOk
  simp at h1 ⊢
  omega
theorem turnT_mat {x : Tbl} (h : isMat x = true) : isMat (turnT x x.length) = true := by
  have hs := isMat_sq h
  refine isMat_mk9 (turnT_sq x x.length) hs.2.1 hs.2.2 fun A B hA hB => ?_
  rw [turnT_ent x x.length A B hA hB]
  exact isMat_ent hs.1 h hB hA
theorem turnV_mat {m : Tbl} (h : isMat m = true) : isMat (turnV m) = true := by
  unfold turnV
  rw [if_pos h]
  exact turnT_mat h
theorem splitOk_mat {m : Tbl} {i : Int} {P : List Int} (h : splitOk m i P = true) : isMat (splitV m i P) = true ∧ isMat m = true := by
  obtain ⟨I, n, hi, hn, hI, h8, hP, e, -, -⟩ := splitOk_of h
  have h0 := h
  unfold splitOk at h0
  simp only [Bool.and_eq_true, decide_eq_true_eq] at h0
  have hm : isMat m = true := h0.1.1
  have hI2 : i.toNat = I := by omega
  rw [hI2, hn] at h0
  have hp := partOk_of hm hn hI h0.2
  refine ⟨?_, hm⟩
  rw [e]
  have hs := isMat_sq hm
  rw [hn] at hs
  have hR : ∀ A B, A < n + 1 → B < n → 0 ≤ splitR m I P n A B ∧ splitR m I P n A B ≤ 1000000 := fun A B hA hB => by
    have h1 := hp B hB
    unfold splitR
    split
    · omega
    · split
      · omega
      · exact isMat_ent hs.1 hm (by omega) hB
  refine isMat_mk9 (splitT_sq m I P n) (by omega) (by omega) fun A B hA hB => ?_
  by_cases hB2 : B < n
  · rw [ent_splitT hA hB2]
    exact hR A B hA hB2
  · have hj2 : B = n := by omega
    subst hj2
    have e1 : ent (splitT m I P B) A B = splitR m I P B A I := by
      have e2 : (splitT m I P B).getD A [] = rowOf' B (splitR m I P B A) ++ [splitR m I P B A I] := by rw [List.getD_eq_getElem?_getD, splitT_at hA]; rfl
      unfold ent
      rw [e2, List.getD_eq_getElem?_getD, List.getElem?_append_right (by rw [rowOf_len]; exact Nat.le_refl _), rowOf_len, Nat.sub_self]
      rfl
    rw [e1]
    exact hR A I hA hI
theorem joinOk_mat {m : Tbl} {i j : Int} (h : joinOk m i j = true) : isMat (joinV m i j) = true := by
  obtain ⟨I, J, -, -, -, e, -, h2⟩ := joinOk_get h
  rw [e]
  exact h2
/-- What StepsFrom lists. -/
theorem stepsV_all {m x : Tbl} (hx : x ∈ stepsV m) : Tr1 m x ∧ smallM x = true := by
  unfold stepsV at hx
  split at hx
  · rename_i hm
    refine all_overN (Q := fun x => Tr1 m x ∧ smallM x = true) (fun i o h => ?_) _ _ (all_overN (fun i o h => ?_) _ _ (all_overN (fun i o h => ?_) _ _ (all_overN (fun i o h => ?_) _ _ (fun x hx => by cases hx)))) x hx
    · refine all_overN (fun j o h => all_add h fun ok h4 h3 => ?_) _ _ h
      unfold joinInOk at ok
      have e : joinInV m i j = turnT (joinV (turnV m) i j) (joinV (turnV m) i j).length := by unfold joinInV; rw [if_pos ok]
      rw [e] at h4 h3 ⊢
      exact ⟨turn_tr hm.1 (joinOk_tr ok), small_of (turnT_mat (joinOk_mat ok)) h4 h3⟩
    · refine all_overN (fun j o h => all_add h fun ok h4 h3 => ?_) _ _ h
      exact ⟨Tr1.of rfl rfl (joinOk_tr ok), small_of (joinOk_mat ok) h4 h3⟩
    · refine all_overP (fun p ok h4 h3 => ?_) _ h
      simp only at ok h4 h3 ⊢
      unfold splitInOk at ok
      have e : splitInV m i p = turnT (splitV (turnV m) i p) (splitV (turnV m) i p).length := by unfold splitInV; rw [if_pos ok]
      rw [e] at h4 h3 ⊢
      exact ⟨turn_tr hm.1 (splitOk_tr ok), small_of (turnT_mat (splitOk_mat ok).1) h4 h3⟩
    · refine all_overP (fun p ok h4 h3 => ?_) _ h
      simp only at ok h4 h3 ⊢
      exact ⟨Tr1.of rfl rfl (splitOk_tr ok), small_of (splitOk_mat ok).1 h4 h3⟩
  · cases hx
theorem steps_law1 {m x : Tbl} (hm : smallM m = true) (hx : x ∈ stepsV m) : sameZ m x = true :=
  sameZ_of' hm (stepsV_all hx).2 (stepsV_all hx).1.same
theorem linkL_iff {A B : List Tbl} : linkL A B = true ↔ ∃ x y, x ∈ A ∧ y ∈ B ∧ alikeM x y = true := by
  unfold linkL
  simp only [List.any_eq_true]
  constructor
  · rintro ⟨x, hx, y, hy, h⟩
    exact ⟨x, y, hx, hy, h⟩
  · rintro ⟨x, y, hx, hy, h⟩
    exact ⟨x, hx, y, hy, h⟩
theorem linkL_symm (A B : List Tbl) : linkL A B = linkL B A := by
  have key : ∀ A B : List Tbl, linkL A B = true → linkL B A = true := fun A B h => by
    obtain ⟨x, y, hx, hy, h⟩ := linkL_iff.1 h
    exact linkL_iff.2 ⟨y, x, hy, hx, by rw [alikeM_symm]; exact h⟩
  cases e : linkL A B with
  | true => exact (key A B e).symm
  | false =>
    cases e2 : linkL B A with
    | false => rfl
    | true => rw [key B A e2] at e; cases e
theorem linkM_symm (a b : Tbl) : linkM a b = linkM b a := by
  unfold linkM
  rw [linkL_symm]
  generalize isMat a = p1
  generalize isMat b = p2
  generalize decide (a.length ≤ 2) = p3
  generalize decide (b.length ≤ 2) = p4
  generalize linkL (b :: stepsV b) (a :: stepsV a) = p5
  ac_rfl
theorem linkM_tr {a b : Tbl} (h : linkM a b = true) : Tr1 a b := by
  unfold linkM at h
  simp only [Bool.and_eq_true] at h
  obtain ⟨x, y, hx, hy, h⟩ := linkL_iff.1 h.2.2.2.2
  have h1 : Tr1 a x := by
    rcases List.mem_cons.1 hx with e | e
    · rw [e]; exact Tr1.refl _
    · exact (stepsV_all e).1
  have h2 : Tr1 b y := by
    rcases List.mem_cons.1 hy with e | e
    · rw [e]; exact Tr1.refl _
    · exact (stepsV_all e).1
  exact h1.trans ((alikeM_tr h).trans h2.symm)
theorem steps_law2 {a b : Tbl} (h : linkM a b = true) (ha : smallM a = true) (hb : smallM b = true) : sameZ a b = true := sameZ_of' ha hb (linkM_tr h).same
theorem findS_holds {P : Tb × Tb → Bool} {r : Tb} : ∀ {l : List Tb} {x : Tb × Tb}, findS P r l = some x → P x = true
  | s :: l, x, h => by
    unfold findS at h
    split at h
    · rename_i hp
      cases h
      exact hp
    · exact findS_holds h
theorem findR_holds {P : Tb × Tb → Bool} {ss : List Tb} : ∀ {l : List Tb} {x : Tb × Tb}, findR P ss l = some x → P x = true
  | r :: l, x, h => by
    unfold findR at h
    split at h
    · rename_i y hy
      cases h
      exact findS_holds hy
    · exact findR_holds h
theorem findV_holds {a b : Tb} {x : Tb × Tb} (h : findV a b = some x) : stepM a b x = true := by
  unfold findV at h
  split at h
  · exact findR_holds h
  · cases h
theorem steps_law3 {a b : Tbl} {x : Tb × Tb} (h : stepM a b x = true) (ha : smallM a = true) (hb : smallM b = true) : sameZ a b = true := sameZ_of' ha hb (stepM_tr h).same
end Go.Proofs.YtlkgkfgpnnahdaaGreat
end

section
/-
  The empty pair of tables.
-/
namespace Go.Proofs.YtlkgkfgpnnahdaaGreat
open Go.RowKit Go.Deep Go.Sd
theorem New.none2 {eI eR : TypeId} {lo : Nat} {w : World} (h : lo ≤ w.heap.size) : New (OStep eI eR) lo w (.agg #[.slice none 0 0, .slice none 0 0]) ([], []) :=
  New.pair (New.nil lo w) (New.nil w.heap.size w) (Below.refl _ _) h
end Go.Proofs.YtlkgkfgpnnahdaaGreat
end

section
/-
  FindStep, the program's.
-/
namespace Go.Proofs.YtlkgkfgpnnahdaaGreat
open Go.RowKit Go.Deep Go.Sd

set_option maxHeartbeats 1000000 in
theorem findclo_c {w : World} {Ba Bb : Nat} {va vb vx : Value} {a b : Tb} {x : Tb × Tb} (hA : w.cell? ⟨Ba, 0, none⟩ = some va) (hB : w.cell? ⟨Bb, 0, none⟩ = some vb) (hla : Ba < w.heap.size) (hlb : Bb < w.heap.size) (h1 : Tab w va a) (h2 : Tab w vb b) (h3 : StepR w vx x) :
    Calls Tryz.prog 36 #[vx, .pointer (some ⟨Ba, 0, none⟩), .pointer (some ⟨Bb, 0, none⟩)] w fun e w' => e = .returned (.bool (stepM a b x)) ∧ Below w.heap.size w w' := by
  have HI := Lib.hid (fun w1 (hb : Below w.heap.size w w1) => impl_IsStep_c (Tab.frame _ _ _ _ h1 hb) (Tab.frame _ _ _ _ h2 hb) (StepR.frame _ _ _ _ h3 hb))
  obtain ⟨xa, xn, xc, ya, yn, yc, rfl⟩ := h3.slices
  obtain ⟨_, _, rfl, _, _, _⟩ := h1.shape
  obtain ⟨_, _, rfl, _, _, _⟩ := h2.shape
  clear h1 h2 h3
  generalize stepM a b x = T at HI ⊢
  obtain ⟨w1, ex, A0, c0, c1, m1⟩ := boxA_ex w 26 (.slice xa xn xc) (.slice ya yn yc)
  have hA1 := (A0.cell (p := ⟨Ba, 0, none⟩) hla).trans hA
  have hB1 := (A0.cell (p := ⟨Bb, 0, none⟩) hlb).trans hB
  go_enter Tryz.func36, Tryz.ntmps36
  go_wp2_with fail
  refine (HI.out _ A0).mono ?_
  rintro e w2 ⟨rfl, hb2⟩
  have HZ := Lib.hid (A0.trans (hb2.mono A0.size))
  clear hb2
  go_wp2
  go_ret
  exact ⟨rfl, HZ.out⟩
set_option maxHeartbeats 4000000 in
set_option maxRecDepth 10000 in
theorem findStep_c {w : World} {Ba Bb : Nat} {va vb : Value} {a b : Tb} (hA : w.cell? ⟨Ba, 0, none⟩ = some va) (hB : w.cell? ⟨Bb, 0, none⟩ = some vb) (hla : Ba < w.heap.size) (hlb : Bb < w.heap.size) (h1 : Tab w va a) (h2 : Tab w vb b) :
    Calls Tryz.prog 35 #[va, vb, .func (.func 36) #[] #[.pointer (some ⟨Ba, 0, none⟩), .pointer (some ⟨Bb, 0, none⟩)]] w (Makes2 (OStep 3 46) w (found (findV a b)) (findV a b).isSome) := by
  have HC := Lib.hid (fun w1 (hb : Below w.heap.size w w1) vx x (h3 : StepR w1 vx x) => findclo_c ((hb.cell (p := ⟨Ba, 0, none⟩) hla).trans hA) ((hb.cell (p := ⟨Bb, 0, none⟩) hlb).trans hB) (Nat.lt_of_lt_of_le hla hb.size) (Nat.lt_of_lt_of_le hlb hb.size) (Tab.frame _ _ _ _ h1 hb) (Tab.frame _ _ _ _ h2 hb) h3)
  have HV := Lib.hid (show findV a b = if (isMat a && (isMat b && (decide (a.length ≤ 2) && decide (b.length ≤ 2)))) = true then findR (stepM a b) (tabsN b.length a.length) (tabsN a.length b.length) else none from rfl)
  have Hl1 := Lib.hid (fun (hm : isMat a = true) => isMat_len hm)
  have Hl2 := Lib.hid (fun (hm : isMat b = true) => isMat_len hm)
  have HM1 := Lib.hid (fun w1 (hb : Below w.heap.size w w1) => impl_IsMatrix_c (Tab.frame _ _ _ _ h1 hb))
  have HM2 := Lib.hid (fun w1 (hb : Below w.heap.size w w1) => impl_IsMatrix_c (Tab.frame _ _ _ _ h2 hb))
  generalize findV a b = V at HV ⊢
  generalize stepM a b = P at HV HC
  generalize hma : isMat a = ma at *
  generalize hmb : isMat b = mb at *
  clear hma hmb hA hB hla hlb
  obtain ⟨_, _, rfl, _, _, _⟩ := h1.shape
  obtain ⟨_, _, rfl, _, _, _⟩ := h2.shape
  clear h1 h2
  generalize hp : a.length = p at *
  generalize hq : b.length = q at *
  clear hp hq
  go_enter Tryz.func35, Tryz.ntmps35
  go_wp2_with fail
  have fz0 : (w.alloc (.cells #[.slice none 0 0, .slice none 0 0] 26)).frozen? ⟨w.heap.size, 0, none⟩ = false := by simp [go_sem]
  have fz1 : (w.alloc (.cells #[.slice none 0 0, .slice none 0 0] 26)).frozen? ⟨w.heap.size, 1, none⟩ = false := by simp [go_sem]
  obtain ⟨w0, ex, A0, c0, c1, m1⟩ := boxA_ex w 26 (.slice none 0 0) (.slice none 0 0)
  rw [ex] at fz0 fz1
  change Calls Tryz.prog _ _ (w.alloc (.cells #[.slice none 0 0, .slice none 0 0] 26)) _
  rw [ex]
  clear ex
  refine (HM1.out _ A0).mono ?_
  rintro e w' ⟨rfl, rfl⟩
  cases ma with
  | false =>
    have HK := Lib.hid (show V = none from by rw [HV.out]; rfl)
    clear HV Hl1 Hl2 HM1 HM2
    go_wp2
    have r0 := World.cell?_setCell_same w0 _ (.slice none 0 0) c0
    have s1 : ((w0.setCell ⟨w.heap.size, 0, none⟩ (.slice none 0 0)).cell? ⟨w.heap.size, 1, none⟩) = some (.slice none 0 0) := (World.cell?_setCell_other _ _ _ _ (by simp)).trans c1
    have r1 := World.cell?_setCell_same _ _ (.slice none 0 0) s1
    refine bodyPost_ret (v := .tuple #[.agg #[.slice none 0 0, .slice none 0 0], .bool false]) (by simp [results, Tryz.results35, go_sem, r0, r1]) rfl ?_
    exact ⟨_, by rw [HK.out]; rfl, by rw [HK.out]; exact New.none2 (by simp; have := (A0).size; omega), ((A0).setCell (p := ⟨w.heap.size, 0, none⟩) (Nat.le_refl _) _).setCell (p := ⟨w.heap.size, 1, none⟩) (Nat.le_refl _) _⟩
  | true =>
  go_wp2_with fail
  refine (HM2.out _ A0).mono ?_
  rintro e w' ⟨rfl, rfl⟩
  cases mb with
  | false =>
    have HK := Lib.hid (show V = none from by rw [HV.out]; rfl)
    clear HV Hl1 Hl2 HM1 HM2
    go_wp2
    have r0 := World.cell?_setCell_same w0 _ (.slice none 0 0) c0
    have s1 : ((w0.setCell ⟨w.heap.size, 0, none⟩ (.slice none 0 0)).cell? ⟨w.heap.size, 1, none⟩) = some (.slice none 0 0) := (World.cell?_setCell_other _ _ _ _ (by simp)).trans c1
    have r1 := World.cell?_setCell_same _ _ (.slice none 0 0) s1
    refine bodyPost_ret (v := .tuple #[.agg #[.slice none 0 0, .slice none 0 0], .bool false]) (by simp [results, Tryz.results35, go_sem, r0, r1]) rfl ?_
    exact ⟨_, by rw [HK.out]; rfl, by rw [HK.out]; exact New.none2 (by simp; have := (A0).size; omega), ((A0).setCell (p := ⟨w.heap.size, 0, none⟩) (Nat.le_refl _) _).setCell (p := ⟨w.heap.size, 1, none⟩) (Nat.le_refl _) _⟩
  | true =>
  by_cases hp2 : p ≤ 2
  rotate_left
  · have HK := Lib.hid (show V = none from by rw [HV.out, decide_eq_false hp2]; rfl)
    have hp2' : 2 < p := by omega
    clear HV Hl1 Hl2 HM1 HM2
    go_wp2
    have r0 := World.cell?_setCell_same w0 _ (.slice none 0 0) c0
    have s1 : ((w0.setCell ⟨w.heap.size, 0, none⟩ (.slice none 0 0)).cell? ⟨w.heap.size, 1, none⟩) = some (.slice none 0 0) := (World.cell?_setCell_other _ _ _ _ (by simp)).trans c1
    have r1 := World.cell?_setCell_same _ _ (.slice none 0 0) s1
    refine bodyPost_ret (v := .tuple #[.agg #[.slice none 0 0, .slice none 0 0], .bool false]) (by simp [results, Tryz.results35, go_sem, r0, r1]) rfl ?_
    exact ⟨_, by rw [HK.out]; rfl, by rw [HK.out]; exact New.none2 (by simp; have := (A0).size; omega), ((A0).setCell (p := ⟨w.heap.size, 0, none⟩) (Nat.le_refl _) _).setCell (p := ⟨w.heap.size, 1, none⟩) (Nat.le_refl _) _⟩
  by_cases hq2 : q ≤ 2
  rotate_left
  · have HK := Lib.hid (show V = none from by rw [HV.out, decide_eq_false hq2, Bool.and_false]; rfl)
    have hq2' : 2 < q := by omega
    clear HV Hl1 Hl2 HM1 HM2
    go_wp2
    have r0 := World.cell?_setCell_same w0 _ (.slice none 0 0) c0
    have s1 : ((w0.setCell ⟨w.heap.size, 0, none⟩ (.slice none 0 0)).cell? ⟨w.heap.size, 1, none⟩) = some (.slice none 0 0) := (World.cell?_setCell_other _ _ _ _ (by simp)).trans c1
    have r1 := World.cell?_setCell_same _ _ (.slice none 0 0) s1
    refine bodyPost_ret (v := .tuple #[.agg #[.slice none 0 0, .slice none 0 0], .bool false]) (by simp [results, Tryz.results35, go_sem, r0, r1]) rfl ?_
    exact ⟨_, by rw [HK.out]; rfl, by rw [HK.out]; exact New.none2 (by simp; have := (A0).size; omega), ((A0).setCell (p := ⟨w.heap.size, 0, none⟩) (Nat.le_refl _) _).setCell (p := ⟨w.heap.size, 1, none⟩) (Nat.le_refl _) _⟩
  have hp0 := (Hl1.out (by first | rfl | trivial)).1
  have hq0 := (Hl2.out (by first | rfl | trivial)).1
  have HVV := Lib.hid (show V = findR P (tabsN q p) (tabsN p q) from by rw [HV.out, decide_eq_true hp2, decide_eq_true hq2]; rfl)
  clear HV Hl1 Hl2 HM1 HM2
  have hpq : p * q ≤ 4 := Nat.mul_le_mul hp2 hq2
  obtain ⟨M, hM⟩ : ∃ M, M = 3 ^ (p * q) := ⟨_, rfl⟩
  have hM0 : 0 < M := by rw [hM]; exact Nat.pow_pos (by decide)
  have hM81 : M ≤ 81 := by rw [hM]; exact Nat.le_trans (Nat.pow_le_pow_right (by decide) hpq) (by decide)
  have Ht1 := Lib.hid (tables_c (w := w0) hq0 hq2 hp0 hp2)
  have Ht2 := Lib.hid (fun w1 => tables_c (w := w1) hp0 hp2 hq0 hq2)
  have hrl : (tabsN p q).length = M := by rw [hM]; simp [tabsN]
  have hsl : (tabsN q p).length = M := by rw [hM, Nat.mul_comm p q]; simp [tabsN]
  generalize tabsN p q = rs at *
  generalize tabsN q p = ss at *
  have HV0 := Lib.hid (show V = findR P ss (rs.drop 0) from HVV.out)
  have Hrl := Lib.hid hrl
  have Hsl := Lib.hid hsl
  have A0' := Lib.hid A0
  clear hM HVV hrl hsl A0
  go_wp2_with fail
  refine Ht1.out.mono ?_
  rintro e w1 ⟨vs, rfl, hn1, hb1⟩
  have Hn1 := Lib.hid hn1
  have Hb1 := Lib.hid hb1
  have hz1 := hb1.size
  obtain ⟨sb, sc, _, hvs, hsc, _, hsb, _⟩ := New.at (OTab.kept _ _) hn1 (List.getElem?_eq_getElem (show 0 < ss.length from by rw [Hsl.out]; exact hM0))
  subst hvs
  rw [Hsl.out] at Hn1 hsc ⊢
  clear hn1 hb1 Ht1
  go_wp2_with fail
  refine (Ht2.out _).mono ?_
  rintro e w2 ⟨vr, rfl, hn2, hb2⟩
  have Hn2 := Lib.hid hn2
  have hz2 := hb2.size
  obtain ⟨rb, rc, _, hvr, hrc, _, hrb, _⟩ := New.at (OTab.kept _ _) hn2 (List.getElem?_eq_getElem (show 0 < rs.length from by rw [Hrl.out]; exact hM0))
  subst hvr
  rw [Hrl.out] at Hn2 hrc ⊢
  have Hb12 := Lib.hid hb2
  have Hb2 := Lib.hid (Hb1.out.trans (hb2.mono hz1))
  clear hn2 hb2 Ht2
  have HB2 := Lib.hid (Below.refl w2.heap.size w2)
  go_wp2
  go_loopg [44] M (fun g i wr => ∃ (x : Nat), i = .int .i64 x ∧ x + g = M ∧ Hid (V = findR P ss (rs.drop x)) ∧ Hid (Below w2.heap.size w2 wr))
  case atStart => exact ⟨0, rfl, by omega, HV0, HB2⟩
  case round =>
    obtain ⟨x, rfl, hx, HVx, hbx⟩ := hrel
    clear HV0 HB2
    obtain ⟨wx, rfl⟩ : ∃ y, y = wr := ⟨_, rfl⟩
    have hzx := hbx.out.size
    by_cases hltx : x < M
    · obtain ⟨r, hr, hd⟩ := at_lt (xs := rs) (k := x) (by rw [Hrl.out]; exact hltx)
      obtain ⟨rb', _, ur, hv, _, _, _, hcr, _, hnr, _⟩ := New.at (OTab.kept _ _) Hn2.out hr
      obtain rfl : rb' = rb := by simp at hv; exact hv.1.symm
      have HVy0 := Lib.hid (show V = (match findS P r (ss.drop 0) with | some x => some x | none => findR P ss (rs.drop (x + 1))) from by rw [HVx.out, hd]; rfl)
      have hcr1 := (hbx.out.cell (p := ⟨rb', x, none⟩) hrb).trans hcr
      obtain ⟨ra, rn, rcc, rfl⟩ := hnr.slice
      have Hnr := Lib.hid hnr
      have hxI : (x : Int) < (M : Int) := by omega
      clear hr hd hv hcr hnr HVx
      have HBx := Lib.hid (Below.refl wx.heap.size wx)
      go_wp2
      go_loopg [50] M (fun g i wr => ∃ (y : Nat), i = .int .i64 y ∧ y + g = M ∧ Hid (V = (match findS P r (ss.drop y) with | some x => some x | none => findR P ss (rs.drop (x + 1)))) ∧ Hid (Below wx.heap.size wx wr))
      case atStart => exact ⟨0, rfl, by omega, HVy0, HBx⟩
      case round =>
        obtain ⟨y, rfl, hy, HVy, hby⟩ := hrel
        clear HVy0 HBx
        obtain ⟨wy, rfl⟩ : ∃ y, y = wr := ⟨_, rfl⟩
        have hzy := hby.out.size
        by_cases hlty : y < M
        · obtain ⟨s, hs, hd⟩ := at_lt (xs := ss) (k := y) (by rw [Hsl.out]; exact hlty)
          obtain ⟨sb', _, us, hv, _, _, _, hcs, _, hns, _⟩ := New.at (OTab.kept _ _) Hn1.out hs
          obtain rfl : sb' = sb := by simp at hv; exact hv.1.symm
          have HVs := Lib.hid (show V = (match (if P (r, s) = true then some (r, s) else findS P r (ss.drop (y + 1))) with | some x => some x | none => findR P ss (rs.drop (x + 1))) from by rw [HVy.out, hd]; rfl)
          have hb1y := (Hb12.out.trans (hbx.out.mono hz2)).trans (hby.out.mono (Nat.le_trans hz2 hzx))
          have hcs1 := (hb1y.cell (p := ⟨sb', y, none⟩) hsb).trans hcs
          obtain ⟨sa, sn, scc, rfl⟩ := hns.slice
          have HP := Lib.hid (New.pair' (lo := w0.heap.size) hns Hnr.out Hb12.out hz1)
          have hb2y := hbx.out.trans (hby.out.mono hzx)
          have HPy := Lib.hid (((HP.out.inn OStep.held).keep OStep.held hb2y (Nat.le_refl _)).new)
          have Hb0y := Lib.hid (Hb2.out.trans (hb2y.mono (Nat.le_trans hz1 hz2)))
          have hyI : (y : Int) < (M : Int) := by omega
          obtain ⟨w4, ex, hb4, q0, q1, n4⟩ := boxA_ex wy 26 (.slice ra rn rcc) (.slice sa sn scc)
          have Hb4 := Lib.hid hb4
          have hz4 := hb4.size
          have Hby4 := Lib.hid (hby.out.trans (hb4.mono hzy))
          have Hb04 := Lib.hid (Hb0y.out.trans (hb4.mono Hb0y.out.size))
          have hst := StepR.frame _ _ _ _ HPy.out.stp hb4
          have HCC := Lib.hid (HC.out w4 (A0'.out.trans (Hb04.out.mono A0'.out.size)) _ _ hst)
          clear hs hd hv hcs hns HVy hb1y hb2y hb4 hst
          generalize P (r, s) = d at HCC HVs
          go_wp2_with fail
          refine HCC.out.mono ?_
          rintro e w5 ⟨rfl, hb5⟩
          clear ex
          replace q0 := (hb5.cell (p := ⟨wy.heap.size, 0, none⟩) n4).trans q0
          replace q1 := (hb5.cell (p := ⟨wy.heap.size, 1, none⟩) n4).trans q1
          cases d with
          | false =>
            have HN := Lib.hid (show V = (match findS P r (ss.drop (y + 1)) with | some x => some x | none => findR P ss (rs.drop (x + 1))) from by rw [HVs.out]; rfl)
            have HR := Lib.hid (Hby4.out.trans (hb5.mono (Nat.le_trans hzy hz4)))
            clear HVs HP HPy Hb0y Hb4 Hby4 Hb04 HCC hb5 q0 q1 hcs1
            go_wp2
            go_roundg (M - (y + 1))
            case measure => omega
            case rel => exact ⟨y + 1, by go_num, by omega, HN, HR⟩
          | true =>
            have HN := Lib.hid (show V = some (r, s) from by rw [HVs.out]; rfl)
            have hb8 := Hb04.out.trans (hb5.mono Hb04.out.size)
            replace c0 := (hb8.cell (p := ⟨w.heap.size, 0, none⟩) m1).trans c0
            replace c1 := (hb8.cell (p := ⟨w.heap.size, 1, none⟩) m1).trans c1
            replace fz0 := (hb8.frozen (p := ⟨w.heap.size, 0, none⟩) m1).trans fz0
            replace fz1 := (hb8.frozen (p := ⟨w.heap.size, 1, none⟩) m1).trans fz1
            have HPP := Lib.hid (((HPy.out.inn OStep.held).keep OStep.held (Hb4.out.trans (hb5.mono hz4)) (Nat.le_refl _)).new)
            have HA := Lib.hid (A0'.out.trans (hb8.mono A0'.out.size))
            clear HVs HP HPy Hb0y Hb4 Hby4 Hb04 HCC hb5 hb8 hcs1
            go_wp2
            have r0 := World.cell?_setCell_same w5 _ (.slice ra rn rcc) c0
            have s1 : ((w5.setCell ⟨w.heap.size, 0, none⟩ (.slice ra rn rcc)).cell? ⟨w.heap.size, 1, none⟩) = some (.slice none 0 0) := (World.cell?_setCell_other _ _ _ _ (by simp)).trans c1
            have r1 := World.cell?_setCell_same _ _ (.slice sa sn scc) s1
            refine bodyPost_ret (v := .tuple #[.agg #[.slice ra rn rcc, .slice sa sn scc], .bool true]) (by simp [results, Tryz.results35, go_sem, r0, r1]) rfl ?_
            exact ⟨_, by rw [HN.out]; rfl, by rw [HN.out]; exact (New.setCell_low OStep.held (New.setCell_low OStep.held HPP.out (show w.heap.size < w0.heap.size from m1) _) (show w.heap.size < w0.heap.size from m1) _).mono (Nat.le_of_lt m1), (HA.out.setCell (p := ⟨w.heap.size, 0, none⟩) (Nat.le_refl _) _).setCell (p := ⟨w.heap.size, 1, none⟩) (Nat.le_refl _) _⟩
        · have HN := Lib.hid (show V = findR P ss (rs.drop (x + 1)) from by rw [HVy.out, List.drop_eq_nil_of_le (by rw [Hsl.out]; omega)]; rfl)
          have HR := Lib.hid (hbx.out.trans (hby.out.mono hzx))
          clear HVy hby
          go_wp2
          go_roundg (M - (x + 1))
          case measure => omega
          case rel => exact ⟨x + 1, by go_num, by omega, HN, HR⟩
    · have HK := Lib.hid (show V = none from by rw [HVx.out, List.drop_eq_nil_of_le (by rw [Hrl.out]; omega)]; rfl)
      clear HVx
      have hb8 := Hb2.out.trans (hbx.out.mono (Nat.le_trans hz1 hz2))
      have Abx := Lib.hid (A0'.out.trans (hb8.mono A0'.out.size))
      replace c0 := (hb8.cell (p := ⟨w.heap.size, 0, none⟩) m1).trans c0
      replace c1 := (hb8.cell (p := ⟨w.heap.size, 1, none⟩) m1).trans c1
      replace fz0 := (hb8.frozen (p := ⟨w.heap.size, 0, none⟩) m1).trans fz0
      replace fz1 := (hb8.frozen (p := ⟨w.heap.size, 1, none⟩) m1).trans fz1
      clear hb8
      go_wp2
      have r0 := World.cell?_setCell_same wx _ (.slice none 0 0) c0
      have s1 : ((wx.setCell ⟨w.heap.size, 0, none⟩ (.slice none 0 0)).cell? ⟨w.heap.size, 1, none⟩) = some (.slice none 0 0) := (World.cell?_setCell_other _ _ _ _ (by simp)).trans c1
      have r1 := World.cell?_setCell_same _ _ (.slice none 0 0) s1
      refine bodyPost_ret (v := .tuple #[.agg #[.slice none 0 0, .slice none 0 0], .bool false]) (by simp [results, Tryz.results35, go_sem, r0, r1]) rfl ?_
      exact ⟨_, by rw [HK.out]; rfl, by rw [HK.out]; exact New.none2 (by simp; have := (Abx.out).size; omega), ((Abx.out).setCell (p := ⟨w.heap.size, 0, none⟩) (Nat.le_refl _) _).setCell (p := ⟨w.heap.size, 1, none⟩) (Nat.le_refl _) _⟩
set_option maxHeartbeats 1000000 in
theorem impl_FindStep_c {w : World} {va vb : Value} {a b : Tb} (h1 : Tab w va a) (h2 : Tab w vb b) :
    Calls Tryz.prog 7 #[va, vb] w (Makes2 (OStep 3 46) w (found (findV a b)) (findV a b).isSome) := by
  have hmf : ∀ (fn : Fn) (first cap : Array Value) (w : World), (Instr.makeFunc fn first cap).run Tryz.prog w = .ok (.func fn first cap) w := fun _ _ _ _ => rfl
  have H1 := Lib.hid (fun w1 (hb : Below w.heap.size w w1) => Tab.frame _ _ _ _ h1 hb)
  have H2 := Lib.hid (fun w1 (hb : Below w.heap.size w w1) => Tab.frame _ _ _ _ h2 hb)
  obtain ⟨aa, ac, rfl, _, _, _⟩ := h1.shape
  obtain ⟨ba, bc, rfl, _, _, _⟩ := h2.shape
  clear h1 h2
  obtain ⟨wA, eA, hA0⟩ : ∃ wA, wA = (w.alloc (.cells #[.slice aa a.length ac] 24)).alloc (.cells #[.slice ba b.length bc] 24) ∧ Below w.heap.size w wA := ⟨_, rfl, ((Below.refl _ _).alloc (Nat.le_refl _) _).alloc (by simp) _⟩
  obtain ⟨w0, ex, hA1, c0, c1, m1⟩ := boxA_ex wA 26 (.slice none 0 0) (.slice none 0 0)
  have zA : wA.heap.size = w.heap.size + 1 + 1 := by rw [eA]; simp
  have cA : wA.cell? ⟨w.heap.size, 0, none⟩ = some (.slice aa a.length ac) := by rw [eA]; simp [go_sem]
  have cB : wA.cell? ⟨w.heap.size + 1, 0, none⟩ = some (.slice ba b.length bc) := by rw [eA]; simp [go_sem]
  have fz0 : w0.frozen? ⟨wA.heap.size, 0, none⟩ = false := by rw [← ex]; simp [go_sem]
  have fz1 : w0.frozen? ⟨wA.heap.size, 1, none⟩ = false := by rw [← ex]; simp [go_sem]
  replace cA := (hA1.cell (p := ⟨w.heap.size, 0, none⟩) (show w.heap.size < wA.heap.size by omega)).trans cA
  replace cB := (hA1.cell (p := ⟨w.heap.size + 1, 0, none⟩) (show w.heap.size + 1 < wA.heap.size by omega)).trans cB
  have hz0 := hA1.size
  have A0 := hA0.trans (hA1.mono hA0.size)
  have HF := Lib.hid (findStep_c (w := w0) cA cB (by omega) (by omega) (H1.out w0 A0) (H2.out w0 A0))
  have eW : ((w.alloc (.cells #[.slice aa a.length ac] 24)).alloc (.cells #[.slice ba b.length bc] 24)).alloc (.cells #[.slice none 0 0, .slice none 0 0] 26) = w0 := by rw [← eA]; exact ex
  generalize findV a b = V at HF ⊢
  go_enter Tryz.func7, Tryz.ntmps7
  go_wp2_with fail
  refine HF.out.mono ?_
  rintro e w2 ⟨v2, rfl, hn2, hb2⟩
  replace c0 := (hb2.cell (p := ⟨wA.heap.size, 0, none⟩) m1).trans c0
  replace c1 := (hb2.cell (p := ⟨wA.heap.size, 1, none⟩) m1).trans c1
  replace fz0 := (hb2.frozen (p := ⟨wA.heap.size, 0, none⟩) m1).trans fz0
  replace fz1 := (hb2.frozen (p := ⟨wA.heap.size, 1, none⟩) m1).trans fz1
  obtain ⟨xa, xn, xc, ya, yn, yc, rfl⟩ := hn2.stp.slices
  have HA := Lib.hid (A0.trans (hb2.mono A0.size))
  have Hn2 := Lib.hid hn2
  clear hn2 hb2 HF H1 H2 cA cB eW hmf
  rw [zA] at c0 c1 fz0 fz1 m1
  go_wp2
  have r0 := World.cell?_setCell_same w2 _ (.slice xa xn xc) c0
  have s1 : ((w2.setCell ⟨w.heap.size + 1 + 1, 0, none⟩ (.slice xa xn xc)).cell? ⟨w.heap.size + 1 + 1, 1, none⟩) = some (.slice none 0 0) := (World.cell?_setCell_other _ _ _ _ (by simp)).trans c1
  have r1 := World.cell?_setCell_same _ _ (.slice ya yn yc) s1
  refine bodyPost_ret (v := .tuple #[.agg #[.slice xa xn xc, .slice ya yn yc], .bool V.isSome]) (by simp [results, Tryz.results7, go_sem, r0, r1]) rfl ?_
  exact ⟨_, rfl, (New.setCell_low OStep.held (New.setCell_low OStep.held Hn2.out (show w.heap.size + 1 + 1 < w0.heap.size from m1) _) (show w.heap.size + 1 + 1 < w0.heap.size from m1) _).mono (by omega), (HA.out.setCell (p := ⟨w.heap.size + 1 + 1, 0, none⟩) (show w.heap.size ≤ w.heap.size + 1 + 1 by omega) _).setCell (p := ⟨w.heap.size + 1 + 1, 1, none⟩) (show w.heap.size ≤ w.heap.size + 1 + 1 by omega) _⟩
end Go.Proofs.YtlkgkfgpnnahdaaGreat
end
