/-
  AreLinked, both sides, over StepsFrom and AreAlike.
-/
import Derived.Test.YtdohepngandajaaStpS
import Derived.Test.YtdohepngandajaaStpI
import Derived.Test.YtdohepngandajaaAlike2
import Derived.Test.YtdohepngandajaaHarn3b
import Derived.Test.YtdohepngandajaaPartsP
import Derived.Deep.RegionHeld3
import Derived.Deep.DeepCutAuto
namespace Go.Proofs.Ytdohepngandajaa
open Go.RowKit Go.Deep Go.Sd
set_option linter.unusedSimpArgs false
abbrev Tr := Option Addr × Nat × Nat
def slV (t : Tr) : Value := .slice t.1 t.2.1 t.2.2
theorem slices_of : ∀ (us : List Value), (∀ u, u ∈ us → ∃ t, u = slV t) → ∃ ts : List Tr, us = ts.map slV
  | [], _ => ⟨[], rfl⟩
  | u :: us, h => by
    obtain ⟨t, rfl⟩ := h u (by simp)
    obtain ⟨ts, rfl⟩ := slices_of us fun u hu => h u (by simp [hu])
    exact ⟨t :: ts, rfl⟩
theorem tabs_vals {w : World} {v : Value} {xs : List Tbl} (h : Tabs w v xs) : ∃ ts : List Tr, SlOf (ValR slV) w v ts ∧ ts.length = xs.length ∧ ∀ (i : Nat) (t : Tr) (x : Tbl), ts[i]? = some t → xs[i]? = some x → Tab w (slV t) x := by
  obtain ⟨us, hsl, hl, hr⟩ := h
  obtain ⟨ts, rfl⟩ := slices_of us fun u hu => by
    obtain ⟨i, hi⟩ := List.getElem?_of_mem hu
    have h1 := (List.getElem?_eq_some_iff.1 hi).1
    obtain ⟨a, c, e, -⟩ := (hr i u xs[i] hi (List.getElem?_eq_getElem (by omega))).shape
    exact ⟨(a, xs[i].length, c), e⟩
  refine ⟨ts, ⟨ts.map slV, hsl, by simp, fun i u x hu hx => ?_⟩, by simpa using hl, fun i t x ht hx => hr i _ x (by rw [List.getElem?_map, ht]; rfl) hx⟩
  rw [List.getElem?_map, hx] at hu
  exact (Option.some.inj hu).symm
theorem vals_tabs {w : World} {v : Value} {ts : List Tr} {xs : List Tbl} (h : SlOf (ValR slV) w v ts) (hl : ts.length = xs.length) (ht : ∀ (i : Nat) (t : Tr) (x : Tbl), ts[i]? = some t → xs[i]? = some x → Tab w (slV t) x) : Tabs w v xs := by
  obtain ⟨us, hsl, hl2, hr⟩ := h
  refine ⟨us, hsl, by omega, fun i u x hu hx => ?_⟩
  have h1 := (List.getElem?_eq_some_iff.1 hu).1
  have h2 : ts[i]? = some ts[i] := List.getElem?_eq_getElem (by omega)
  have e : u = slV ts[i] := hr i u _ hu h2
  rw [e]
  exact ht i _ x h2 hx
theorem slV_kept : Kept (OValR slV) := ⟨fun _ _ _ _ _ h _ => h, fun _ _ _ _ h b hb => by rw [h.2] at hb; simp at hb, fun _ _ _ _ h => by rw [h.1]; rfl⟩
theorem own_tabs_vals {eI eR eT : TypeId} {lo : Nat} {w : World} {v : Value} {xs : List Tbl} (h : New (OTabs eI eR eT) lo w v xs) : ∃ ts : List Tr, SlOf (ValR slV) w v ts ∧ ts.length = xs.length ∧ ∀ w' : World, (∀ b, lo ≤ b → b < w.heap.size → w'.heap[b]? = w.heap[b]?) → ∀ (i : Nat) (t : Tr) (x : Tbl), ts[i]? = some t → xs[i]? = some x → Tab w' (slV t) x := by
  have hnew := h
  obtain ⟨F, hF, hnd, hge⟩ := h
  have hF' := hF
  obtain ⟨us, Fs, how, hl, hr, rfl⟩ := hF
  have hul : us.length = xs.length := by simpa using how.1
  obtain ⟨ts, rfl⟩ := slices_of us fun u hu => by
    obtain ⟨i, hi⟩ := List.getElem?_of_mem hu
    have h1 := (List.getElem?_eq_some_iff.1 hi).1
    obtain ⟨a, c, e, -⟩ := (OTab.reads (hr i u xs[i] Fs[i] hi (List.getElem?_eq_getElem (by omega)) (List.getElem?_eq_getElem (by omega)))).shape
    exact ⟨(a, xs[i].length, c), e⟩
  have htl : ts.length = xs.length := by simpa using hul
  have hown : OwnOf eT (OValR slV) w v ts (v.ownBlock.toList ++ (ts.map fun _ => ([] : List Nat)).flatten) := by
    refine ⟨ts.map slV, ts.map fun _ => [], by rw [htl]; exact how, by simp, ?_, rfl⟩
    intro i u x G hu hx hG
    rw [List.getElem?_map, hx] at hu hG
    exact ⟨(Option.some.inj hu).symm, (Option.some.inj hG).symm⟩
  refine ⟨ts, OwnOf.reads (R' := ValR slV) (fun _ _ _ _ h => h.1) hown, htl, fun w' hk i t x ht hx => ?_⟩
  have h1 := (List.getElem?_eq_some_iff.1 ht).1
  have hG : Fs[i]? = some Fs[i] := List.getElem?_eq_getElem (by omega)
  have h2 := hr i (slV t) x Fs[i] (by rw [List.getElem?_map, ht]; rfl) hx hG
  refine OTab.reads ((OTab.kept eI eR).keep _ _ _ _ _ h2 fun b hb => hk b (hge b (List.mem_append_right _ (List.mem_flatten_of_mem (List.mem_of_getElem? hG) hb))) ((OTab.kept eI eR).lt _ _ _ _ h2 b hb))
/-- A table ahead of others. -/
theorem link_tabs {lo : Nat} {w' : World} {v : Value} {e : TypeId} {t0 : Tr} {ts : List Tr} {x0 : Tbl} {xs : List Tbl} (hn : New (OwnOf e (OValR slV)) lo w' v ([t0] ++ ts)) (h0 : Tab w' (slV t0) x0) (hl : ts.length = xs.length) (ht : ∀ (i : Nat) (t : Tr) (x : Tbl), ts[i]? = some t → xs[i]? = some x → Tab w' (slV t) x) : Tabs w' v (x0 :: xs) := by
  obtain ⟨F, hF, -⟩ := hn
  refine vals_tabs (OwnOf.reads (R' := ValR slV) (fun _ _ _ _ h => h.1) hF) (by simp; omega) fun i t x hi hx => ?_
  cases i with
  | zero =>
    simp at hi hx
    subst hi hx
    exact h0
  | succ i => exact ht i t x (by simpa using hi) (by simpa using hx)
theorem _root_.Go.Sd.Tabs.tabAt {w : World} {v : Value} {L : List Tbl} (h : Tabs w v L) {i : Nat} {x : Tbl} (hx : L[i]? = some x) : ∃ b o c a' c', v = .slice (some ⟨b, o, none⟩) L.length c ∧ b < w.heap.size ∧ w.cell? ⟨b, o + i, none⟩ = some (.slice a' x.length c') ∧ Tab w (.slice a' x.length c') x := by
  obtain ⟨a, c, rfl, -, -, hc⟩ := h.shape
  have hi := (List.getElem?_eq_some_iff.1 hx).1
  obtain ⟨b, o, rfl, hb, hx'⟩ := hc (by omega)
  obtain ⟨u, hu, hru⟩ := hx' i x hx
  obtain ⟨a', c', rfl, -⟩ := hru.shape
  exact ⟨b, o, c, a', c', rfl, hb, hu, hru⟩
def linkL (A B : List Tbl) : Bool := A.any fun x => B.any fun y => alikeM x y
def linkM (a b : Tbl) : Bool := isMat a && (isMat b && (decide (a.length ≤ 2) && (decide (b.length ≤ 2) && linkL (a :: stepsV a) (b :: stepsV b))))
theorem link_drop {A B : List Tbl} {k : Nat} {x : Tbl} (h : A[k]? = some x) : linkL (A.drop k) B = ((B.drop 0).any (fun y => alikeM x y) || linkL (A.drop (k + 1)) B) := by
  unfold linkL
  rw [drop_cons' h, List.any_cons]
  rfl
theorem any_drop {α : Type} {p : α → Bool} {xs : List α} {k : Nat} {x : α} (h : xs[k]? = some x) : (xs.drop k).any p = (p x || (xs.drop (k + 1)).any p) := by
  rw [drop_cons' h, List.any_cons]

set_option maxHeartbeats 4000000 in
set_option maxRecDepth 100000 in
theorem impl_AreLinked_c {w : World} {va vb : Value} {a b : Tbl} (h1 : Tab w va a) (h2 : Tab w vb b) :
    Calls Try.prog 39 #[va, vb] w fun e w' => e = .returned (.bool (linkM a b)) ∧ Below w.heap.size w w' := by
  have HIa := Lib.hid (impl_IsMatrix_c h1)
  have HIb := Lib.hid (impl_IsMatrix_c h2)
  have HTa := Lib.hid h1
  have HTb := Lib.hid h2
  obtain ⟨aa, ca, rfl, -⟩ := h1.shape
  obtain ⟨ab, cb, rfl, -⟩ := h2.shape
  have hla := h1.len
  have hlb := h2.len
  have HM := Lib.hid (show linkM a b = (isMat a && (isMat b && (decide (a.length ≤ 2) && (decide (b.length ≤ 2) && linkL (a :: stepsV a) (b :: stepsV b))))) from rfl)
  generalize linkM a b = R at HM ⊢
  clear h1 h2
  cases ha : isMat a with
  | false =>
    rw [ha] at HIa HM
    have HF := Lib.hid (show R = false from by rw [HM.out]; rfl)
    clear HM HTa HTb
    go_enter Try.func39, Try.ntmps39
    go_wp2_with fail
    (with_reducible refine HIa.out.mono ?_)
    rintro e w0 ⟨rfl, rfl⟩
    go_wp2
    go_ret
    exact ⟨by rw [HF.out]; rfl, Below.refl _ _⟩
  | true =>
  rw [ha] at HIa HM
  have Hma := Lib.hid ha
  clear ha
  cases hb : isMat b with
  | false =>
    rw [hb] at HIb HM
    have HF := Lib.hid (show R = false from by rw [HM.out]; rfl)
    clear HM HTa HTb
    go_enter Try.func39, Try.ntmps39
    go_wp2_with fail
    (with_reducible refine HIa.out.mono ?_)
    rintro e w0 ⟨rfl, rfl⟩
    go_wp2_with fail
    (with_reducible refine HIb.out.mono ?_)
    rintro e w0 ⟨rfl, rfl⟩
    go_wp2
    go_ret
    exact ⟨by rw [HF.out]; rfl, Below.refl _ _⟩
  | true =>
  rw [hb] at HIb HM
  have Hmb := Lib.hid hb
  clear hb
  by_cases h2a : 2 < a.length
  · have h2i : (2 : Int) < (a.length : Int) := by omega
    have HF := Lib.hid (show R = false from by rw [HM.out]; rw [show decide (a.length ≤ 2) = false from decide_eq_false (by omega)]; rfl)
    clear HM HTa HTb
    go_enter Try.func39, Try.ntmps39
    go_wp2_with fail
    (with_reducible refine HIa.out.mono ?_)
    rintro e w0 ⟨rfl, rfl⟩
    go_wp2_with fail
    (with_reducible refine HIb.out.mono ?_)
    rintro e w0 ⟨rfl, rfl⟩
    go_wp2
    go_ret
    exact ⟨by rw [HF.out]; rfl, Below.refl _ _⟩
  have h2i : ¬ ((2 : Int) < (a.length : Int)) := by omega
  by_cases h2b : 2 < b.length
  · have h3i : (2 : Int) < (b.length : Int) := by omega
    have HF := Lib.hid (show R = false from by rw [HM.out]; rw [show decide (b.length ≤ 2) = false from decide_eq_false (by omega)]; simp)
    clear HM HTa HTb
    go_enter Try.func39, Try.ntmps39
    go_wp2_with fail
    (with_reducible refine HIa.out.mono ?_)
    rintro e w0 ⟨rfl, rfl⟩
    go_wp2_with fail
    (with_reducible refine HIb.out.mono ?_)
    rintro e w0 ⟨rfl, rfl⟩
    go_wp2
    go_ret
    exact ⟨by rw [HF.out]; rfl, Below.refl _ _⟩
  have h3i : ¬ ((2 : Int) < (b.length : Int)) := by omega
  have HR := Lib.hid (show R = linkL (a :: stepsV a) (b :: stepsV b) from by rw [HM.out, show decide (a.length ≤ 2) = true from decide_eq_true (by omega), show decide (b.length ≤ 2) = true from decide_eq_true (by omega)]; rfl)
  have HLa := Lib.hid (stepsV_len a)
  have HLb := Lib.hid (stepsV_len b)
  have HSa := Lib.hid (fun (w' : World) (hb : Below w.heap.size w w') => impl_StepsFrom_c (Tab.frame _ _ _ _ HTa.out hb))
  have HSb := Lib.hid (fun (w' : World) (hb : Below w.heap.size w w') => impl_StepsFrom_c (Tab.frame _ _ _ _ HTb.out hb))
  generalize stepsV a = SA at HSa HR HLa
  generalize stepsV b = SB at HSb HR HLb
  obtain ⟨LA, hLA⟩ : ∃ L, L = a :: SA := ⟨_, rfl⟩
  rw [← hLA] at HR
  have HlA := Lib.hid (show LA.length ≤ 2113 from by rw [hLA]; simpa using HLa.out)
  have HEA := Lib.hid hLA
  clear hLA
  obtain ⟨LB, hLB⟩ : ∃ L, L = b :: SB := ⟨_, rfl⟩
  rw [← hLB] at HR
  have HlB := Lib.hid (show LB.length ≤ 2113 from by rw [hLB]; simpa using HLb.out)
  have HEB := Lib.hid hLB
  clear hLB
  clear HM Hma Hmb
  go_enter Try.func39, Try.ntmps39
  go_wp2_with fail
  (with_reducible refine HIa.out.mono ?_)
  rintro e w0 ⟨rfl, rfl⟩
  go_wp2_with fail
  (with_reducible refine HIb.out.mono ?_)
  rintro e w0 ⟨rfl, rfl⟩
  have HBc := Lib.hid (Below.refl w.heap.size w)
  go_wp2_with fail
  obtain ⟨wl0, el⟩ : ∃ x, x = w.alloc (.cells #[.slice ab b.length cb] 41) := ⟨_, rfl⟩
  rw [← el]
  have HBl := Lib.hid (show Below w.heap.size w wl0 from by rw [el]; exact (Below.refl _ _).alloc (Nat.le_refl _) _)
  have HNl := Lib.hid (show New (OwnOf 41 (OValR slV)) w.heap.size wl0 (.slice (some ⟨w.heap.size, 0, none⟩) 1 1) [(ab, b.length, cb)] from by rw [el]; exact New.one slV_kept (R := OValR slV) (x := (ab, b.length, cb)) ⟨[], ⟨rfl, rfl⟩, by simp [Fresh]⟩ (Nat.le_refl _))
  have Hzl := Lib.hid (show wl0.heap.size = w.heap.size + 1 from by rw [el]; simp)
  clear el
  (with_reducible refine (HSb.out _ (HBc.out.trans (HBl.out.mono HBc.out.size))).mono ?_)
  rintro e ws0 ⟨vs0, rfl, hn, hb⟩
  have HBm := Lib.hid (HBl.out.trans (hb.mono HBl.out.size))
  have HNm := Lib.hid (New.keep (OwnOf.kept slV_kept) HNl.out hb (Nat.le_refl _))
  have Hzm := Lib.hid HBm.out.size
  obtain ⟨ts0, hts, htl, htr⟩ := own_tabs_vals hn
  obtain ⟨sa0, sc0, rfl, -⟩ := hts.shape
  have HTm := Lib.hid hts
  have Htl := Lib.hid htl
  have Htr := Lib.hid htr
  have Hlt := Lib.hid (show ts0.length ≤ 2112 from by have := HLb.out; omega)
  clear hn hb hts htl htr HSb HBl HNl
  go_wp2_with (at_builtin; go_loud (refine wpl_append_vals (f := slV) (fun _ => rfl) rfl (.tmp 29) (.tmp 31) 43 rfl 41 (.slice none 0 0) 24 Try.underlying43 infoT rfl (lo := w.heap.size) HNm.out Hzm.out HTm.out rfl rfl (by have := Hlt.out; simp only [List.length_singleton]; omega) (by have := Hlt.out; simp only [List.length_singleton]; omega) ?_); intro v0 wq0 hn hg _ hb; have HBq := Lib.hid (HBm.out.trans hb); go_loud (have htab : Tabs wq0 v0 LB := (by rw [HEB.out]; exact link_tabs hn (Tab.frame _ _ _ _ HTb.out (HBc.out.trans (HBq.out.mono HBc.out.size))) Htl.out (Htr.out _ fun b hb1 hb2 => hg.block b hb2 (fun e => by have e2 : b = w.heap.size := Option.some.inj e; have := Hzl.out; omega)))); obtain ⟨ya0, yc0, rfl, -⟩ := htab.shape; have HTB := Lib.hid htab; clear hn hg hb htab)
  replace HBc := Lib.hid (HBc.out.trans (HBq.out.mono HBc.out.size))
  clear HBm HNm HTm HBq Hzl Hzm Htl Htr Hlt
  go_wp2_with fail
  obtain ⟨wl1, el⟩ : ∃ x, x = wq0.alloc (.cells #[.slice aa a.length ca] 41) := ⟨_, rfl⟩
  rw [← el]
  have HBl := Lib.hid (show Below wq0.heap.size wq0 wl1 from by rw [el]; exact (Below.refl _ _).alloc (Nat.le_refl _) _)
  have HNl := Lib.hid (show New (OwnOf 41 (OValR slV)) wq0.heap.size wl1 (.slice (some ⟨wq0.heap.size, 0, none⟩) 1 1) [(aa, a.length, ca)] from by rw [el]; exact New.one slV_kept (R := OValR slV) (x := (aa, a.length, ca)) ⟨[], ⟨rfl, rfl⟩, by simp [Fresh]⟩ (Nat.le_refl _))
  have Hzl := Lib.hid (show wl1.heap.size = wq0.heap.size + 1 from by rw [el]; simp)
  clear el
  (with_reducible refine (HSa.out _ (HBc.out.trans (HBl.out.mono HBc.out.size))).mono ?_)
  rintro e ws1 ⟨vs1, rfl, hn, hb⟩
  have HBm := Lib.hid (HBl.out.trans (hb.mono HBl.out.size))
  have HNm := Lib.hid (New.keep (OwnOf.kept slV_kept) HNl.out hb (Nat.le_refl _))
  have Hzm := Lib.hid HBm.out.size
  obtain ⟨ts1, hts, htl, htr⟩ := own_tabs_vals hn
  obtain ⟨sa1, sc1, rfl, -⟩ := hts.shape
  have HTm := Lib.hid hts
  have Htl := Lib.hid htl
  have Htr := Lib.hid htr
  have Hlt := Lib.hid (show ts1.length ≤ 2112 from by have := HLa.out; omega)
  clear hn hb hts htl htr HSa HBl HNl
  go_wp2_with (at_builtin; go_loud (refine wpl_append_vals (f := slV) (fun _ => rfl) rfl (.tmp 34) (.tmp 36) 43 rfl 41 (.slice none 0 0) 24 Try.underlying43 infoT rfl (lo := wq0.heap.size) HNm.out Hzm.out HTm.out rfl rfl (by have := Hlt.out; simp only [List.length_singleton]; omega) (by have := Hlt.out; simp only [List.length_singleton]; omega) ?_); intro v1 wq1 hn hg _ hb; have HBq := Lib.hid (HBm.out.trans hb); go_loud (have htab : Tabs wq1 v1 LA := (by rw [HEA.out]; exact link_tabs hn (Tab.frame _ _ _ _ HTa.out (HBc.out.trans (HBq.out.mono HBc.out.size))) Htl.out (Htr.out _ fun b hb1 hb2 => hg.block b hb2 (fun e => by have e2 : b = wq0.heap.size := Option.some.inj e; have := Hzl.out; omega)))); obtain ⟨ya1, yc1, rfl, -⟩ := htab.shape; have HTA := Lib.hid htab; clear hn hg hb htab)
  replace HBc := Lib.hid (HBc.out.trans (HBq.out.mono HBc.out.size))
  replace HTB := Lib.hid (Tabs.frame _ _ _ _ HTB.out HBq.out)
  clear HBm HNm HTm HBq Hzl Hzm Htl Htr Hlt
  obtain ⟨nA, hnA⟩ : ∃ n, n = LA.length := ⟨_, rfl⟩
  have HnA := Lib.hid hnA
  have hlA := HlA.out
  have HTA' := Lib.hid (show Tabs wq1 (.slice ya1 nA yc1) LA from by rw [hnA]; exact HTA.out)
  rw [← hnA] at hlA ⊢
  clear hnA HTA
  obtain ⟨nB, hnB⟩ : ∃ n, n = LB.length := ⟨_, rfl⟩
  have HnB := Lib.hid hnB
  have hlB := HlB.out
  have HTB' := Lib.hid (show Tabs wq1 (.slice ya0 nB yc0) LB from by rw [hnB]; exact HTB.out)
  rw [← hnB] at hlB ⊢
  clear hnB HTB
  have HR0 := Lib.hid (show R = linkL (LA.drop 0) LB from HR.out)
  clear HR HLa HLb HEA HEB HlA HlB HIa HIb hla hlb h2i h3i h2a h2b
  go_loopg [39] nA (fun g i wr => ∃ (k : Nat), i = .int .i64 k ∧ k + g = nA ∧ Hid (R = linkL (LA.drop k) LB) ∧ Hid (Below wq1.heap.size wq1 wr))
  case atStart => exact ⟨0, rfl, by omega, HR0, Lib.hid (Below.refl _ _)⟩
  case round =>
    clear HR0
    obtain ⟨k, rfl, hk, HR, HB⟩ := hrel
    obtain ⟨wk, rfl⟩ : ∃ x, x = wr := ⟨_, rfl⟩
    by_cases hkn : k < nA
    · have hki : (k : Int) < (nA : Int) := by omega
      obtain ⟨g, rfl⟩ : ∃ x, gk = x + 1 := ⟨gk - 1, by omega⟩
      obtain ⟨x, hx, -⟩ := at_lt (xs := LA) (k := k) (by have := HnA.out; omega)
      have HR1 := Lib.hid (show R = ((LB.drop 0).any (fun y => alikeM x y) || linkL (LA.drop (k + 1)) LB) from by rw [HR.out]; exact link_drop hx)
      obtain ⟨b1, o1, c1, xa, xc, hv, hb1, g1, hxT⟩ := HTA'.out.tabAt hx
      simp only [Value.slice.injEq] at hv
      obtain ⟨rfl, -, rfl⟩ := hv
      have HxT := Lib.hid hxT
      generalize x.length = xl at *
      clear hxT HR hx
      have gk1 := (HB.out.cell (p := ⟨b1, o1 + k, none⟩) hb1).trans g1
      clear g1 hb1
      go_wp2
      clear gk1
      go_loopg [45] nB (fun g2 i wr => ∃ (j : Nat), i = .int .i64 j ∧ j + g2 = nB ∧ Hid (R = ((LB.drop j).any (fun y => alikeM x y) || linkL (LA.drop (k + 1)) LB)) ∧ Hid (Below wq1.heap.size wq1 wr))
      case atStart => exact ⟨0, rfl, by omega, HR1, HB⟩
      case round =>
        clear HR1 HB
        obtain ⟨j, rfl, hj, HR, HB⟩ := hrel
        obtain ⟨wj, rfl⟩ : ∃ x, x = wr := ⟨_, rfl⟩
        by_cases hjn : j < nB
        · have hji : (j : Int) < (nB : Int) := by omega
          obtain ⟨g2, rfl⟩ : ∃ x, gk = x + 1 := ⟨gk - 1, by omega⟩
          obtain ⟨y, hy, -⟩ := at_lt (xs := LB) (k := j) (by have := HnB.out; omega)
          have HR1 := Lib.hid (show R = ((alikeM x y || (LB.drop (j + 1)).any (fun y => alikeM x y)) || linkL (LA.drop (k + 1)) LB) from by rw [HR.out, any_drop hy])
          obtain ⟨b2, o2, c2, pa, pc, hv, hb2, g2', hyT⟩ := HTB'.out.tabAt hy
          simp only [Value.slice.injEq] at hv
          obtain ⟨rfl, -, rfl⟩ := hv
          have HyT := Lib.hid hyT
          generalize y.length = yl at *
          have HC := Lib.hid (fun (w2 : World) (hb : Below wq1.heap.size wq1 w2) => impl_AreAlike_c (Tab.frame _ _ _ _ HxT.out hb) (Tab.frame _ _ _ _ HyT.out hb))
          generalize hal : alikeM x y = al at HC HR1
          clear hal hyT HR hy HyT
          have gk2 := (HB.out.cell (p := ⟨b2, o2 + j, none⟩) hb2).trans g2'
          clear g2' hb2
          go_wp2_with fail
          (with_reducible refine (HC.out _ HB.out).mono ?_)
          rintro e w4 ⟨rfl, hb⟩
          have HB4 := Lib.hid (HB.out.trans (hb.mono HB.out.size))
          clear hb HB HC gk2
          cases al with
          | true =>
            have HF := Lib.hid (show R = true from by rw [HR1.out]; rfl)
            clear HR1
            go_wp2
            go_ret
            exact ⟨by rw [HF.out]; rfl, HBc.out.trans (HB4.out.mono HBc.out.size)⟩
          | false =>
            have HR2 := Lib.hid (show R = ((LB.drop (j + 1)).any (fun y => alikeM x y) || linkL (LA.drop (k + 1)) LB) from by rw [HR1.out]; rfl)
            clear HR1
            go_wp2
            go_roundg g2
            case measure => omega
            case rel => exact ⟨j + 1, by go_num, by omega, HR2, HB4⟩
        · have hji : ¬ ((j : Int) < (nB : Int)) := by omega
          have HR2 := Lib.hid (show R = linkL (LA.drop (k + 1)) LB from by rw [HR.out, drop_len (by have := HnB.out; omega)]; rfl)
          clear HR
          go_wp2
          go_roundg g
          case measure => omega
          case rel => exact ⟨k + 1, by go_num, by omega, HR2, HB⟩
    · have hki : ¬ ((k : Int) < (nA : Int)) := by omega
      have HF := Lib.hid (show R = false from by rw [HR.out, drop_len (by have := HnA.out; omega)]; rfl)
      clear HR
      go_wp2
      go_ret
      exact ⟨by rw [HF.out]; rfl, HBc.out.trans (HB.out.mono HBc.out.size)⟩
set_option maxHeartbeats 4000000 in
set_option maxRecDepth 100000 in
theorem spec_AreLinked_c {w : World} {va vb : Value} {a b : Tbl} (h1 : Tab w va a) (h2 : Tab w vb b) :
    Calls Try.prog 38 #[va, vb] w fun e w' => e = .returned (.bool (linkM a b)) ∧ Below w.heap.size w w' := by
  have HIa := Lib.hid (spec_IsMatrix_c h1)
  have HIb := Lib.hid (spec_IsMatrix_c h2)
  have HTa := Lib.hid h1
  have HTb := Lib.hid h2
  obtain ⟨aa, ca, rfl, -⟩ := h1.shape
  obtain ⟨ab, cb, rfl, -⟩ := h2.shape
  have hla := h1.len
  have hlb := h2.len
  have HM := Lib.hid (show linkM a b = (isMat a && (isMat b && (decide (a.length ≤ 2) && (decide (b.length ≤ 2) && linkL (a :: stepsV a) (b :: stepsV b))))) from rfl)
  generalize linkM a b = R at HM ⊢
  clear h1 h2
  cases ha : isMat a with
  | false =>
    rw [ha] at HIa HM
    have HF := Lib.hid (show R = false from by rw [HM.out]; rfl)
    clear HM HTa HTb
    go_enter Try.func38, Try.ntmps38
    go_wp2_with fail
    (with_reducible refine HIa.out.mono ?_)
    rintro e w0 ⟨rfl, rfl⟩
    go_wp2
    go_ret
    exact ⟨by rw [HF.out]; rfl, Below.refl _ _⟩
  | true =>
  rw [ha] at HIa HM
  have Hma := Lib.hid ha
  clear ha
  cases hb : isMat b with
  | false =>
    rw [hb] at HIb HM
    have HF := Lib.hid (show R = false from by rw [HM.out]; rfl)
    clear HM HTa HTb
    go_enter Try.func38, Try.ntmps38
    go_wp2_with fail
    (with_reducible refine HIa.out.mono ?_)
    rintro e w0 ⟨rfl, rfl⟩
    go_wp2_with fail
    (with_reducible refine HIb.out.mono ?_)
    rintro e w0 ⟨rfl, rfl⟩
    go_wp2
    go_ret
    exact ⟨by rw [HF.out]; rfl, Below.refl _ _⟩
  | true =>
  rw [hb] at HIb HM
  have Hmb := Lib.hid hb
  clear hb
  by_cases h2a : 2 < a.length
  · have h2i : (2 : Int) < (a.length : Int) := by omega
    have HF := Lib.hid (show R = false from by rw [HM.out]; rw [show decide (a.length ≤ 2) = false from decide_eq_false (by omega)]; rfl)
    clear HM HTa HTb
    go_enter Try.func38, Try.ntmps38
    go_wp2_with fail
    (with_reducible refine HIa.out.mono ?_)
    rintro e w0 ⟨rfl, rfl⟩
    go_wp2_with fail
    (with_reducible refine HIb.out.mono ?_)
    rintro e w0 ⟨rfl, rfl⟩
    go_wp2
    go_ret
    exact ⟨by rw [HF.out]; rfl, Below.refl _ _⟩
  have h2i : ¬ ((2 : Int) < (a.length : Int)) := by omega
  by_cases h2b : 2 < b.length
  · have h3i : (2 : Int) < (b.length : Int) := by omega
    have HF := Lib.hid (show R = false from by rw [HM.out]; rw [show decide (b.length ≤ 2) = false from decide_eq_false (by omega)]; simp)
    clear HM HTa HTb
    go_enter Try.func38, Try.ntmps38
    go_wp2_with fail
    (with_reducible refine HIa.out.mono ?_)
    rintro e w0 ⟨rfl, rfl⟩
    go_wp2_with fail
    (with_reducible refine HIb.out.mono ?_)
    rintro e w0 ⟨rfl, rfl⟩
    go_wp2
    go_ret
    exact ⟨by rw [HF.out]; rfl, Below.refl _ _⟩
  have h3i : ¬ ((2 : Int) < (b.length : Int)) := by omega
  have HR := Lib.hid (show R = linkL (a :: stepsV a) (b :: stepsV b) from by rw [HM.out, show decide (a.length ≤ 2) = true from decide_eq_true (by omega), show decide (b.length ≤ 2) = true from decide_eq_true (by omega)]; rfl)
  have HLa := Lib.hid (stepsV_len a)
  have HLb := Lib.hid (stepsV_len b)
  have HSa := Lib.hid (fun (w' : World) (hb : Below w.heap.size w w') => spec_StepsFrom_c (Tab.frame _ _ _ _ HTa.out hb))
  have HSb := Lib.hid (fun (w' : World) (hb : Below w.heap.size w w') => spec_StepsFrom_c (Tab.frame _ _ _ _ HTb.out hb))
  generalize stepsV a = SA at HSa HR HLa
  generalize stepsV b = SB at HSb HR HLb
  obtain ⟨LA, hLA⟩ : ∃ L, L = a :: SA := ⟨_, rfl⟩
  rw [← hLA] at HR
  have HlA := Lib.hid (show LA.length ≤ 2113 from by rw [hLA]; simpa using HLa.out)
  have HEA := Lib.hid hLA
  clear hLA
  obtain ⟨LB, hLB⟩ : ∃ L, L = b :: SB := ⟨_, rfl⟩
  rw [← hLB] at HR
  have HlB := Lib.hid (show LB.length ≤ 2113 from by rw [hLB]; simpa using HLb.out)
  have HEB := Lib.hid hLB
  clear hLB
  clear HM Hma Hmb
  go_enter Try.func38, Try.ntmps38
  go_wp2_with fail
  (with_reducible refine HIa.out.mono ?_)
  rintro e w0 ⟨rfl, rfl⟩
  go_wp2_with fail
  (with_reducible refine HIb.out.mono ?_)
  rintro e w0 ⟨rfl, rfl⟩
  have HBc := Lib.hid (Below.refl w.heap.size w)
  go_wp2_with fail
  obtain ⟨wl0, el⟩ : ∃ x, x = w.alloc (.cells #[.slice aa a.length ca] 41) := ⟨_, rfl⟩
  rw [← el]
  have HBl := Lib.hid (show Below w.heap.size w wl0 from by rw [el]; exact (Below.refl _ _).alloc (Nat.le_refl _) _)
  have HNl := Lib.hid (show New (OwnOf 41 (OValR slV)) w.heap.size wl0 (.slice (some ⟨w.heap.size, 0, none⟩) 1 1) [(aa, a.length, ca)] from by rw [el]; exact New.one slV_kept (R := OValR slV) (x := (aa, a.length, ca)) ⟨[], ⟨rfl, rfl⟩, by simp [Fresh]⟩ (Nat.le_refl _))
  have Hzl := Lib.hid (show wl0.heap.size = w.heap.size + 1 from by rw [el]; simp)
  clear el
  (with_reducible refine (HSa.out _ (HBc.out.trans (HBl.out.mono HBc.out.size))).mono ?_)
  rintro e ws0 ⟨vs0, rfl, hn, hb⟩
  have HBm := Lib.hid (HBl.out.trans (hb.mono HBl.out.size))
  have HNm := Lib.hid (New.keep (OwnOf.kept slV_kept) HNl.out hb (Nat.le_refl _))
  have Hzm := Lib.hid HBm.out.size
  obtain ⟨ts0, hts, htl, htr⟩ := own_tabs_vals hn
  obtain ⟨sa0, sc0, rfl, -⟩ := hts.shape
  have HTm := Lib.hid hts
  have Htl := Lib.hid htl
  have Htr := Lib.hid htr
  have Hlt := Lib.hid (show ts0.length ≤ 2112 from by have := HLa.out; omega)
  clear hn hb hts htl htr HSa HBl HNl
  go_wp2_with (at_builtin; go_loud (refine wpl_append_vals (f := slV) (fun _ => rfl) rfl (.tmp 28) (.tmp 30) 43 rfl 41 (.slice none 0 0) 24 Try.underlying43 infoT rfl (lo := w.heap.size) HNm.out Hzm.out HTm.out rfl rfl (by have := Hlt.out; simp only [List.length_singleton]; omega) (by have := Hlt.out; simp only [List.length_singleton]; omega) ?_); intro v0 wq0 hn hg _ hb; have HBq := Lib.hid (HBm.out.trans hb); go_loud (have htab : Tabs wq0 v0 LA := (by rw [HEA.out]; exact link_tabs hn (Tab.frame _ _ _ _ HTa.out (HBc.out.trans (HBq.out.mono HBc.out.size))) Htl.out (Htr.out _ fun b hb1 hb2 => hg.block b hb2 (fun e => by have e2 : b = w.heap.size := Option.some.inj e; have := Hzl.out; omega)))); obtain ⟨ya0, yc0, rfl, -⟩ := htab.shape; have HTA := Lib.hid htab; clear hn hg hb htab)
  replace HBc := Lib.hid (HBc.out.trans (HBq.out.mono HBc.out.size))
  clear HBm HNm HTm HBq Hzl Hzm Htl Htr Hlt
  go_wp2_with fail
  obtain ⟨wl1, el⟩ : ∃ x, x = wq0.alloc (.cells #[.slice ab b.length cb] 41) := ⟨_, rfl⟩
  rw [← el]
  have HBl := Lib.hid (show Below wq0.heap.size wq0 wl1 from by rw [el]; exact (Below.refl _ _).alloc (Nat.le_refl _) _)
  have HNl := Lib.hid (show New (OwnOf 41 (OValR slV)) wq0.heap.size wl1 (.slice (some ⟨wq0.heap.size, 0, none⟩) 1 1) [(ab, b.length, cb)] from by rw [el]; exact New.one slV_kept (R := OValR slV) (x := (ab, b.length, cb)) ⟨[], ⟨rfl, rfl⟩, by simp [Fresh]⟩ (Nat.le_refl _))
  have Hzl := Lib.hid (show wl1.heap.size = wq0.heap.size + 1 from by rw [el]; simp)
  clear el
  (with_reducible refine (HSb.out _ (HBc.out.trans (HBl.out.mono HBc.out.size))).mono ?_)
  rintro e ws1 ⟨vs1, rfl, hn, hb⟩
  have HBm := Lib.hid (HBl.out.trans (hb.mono HBl.out.size))
  have HNm := Lib.hid (New.keep (OwnOf.kept slV_kept) HNl.out hb (Nat.le_refl _))
  have Hzm := Lib.hid HBm.out.size
  obtain ⟨ts1, hts, htl, htr⟩ := own_tabs_vals hn
  obtain ⟨sa1, sc1, rfl, -⟩ := hts.shape
  have HTm := Lib.hid hts
  have Htl := Lib.hid htl
  have Htr := Lib.hid htr
  have Hlt := Lib.hid (show ts1.length ≤ 2112 from by have := HLb.out; omega)
  clear hn hb hts htl htr HSb HBl HNl
  go_wp2_with (at_builtin; go_loud (refine wpl_append_vals (f := slV) (fun _ => rfl) rfl (.tmp 33) (.tmp 35) 43 rfl 41 (.slice none 0 0) 24 Try.underlying43 infoT rfl (lo := wq0.heap.size) HNm.out Hzm.out HTm.out rfl rfl (by have := Hlt.out; simp only [List.length_singleton]; omega) (by have := Hlt.out; simp only [List.length_singleton]; omega) ?_); intro v1 wq1 hn hg _ hb; have HBq := Lib.hid (HBm.out.trans hb); go_loud (have htab : Tabs wq1 v1 LB := (by rw [HEB.out]; exact link_tabs hn (Tab.frame _ _ _ _ HTb.out (HBc.out.trans (HBq.out.mono HBc.out.size))) Htl.out (Htr.out _ fun b hb1 hb2 => hg.block b hb2 (fun e => by have e2 : b = wq0.heap.size := Option.some.inj e; have := Hzl.out; omega)))); obtain ⟨ya1, yc1, rfl, -⟩ := htab.shape; have HTB := Lib.hid htab; clear hn hg hb htab)
  replace HBc := Lib.hid (HBc.out.trans (HBq.out.mono HBc.out.size))
  replace HTA := Lib.hid (Tabs.frame _ _ _ _ HTA.out HBq.out)
  clear HBm HNm HTm HBq Hzl Hzm Htl Htr Hlt
  obtain ⟨nA, hnA⟩ : ∃ n, n = LA.length := ⟨_, rfl⟩
  have HnA := Lib.hid hnA
  have hlA := HlA.out
  have HTA' := Lib.hid (show Tabs wq1 (.slice ya0 nA yc0) LA from by rw [hnA]; exact HTA.out)
  rw [← hnA] at hlA ⊢
  clear hnA HTA
  obtain ⟨nB, hnB⟩ : ∃ n, n = LB.length := ⟨_, rfl⟩
  have HnB := Lib.hid hnB
  have hlB := HlB.out
  have HTB' := Lib.hid (show Tabs wq1 (.slice ya1 nB yc1) LB from by rw [hnB]; exact HTB.out)
  rw [← hnB] at hlB ⊢
  clear hnB HTB
  have HR0 := Lib.hid (show R = linkL (LA.drop 0) LB from HR.out)
  clear HR HLa HLb HEA HEB HlA HlB HIa HIb hla hlb h2i h3i h2a h2b
  skip
  go_loopg [7] nA (fun g i wr => ∃ (k : Nat), i = .int .i64 k ∧ k + g = nA ∧ Hid (R = linkL (LA.drop k) LB) ∧ Hid (Below wq1.heap.size wq1 wr))
  case atStart => exact ⟨0, rfl, by omega, HR0, Lib.hid (Below.refl _ _)⟩
  case round =>
    clear HR0
    obtain ⟨k, rfl, hk, HR, HB⟩ := hrel
    obtain ⟨wk, rfl⟩ : ∃ x, x = wr := ⟨_, rfl⟩
    by_cases hkn : k < nA
    · have hki : (k : Int) < (nA : Int) := by omega
      obtain ⟨g, rfl⟩ : ∃ x, gk = x + 1 := ⟨gk - 1, by omega⟩
      obtain ⟨x, hx, -⟩ := at_lt (xs := LA) (k := k) (by have := HnA.out; omega)
      have HR1 := Lib.hid (show R = ((LB.drop 0).any (fun y => alikeM x y) || linkL (LA.drop (k + 1)) LB) from by rw [HR.out]; exact link_drop hx)
      obtain ⟨b1, o1, c1, xa, xc, hv, hb1, g1, hxT⟩ := HTA'.out.tabAt hx
      simp only [Value.slice.injEq] at hv
      obtain ⟨rfl, -, rfl⟩ := hv
      have HxT := Lib.hid hxT
      generalize x.length = xl at *
      clear hxT HR hx
      go_wp2
      go_loopg [8] nB (fun g2 i wr => ∃ (j : Nat), i = .int .i64 j ∧ j + g2 = nB ∧ Hid (R = ((LB.drop j).any (fun y => alikeM x y) || linkL (LA.drop (k + 1)) LB)) ∧ Hid (Below wq1.heap.size wq1 wr))
      case atStart => exact ⟨0, rfl, by omega, HR1, HB⟩
      case round =>
        clear HR1 HB
        obtain ⟨j, rfl, hj, HR, HB⟩ := hrel
        obtain ⟨wj, rfl⟩ : ∃ x, x = wr := ⟨_, rfl⟩
        by_cases hjn : j < nB
        · have hji : (j : Int) < (nB : Int) := by omega
          obtain ⟨g2, rfl⟩ : ∃ x, gk = x + 1 := ⟨gk - 1, by omega⟩
          obtain ⟨y, hy, -⟩ := at_lt (xs := LB) (k := j) (by have := HnB.out; omega)
          have HR1 := Lib.hid (show R = ((alikeM x y || (LB.drop (j + 1)).any (fun y => alikeM x y)) || linkL (LA.drop (k + 1)) LB) from by rw [HR.out, any_drop hy])
          obtain ⟨b2, o2, c2, pa, pc, hv, hb2, g2', hyT⟩ := HTB'.out.tabAt hy
          simp only [Value.slice.injEq] at hv
          obtain ⟨rfl, -, rfl⟩ := hv
          have HyT := Lib.hid hyT
          generalize y.length = yl at *
          have HC := Lib.hid (fun (w2 : World) (hb : Below wq1.heap.size wq1 w2) => spec_AreAlike_c (Tab.frame _ _ _ _ HxT.out hb) (Tab.frame _ _ _ _ HyT.out hb))
          generalize hal : alikeM x y = al at HC HR1
          clear hal hyT HR hy HyT
          have hS0 : wj.cell? ⟨b1, o1 + k, none⟩ = some (.slice xa xl xc) ∧ wj.cell? ⟨b2, o2 + j, none⟩ = some (.slice pa yl pc) := ⟨(HB.out.cell (p := ⟨b1, o1 + k, none⟩) hb1).trans g1, (HB.out.cell (p := ⟨b2, o2 + j, none⟩) hb2).trans g2'⟩
          have hSd : wj.drew.cell? ⟨b1, o1 + k, none⟩ = some (.slice xa xl xc) ∧ wj.drew.cell? ⟨b2, o2 + j, none⟩ = some (.slice pa yl pc) := hS0
          have HS := Lib.hid (fun (wz : World) (hb3 : Below wq1.heap.size wq1 wz) => (show wz.cell? ⟨b1, o1 + k, none⟩ = some (.slice xa xl xc) ∧ wz.cell? ⟨b2, o2 + j, none⟩ = some (.slice pa yl pc) from ⟨(hb3.cell (p := ⟨b1, o1 + k, none⟩) hb1).trans g1, (hb3.cell (p := ⟨b2, o2 + j, none⟩) hb2).trans g2'⟩))
          have HC1 := Lib.hid (HC.out _ HB.out.drew)
          have HB1 := Lib.hid HB.out.drew
          clear HC
          go_wp2
          go_region_held3 (fun w' => w'.cell? ⟨b1, o1 + k, none⟩ = some (.slice xa xl xc) ∧ w'.cell? ⟨b2, o2 + j, none⟩ = some (.slice pa yl pc))
            (first | with_reducible exact hS1 | with_reducible exact hSd | with_reducible exact hS0 | go_keep)
            ((first
              | (go_at_call 102; (with_reducible refine HC1.out.mono ?_); rintro e w4 ⟨rfl, hb⟩; have HB4 := Lib.hid (HB1.out.trans (hb.mono HB1.out.size)); have hS1 := HS.out _ HB4.out; clear hb)
              | fail))
          clear hS0 hSd hS1 HS HC1 HB1 HB
          cases al with
          | true =>
            have HF := Lib.hid (show R = true from by rw [HR1.out]; rfl)
            clear HR1
            go_wp2
            go_ret
            exact ⟨by rw [HF.out]; rfl, HBc.out.trans (HB4.out.mono HBc.out.size)⟩
          | false =>
            have HR2 := Lib.hid (show R = ((LB.drop (j + 1)).any (fun y => alikeM x y) || linkL (LA.drop (k + 1)) LB) from by rw [HR1.out]; rfl)
            clear HR1
            go_wp2
            go_roundg g2
            case measure => omega
            case rel => exact ⟨j + 1, by go_num, by omega, HR2, HB4⟩
        · have hji : ¬ ((j : Int) < (nB : Int)) := by omega
          have HR2 := Lib.hid (show R = linkL (LA.drop (k + 1)) LB from by rw [HR.out, drop_len (by have := HnB.out; omega)]; rfl)
          clear HR
          go_wp2
          go_roundg g
          case measure => omega
          case rel => exact ⟨k + 1, by go_num, by omega, HR2, HB⟩
    · have hki : ¬ ((k : Int) < (nA : Int)) := by omega
      have HF := Lib.hid (show R = false from by rw [HR.out, drop_len (by have := HnA.out; omega)]; rfl)
      clear HR
      go_wp2
      go_ret
      exact ⟨by rw [HF.out]; rfl, HBc.out.trans (HB.out.mono HBc.out.size)⟩
end Go.Proofs.Ytdohepngandajaa
