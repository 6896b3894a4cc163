/-
  Texts of this claim joined: laws for its walks, contracts of the functions that the law reaches.
-/
import Derived.Test.YtlkgkfgpnnahdaaFnLagsM10
import Derived.Test.YtlkgkfgpnnahdaaFnLagsM11
import Derived.Test.YtlkgkfgpnnahdaaFnLagsM15
import Derived.Test.YtlkgkfgpnnahdaaFnLagsM13
import Derived.Test.YtlkgkfgpnnahdaaFnLagsM14
import Derived.Test.YtlkgkfgpnnahdaaFnLagsM3
import Derived.Test.YtlkgkfgpnnahdaaFnLagsM16
import Derived.OwnWalk
section
/-
  The draw of a chain of steps.
-/
namespace Go.Sd
open Go.RowKit Go.Deep
/-- A thing that lies nowhere. -/
def Res.none : Res := ⟨fun _ F => F = [], fun _ _ _ h _ => h, fun _ F h b hb => by rw [h] at hb; cases hb⟩
/-- Two things that are made besides, apart from each other. -/
theorem Sep.new2 {α β : Type} {R : OwnRel α} {S : OwnRel β} (hR : Held R) (hS : Held S) {lo : Nat} {w w' : World} {rs : List Res} (h : Sep lo w rs) (hb : Below w.heap.size w w') (hlo : lo ≤ w.heap.size) {v u : Value} {x : α} {y : β} (hn : Apart R S w.heap.size w' v x u y) : Sep lo w' (Res.of R hR v x :: Res.of S hS u y :: rs) := by
  obtain ⟨F, G, hF, hG, fF, fG, hd⟩ := hn
  obtain ⟨H, h1, h2, h3⟩ := h
  have h4 := h1.lt
  refine ⟨F ++ (G ++ H), ⟨F, _, rfl, hF, G, H, rfl, hG, h1.keep fun b hm => hb.block b (h4 b hm)⟩, List.nodup_append.2 ⟨fF.1, List.nodup_append.2 ⟨fG.1, h2, fun p hp q hq e => ?_⟩, fun p hp q hq e => ?_⟩, fun b hm => ?_⟩
  · subst e
    have := fG.2 p hp
    have := h4 p hq
    omega
  · subst e
    rcases List.mem_append.1 hq with hq | hq
    · exact hd p hp hq
    · have := fF.2 p hp
      have := h4 p hq
      omega
  · rcases List.mem_append.1 hm with hm | hm
    · exact Nat.le_trans hlo (fF.2 b hm)
    · rcases List.mem_append.1 hm with hm | hm
      · exact Nat.le_trans hlo (fG.2 b hm)
      · exact h3 b hm
end Go.Sd
namespace Go.Proofs.Ytlkgkfgpnnahdaa
open Go.RowKit Go.Deep Go.Sd
set_option linter.unusedSimpArgs false
/-! Matrices of numbers from 0 to 9. -/
def NineT (m : Tb) : Prop := Sq m.length m ∧ ∀ i j, i < m.length → j < m.length → 0 ≤ ent m i j ∧ ent m i j ≤ 9
theorem NineT.nil : NineT [] := ⟨⟨rfl, fun r hr => by cases hr⟩, fun i j hi => by simp at hi⟩
theorem bd_ent {m : Tb} {B : Int} {r : Nat} (hr : ∀ x, x ∈ m → x.length = r) (h : ∀ i j, i < m.length → j < r → -B ≤ ent m i j ∧ ent m i j ≤ B) : Bd B m := by
  intro x hx y hy
  obtain ⟨i, hi⟩ := List.getElem?_of_mem hx
  obtain ⟨j, hj⟩ := List.getElem?_of_mem hy
  have h1 := (List.getElem?_eq_some_iff.1 hi).1
  have h2 := (List.getElem?_eq_some_iff.1 hj).1
  have h3 := h i j h1 (by rw [← hr x hx]; exact h2)
  have e : ent m i j = y := by simp [ent, List.getD, hi, hj]
  rw [e] at h3
  exact h3
theorem NineT.bd {m : Tb} (h : NineT m) : Bd 9 m := bd_ent h.1.2 fun i j hi hj => by have := h.2 i j hi hj; omega
theorem bd_tabOf {p r : Nat} {B : Int} {f : Nat → Nat → Int} (h : ∀ i j, i < p → j < r → -B ≤ f i j ∧ f i j ≤ B) : Bd B (tabOf p r f) := by
  intro x hx y hy
  obtain ⟨i, hi, rfl⟩ := List.mem_map.1 hx
  obtain ⟨j, hj, rfl⟩ := List.mem_map.1 hy
  exact h i j (List.mem_range.1 hi) (List.mem_range.1 hj)
theorem bd_nil (B : Int) : Bd B [] := fun r hr => by cases hr
theorem split_nine {m : Tb} (hm : NineT m) (i : Int) (P : List Int) : NineT (splitV m i P) ∧ Bd 9 (pairRV m i P) ∧ Bd 9 (pairSV m i P) := by
  cases h : splitOk m i P with
  | false =>
    have e : splitV m i P = [] := by unfold splitV; rw [if_neg (by rw [h]; simp)]
    rw [e, pairRV_no h, pairSV_no h]
    exact ⟨NineT.nil, bd_nil 9, bd_nil 9⟩
  | true =>
    obtain ⟨I, n, hi, hn, hI, h8, hP, e1, e2, e3⟩ := splitOk_of h
    have h0 := h
    unfold splitOk at h0
    simp only [Bool.and_eq_true, decide_eq_true_eq] at h0
    have hI2 : i.toNat = I := by omega
    rw [hI2, hn] at h0
    have hp := partOk_of h0.1.1 hn hI h0.2
    have h9 := hm.2
    rw [hn] at h9
    have hR : ∀ A B, A < n + 1 → B < n → 0 ≤ splitR m I P n A B ∧ splitR m I P n A B ≤ 9 := fun A B hA hB => by
      have q1 := hp B hB
      have q2 := h9 I B hI hB
      unfold splitR
      split
      · omega
      · split
        · omega
        · exact h9 A B (by omega) hB
    rw [e1, e2, e3]
    refine ⟨⟨by rw [splitT_len]; exact splitT_sq m I P n, fun A B hA hB => ?_⟩, bd_tabOf fun A B _ _ => ?_, bd_tabOf fun A B hA hB => ?_⟩
    · rw [splitT_len] at hA hB
      by_cases hB2 : B < n
      · rw [ent_splitT hA hB2]; exact hR A B hA hB2
      · have hj2 : B = n := by omega
        subst hj2
        have e4 : ent (splitT m I P B) A B = splitR m I P B A I := by
          have e5 : (splitT m I P B).getD A [] = rowOf' B (splitR m I P B A) ++ [splitR m I P B A I] := by rw [List.getD_eq_getElem?_getD, splitT_at hA]; rfl
          unfold ent
          rw [e5, List.getD_eq_getElem?_getD, List.getElem?_append_right (by rw [rowOf_len]; exact Nat.le_refl _), rowOf_len, Nat.sub_self]
          rfl
        rw [e4]
        exact hR A I hA hI
    · unfold pairE
      split <;> omega
    · have := hR A B hA hB
      omega
theorem SmallD.nine {m : Tb} (h : SmallD m) : NineT m := by
  have hs := isMat_sq h.1
  refine ⟨hs.1, fun i j hi hj => ?_⟩
  obtain ⟨r, hr, hx⟩ := ent_mem hs.1.2 hi hj
  have h1 := isMat_bd h.1 r hr _ hx
  have h2 := h.2.2 r hr _ hx
  omega
/-! The lists. -/
def scell (y : Tr × Tr) : List Value := [slV y.1, slV y.2]
theorem scell_lay : Lay 2 scell := ⟨by decide, fun _ => rfl, fun x u hu => by
  simp [scell] at hu
  rcases hu with rfl | rfl <;> rfl⟩
abbrev ResTs (v : Value) (ts : List Tr) : Res := Res.of (OwnOf 24 (OValR slV)) (OwnOf.kept slV_kept).held v ts
abbrev ResSt (v : Value) (ys : List (Tr × Tr)) : Res := Res.row 41 2 scell v ys
/-- What the lists stand for. -/
structure ChI (ss : List Res) (ts : List Tr) (ms : List Tb) (ys : List (Tr × Tr)) (zs : List (Tb × Tb)) : Prop where
  tl : ts.length = ms.length
  t : ∀ (i : Nat) (t : Tr) (x : Tb), ts[i]? = some t → ms[i]? = some x → ResM (slV t) x ∈ ss
  yl : ys.length = zs.length
  y : ∀ (i : Nat) (y : Tr × Tr) (z : Tb × Tb), ys[i]? = some y → zs[i]? = some z → ResM (slV y.1) z.1 ∈ ss ∧ ResM (slV y.2) z.2 ∈ ss
  bt : ∀ x, x ∈ ms → Bd 9 x
  bz : ∀ z, z ∈ zs → (Bd 9 z.1 ∧ Bd 9 z.2) ∧ StpSz z
theorem ChI.more {ss : List Res} {ts : List Tr} {ms : List Tb} {ys : List (Tr × Tr)} {zs : List (Tb × Tb)} (h : ChI ss ts ms ys zs) (qs : List Res) : ChI (qs ++ ss) ts ms ys zs :=
  ⟨h.tl, fun i t x h1 h2 => List.mem_append_right _ (h.t i t x h1 h2), h.yl, fun i y z h1 h2 => ⟨List.mem_append_right _ (h.y i y z h1 h2).1, List.mem_append_right _ (h.y i y z h1 h2).2⟩, h.bt, h.bz⟩
theorem snoc_at {α : Type} {l : List α} {x y : α} {i : Nat} (h : (l ++ [x])[i]? = some y) : l[i]? = some y ∨ (i = l.length ∧ y = x) := by
  by_cases hi : i < l.length
  · rw [List.getElem?_append_left hi] at h
    exact Or.inl h
  · rw [List.getElem?_append_right (by omega)] at h
    have h1 := (List.getElem?_eq_some_iff.1 h).1
    simp at h1
    have : i = l.length := by omega
    subst this
    simp at h
    exact Or.inr ⟨rfl, h.symm⟩
theorem ChI.push {ss : List Res} {ts : List Tr} {ms : List Tb} {ys : List (Tr × Tr)} {zs : List (Tb × Tb)} (h : ChI ss ts ms ys zs) {t : Tr} {m : Tb} {y : Tr × Tr} {z : Tb × Tb} (h1 : ResM (slV t) m ∈ ss) (h2 : ResM (slV y.1) z.1 ∈ ss) (h3 : ResM (slV y.2) z.2 ∈ ss) (b1 : Bd 9 m) (b2 : (Bd 9 z.1 ∧ Bd 9 z.2) ∧ StpSz z) :
    ChI ss (ts ++ [t]) (ms ++ [m]) (ys ++ [y]) (zs ++ [z]) := by
  refine ⟨by simp [h.tl], fun i t' x ht hx => ?_, by simp [h.yl], fun i y' z' hy hz => ?_, fun x hx => ?_, fun z' hz => ?_⟩
  · rcases snoc_at ht with e1 | ⟨e1, rfl⟩ <;> rcases snoc_at hx with e2 | ⟨e2, rfl⟩
    · exact h.t i t' x e1 e2
    · have := (List.getElem?_eq_some_iff.1 e1).1; have := h.tl; omega
    · have := (List.getElem?_eq_some_iff.1 e2).1; have := h.tl; omega
    · exact h1
  · rcases snoc_at hy with e1 | ⟨e1, rfl⟩ <;> rcases snoc_at hz with e2 | ⟨e2, rfl⟩
    · exact h.y i y' z' e1 e2
    · have := (List.getElem?_eq_some_iff.1 e1).1; have := h.yl; omega
    · have := (List.getElem?_eq_some_iff.1 e2).1; have := h.yl; omega
    · exact ⟨h2, h3⟩
  · rcases List.mem_append.1 hx with hx | hx
    · exact h.bt x hx
    · simp at hx; subst hx; exact b1
  · rcases List.mem_append.1 hz with hz | hz
    · exact h.bz z' hz
    · simp at hz; subst hz; exact b2
theorem tab_get {lo : Nat} {w : World} {rs : List Res} (h : Sep lo w rs) {v : Value} {m : Tb} (hm : ResM v m ∈ rs) : Tab w v m := by
  obtain ⟨G, hG, -⟩ := h.get hm
  have hG' : OTab 3 33 w v m G := hG
  exact hG'.reads
theorem tabs_get {lo : Nat} {w : World} {rs : List Res} (h : Sep lo w rs) {v : Value} {ts : List Tr} {ms : List Tb} {ys : List (Tr × Tr)} {zs : List (Tb × Tb)} (hL : ResTs v ts ∈ rs) (hI : ChI rs ts ms ys zs) : Tabs w v ms := by
  obtain ⟨G, hG, -⟩ := h.get hL
  have hG' : OwnOf 24 (OValR slV) w v ts G := hG
  exact vals_tabs (OwnOf.reads (R' := ValR slV) (fun _ _ _ _ h => h.1) hG') hI.tl fun i t x ht hx => tab_get h (hI.t i t x ht hx)
theorem stps_get {lo : Nat} {w : World} {rs : List Res} {v : Value} {ts : List Tr} {ms : List Tb} {ys : List (Tr × Tr)} {zs : List (Tb × Tb)} (h : Sep lo w (ResSt v ys :: rs)) (hI : ChI rs ts ms ys zs) (hl : zs.length ≤ 1000) : StpsR w v zs := by
  obtain ⟨a, c, rfl⟩ := (h.headNew).rowSlice
  by_cases h0 : 0 < ys.length
  · obtain ⟨g, c', hv, hc1, hc2, -, hg, hx⟩ := (h.headNew).rowAt scell_lay h0
    simp only [Value.slice.injEq] at hv
    obtain ⟨rfl, -, rfl⟩ := hv
    refine ⟨by omega, _, c, by rw [hI.yl], by rw [← hI.yl]; exact hc1, by have : c ≤ maxLen := hc2; unfold maxLen at this; omega, by simp, fun _ => ⟨g, 0, rfl, hg, fun i z hz => ?_⟩⟩
    have hi := (List.getElem?_eq_some_iff.1 hz).1
    have hiy : i < ys.length := by rw [hI.yl]; exact hi
    have hy : ys[i]? = some ys[i] := List.getElem?_eq_getElem hiy
    have q := hI.y i _ z hy hz
    have t0 := (hx i _ 0 _ hy rfl).1
    have t1 := (hx i _ 1 _ hy rfl).1
    exact ⟨slV ys[i].1, slV ys[i].2, by simpa using t0, by simpa using t1, tab_get h.tail q.1, tab_get h.tail q.2⟩
  · have e : ys = [] := List.eq_nil_of_length_eq_zero (by omega)
    subst e
    have e2 : zs = [] := List.eq_nil_of_length_eq_zero (by rw [← hI.yl]; rfl)
    subst e2
    obtain ⟨F, hF, -⟩ := h.headNew
    have hF' : RowG 41 2 scell w (.slice a [].length c) [] F := hF
    obtain ⟨⟨-, ho⟩, -⟩ := hF'
    rcases ho with ⟨hv, -⟩ | ⟨b, cap, cur, hv, -, hg, hnc, hcm, hcs, -⟩
    · simp only [Value.slice.injEq] at hv
      obtain ⟨rfl, -, rfl⟩ := hv
      exact ⟨by simp, none, 0, rfl, by simp, by simp, by simp, by simp⟩
    · simp only [Value.slice.injEq] at hv
      obtain ⟨rfl, -, rfl⟩ := hv
      exact ⟨by simp, _, c, rfl, by simp, by have : c ≤ maxLen := hcm; unfold maxLen at this; omega, by simp, by simp⟩
theorem l1Below_any {lo : Nat} {w : World} {cb : Nat} {K : Value} {xs : List Int} {rs : List Res} {N : Nat} (hK : ∀ w', Below lo w w' → BytR w' K xs) (hc : Cur lo w cb K xs.length rs) (hlo : lo ≤ w.heap.size) (hN2 : N ≤ 256) :
    Calls Try.prog 92 #[.pointer (some ⟨cb, 0, none⟩), .int .i64 N] w fun e w' => ∃ x : Nat, e = .returned (.int .i64 x) ∧ (0 < N → x < N) ∧ Cur lo w' cb K xs.length rs ∧ Below lo w w' := by
  by_cases h0 : N = 0
  · subst h0
    refine (l1Below_zero (N := ((0 : Nat) : Int)) (by decide)).mono ?_
    rintro e w' ⟨rfl, rfl⟩
    exact ⟨0, rfl, by omega, hc, Below.refl _ _⟩
  · refine (l1Below_c hK hc hlo (by omega) hN2).mono ?_
    rintro e w' ⟨x, rfl, hx, hc', hb, -⟩
    exact ⟨x, rfl, fun _ => hx, hc', hb⟩
/-- A chain drawn. -/
def ChP (w' : World) (v1 v2 : Value) : Prop := ∃ (ms : List Tb) (zs : List (Tb × Tb)), (zs.length ≤ 2 ∧ (∀ x, x ∈ ms → Bd 9 x) ∧ ∀ z, z ∈ zs → Bd 9 z.1 ∧ Bd 9 z.2) ∧ Tabs w' v1 ms ∧ StpsR w' v2 zs
theorem ch_done {lo : Nat} {w : World} {cb : Nat} {K : Value} {n : Nat} {ss : List Res} {sv lv : Value} {ts : List Tr} {ms : List Tb} {ys : List (Tr × Tr)} {zs : List (Tb × Tb)} (hc : Cur lo w cb K n (ResSt sv ys :: ResTs lv ts :: ss)) (hI : ChI ss ts ms ys zs) (hl : ys.length ≤ 2) : ChP w lv sv := by
  obtain ⟨i, z, -, hs⟩ := hc
  have hzl : zs.length ≤ 2 := by rw [← hI.yl]; exact hl
  exact ⟨ms, zs, ⟨hzl, hI.bt, fun z hz => (hI.bz z hz).1⟩, tabs_get hs (by simp) (hI.more [Res.box cb [K, .int .i64 i, .int .i64 z], ResSt sv ys, ResTs lv ts]), stps_get hs.swap (hI.more [Res.box cb [K, .int .i64 i, .int .i64 z], ResTs lv ts]) (by omega)⟩
/-- The first step stored anew. -/
theorem ch_turn {lo : Nat} {w : World} {cb : Nat} {K : Value} {n : Nat} {ss : List Res} {lv : Value} {g sc : Nat} {ts : List Tr} {ms : List Tb} {ys : List (Tr × Tr)} {zs : List (Tb × Tb)} (hc : Cur lo w cb K n (ResSt (.slice (some ⟨g, 0, none⟩) ys.length sc) ys :: ResTs lv ts :: ss)) (hI : ChI ss ts ms ys zs) (hl : ys.length ≤ 2) (hlo : lo ≤ w.heap.size) (h0 : 0 < ys.length)
    {r1 r2 : Value} {z0 : Tb × Tb} (hz0 : zs[0]? = some z0) (t1 : Far (g + 1) w r1 z0.2) (t2 : Far (g + 1) w r2 z0.1) :
    ChP ((w.setCell ⟨g, 0, none⟩ r1).setCell ⟨g, 1, none⟩ r2) lv (.slice (some ⟨g, 0, none⟩) ys.length sc) := by
  obtain ⟨i, z, -, hs⟩ := hc
  have hzl : zs.length ≤ 2 := by rw [← hI.yl]; exact hl
  obtain ⟨g', c', hv, hc1, hc2, -, hg, hx⟩ := (hs.swap.headNew).rowAt scell_lay h0
  simp only [Value.slice.injEq, Option.some.injEq, Addr.mk.injEq] at hv
  obtain ⟨⟨rfl, -⟩, -, rfl⟩ := hv
  obtain ⟨G, hG, hfr, hK⟩ := hs.swap.head
  have hG' : RowG 41 2 scell w (.slice (some ⟨g, 0, none⟩) ys.length sc) ys G := hG
  obtain ⟨-, rfl⟩ := hG'
  have ho : Off [g] w ((w.setCell ⟨g, 0, none⟩ r1).setCell ⟨g, 1, none⟩ r2) := (Off.setCell (p := ⟨g, 0, none⟩) (by simp) _).trans (Off.setCell (p := ⟨g, 1, none⟩) (by simp) _)
  have hs2 := hK ((w.setCell ⟨g, 0, none⟩ r1).setCell ⟨g, 1, none⟩ r2) Res.none [] rfl (by simp) (by simp) hlo (fun b hb hn => ho.block b hb (by simpa [Value.ownBlock] using hn))
  have hF : ∀ b, b ∈ [g] → b < g + 1 := by simp
  have hy0 : ys[0]? = some ys[0] := List.getElem?_eq_getElem h0
  have k0 := (hx 0 _ 0 _ hy0 rfl).1
  have k1 := (hx 0 _ 1 _ hy0 rfl).1
  simp only [Nat.zero_mul, Nat.zero_add] at k0 k1
  have hz00 : 0 < zs.length := by rw [← hI.yl]; exact h0
  refine ⟨ms, zs.set 0 (z0.2, z0.1), ⟨by rw [List.length_set]; exact hzl, hI.bt, fun q hq => ?_⟩, tabs_get hs2 (by simp) (hI.more [Res.none, Res.box cb [K, .int .i64 i, .int .i64 z], ResTs lv ts]), ?_⟩
  · rcases List.mem_or_eq_of_mem_set hq with h1 | h1
    · exact (hI.bz q h1).1
    · rw [h1]
      have := (hI.bz z0 (List.mem_of_getElem? hz0)).1
      exact ⟨this.2, this.1⟩
  · refine ⟨by rw [List.length_set]; omega, _, sc, by rw [List.length_set, hI.yl], by rw [List.length_set, ← hI.yl]; exact hc1, by have : sc ≤ maxLen := hc2; unfold maxLen at this; omega, by simp, fun _ => ⟨g, 0, rfl, by simpa using hg, fun j q hq => ?_⟩⟩
    by_cases hj : j = 0
    · subst hj
      rw [List.getElem?_set_self hz00] at hq
      obtain rfl := Option.some.inj hq
      refine ⟨r1, r2, ?_, ?_, (t1.off ho hF).tab, (t2.off ho hF).tab⟩
      · simp only [Nat.zero_mul, Nat.add_zero]
        exact (World.cell?_setCell_other _ _ _ _ (by simp)).trans (World.cell?_setCell_same _ _ _ k0)
      · simp only [Nat.zero_mul, Nat.zero_add]
        exact World.cell?_setCell_same _ _ _ ((World.cell?_setCell_other _ _ _ _ (by simp)).trans k1)
    · rw [List.getElem?_set_ne (Ne.symm hj)] at hq
      have hji := (List.getElem?_eq_some_iff.1 hq).1
      have hjy : j < ys.length := by rw [hI.yl]; exact hji
      have hy : ys[j]? = some ys[j] := List.getElem?_eq_getElem hjy
      have q2 := hI.y j _ q hy hq
      have u0 := (hx j _ 0 _ hy rfl).1
      have u1 := (hx j _ 1 _ hy rfl).1
      refine ⟨slV ys[j].1, slV ys[j].2, ?_, ?_, tab_get hs2 (List.mem_cons_of_mem _ (List.mem_cons_of_mem _ (List.mem_cons_of_mem _ q2.1))), tab_get hs2 (List.mem_cons_of_mem _ (List.mem_cons_of_mem _ (List.mem_cons_of_mem _ q2.2)))⟩
      · rw [Nat.zero_add]
        exact ((World.cell?_setCell_other _ _ _ _ (by first | (simp; done) | (simp; omega))).trans (World.cell?_setCell_other _ _ _ _ (by first | (simp; done) | (simp; omega)))).trans u0
      · rw [Nat.zero_add]
        exact ((World.cell?_setCell_other _ _ _ _ (by first | (simp; done) | (simp; omega))).trans (World.cell?_setCell_other _ _ _ _ (by first | (simp; done) | (simp; omega)))).trans u1
set_option maxHeartbeats 8000000 in
set_option maxRecDepth 100000 in
theorem DrawIsChain_c {w : World} {vc : Value} {xs : List Int} (h : BytR w vc xs) :
    Calls Try.prog 115 #[vc] w fun e w' => ∃ v1 v2 : Value, e = .returned (.tuple #[v1, v2]) ∧ ChP w' v1 v2 ∧ Below w.heap.size w w' := by
  have HN := Lib.hid (l1New_c h)
  have HK := Lib.hid (fun w' (hb : Below w.heap.size w w') => BytR.frame _ _ _ _ h hb)
  obtain ⟨a, c, rfl, -⟩ := h.cellsB
  clear h
  go_enter Try.func115, Try.ntmps115
  go_wp2_with fail
  (with_reducible refine HN.out.mono ?_)
  rintro e w1 ⟨rfl, ⟨hh, hs⟩, hb⟩
  have HB := Lib.hid hb
  have HD := Lib.hid (show Calls Try.prog 165 #[.pointer (some ⟨w.heap.size, 0, none⟩), .int .i64 2] w1 _ from l4Draw_c (most := 2) (lo := w.heap.size) (cb := w.heap.size) (rs := []) (K := .slice a xs.length c) (xs := xs) (fun w' hb' => HK.out w' (hb.trans hb')) ⟨0, hh, Nat.zero_le _, hs⟩ hb.size (by omega) (by omega))
  clear hs hb HN
  go_wp2_with fail
  (with_reducible refine HD.out.mono ?_)
  rintro e w2 ⟨v0, rfl, m0, hm, hc, hb⟩
  have HB2 := Lib.hid (HB.out.trans hb)
  have hz2 : w.heap.size ≤ w2.heap.size := HB2.out.size
  have hn0 := hm.nine
  have hm4 := hm.2.1
  obtain ⟨a0, c0, rfl, -⟩ := (hc.out.headNew).tab.shape
  generalize hnm : m0.length = n0 at hc hm4 ⊢
  have Hnm := Lib.hid hnm
  have Hn0 := Lib.hid hn0
  clear hm hb HB HD hnm hn0
  obtain ⟨w3, e3, hb3⟩ : ∃ y, w2.alloc (.cells #[.slice a0 n0 c0] 24) = y ∧ Below w2.heap.size w2 y := ⟨_, rfl, (Below.refl _ _).alloc (Nat.le_refl _) _⟩
  have hnL : New (OwnOf 24 (OValR slV)) w2.heap.size w3 (.slice (some ⟨w2.heap.size, 0, none⟩) 1 1) [(a0, n0, c0)] := by
    rw [← e3]
    exact New.oneG slV_kept ⟨[], ⟨rfl, rfl⟩, by simp [Fresh]⟩ (Nat.le_refl _)
  have hc3 := hc.new (OwnOf.kept slV_kept).held hb3 hz2 hnL
  have hz3 : w.heap.size ≤ w3.heap.size := Nat.le_trans hz2 hb3.size
  obtain ⟨w4, e4, hb4⟩ : ∃ y, w3.alloc (.cells #[] 41) = y ∧ Below w3.heap.size w3 y := ⟨_, rfl, (Below.refl _ _).alloc (Nat.le_refl _) _⟩
  have hnS : New (RowG 41 2 scell) w3.heap.size w4 (.slice (some ⟨w3.heap.size, 0, none⟩) 0 0) [] := by
    rw [← e4]
    exact ⟨[w3.heap.size], ⟨⟨by simp, .inr ⟨w3.heap.size, 0, #[], rfl, Nat.zero_le _, heap_alloc_new w3 _, Nat.le_refl _, by simp [maxLen], by simp, by simp⟩⟩, by simp [Value.ownBlock]⟩, by simp [Fresh]⟩
  have HC4 := Lib.hid (show Cur w.heap.size w4 w.heap.size (.slice a xs.length c) xs.length (ResSt (.slice (some ⟨w3.heap.size, 0, none⟩) 0 0) [] :: ResTs (.slice (some ⟨w2.heap.size, 0, none⟩) 1 1) [(a0, n0, c0)] :: [ResM (.slice a0 n0 c0) m0]) from hc3.new RowG.held hb4 hz3 hnS)
  have HB4 := Lib.hid ((HB2.out.trans (hb3.mono hz2)).trans (hb4.mono hz3))
  have HI4 := Lib.hid (show ChI [ResM (.slice a0 n0 c0) m0] [(a0, n0, c0)] [m0] [] [] from ⟨rfl, fun i t x ht hx => by
    cases i with
    | zero =>
      simp at ht hx
      subst ht hx
      simp [slV]
    | succ i => simp at ht, rfl, fun i y z hy => by simp at hy, fun x hx => by simp at hx; subst hx; exact Hn0.out.bd, fun z hz => by simp at hz⟩)
  have HM4 := Lib.hid (show ResM (.slice a0 n0 c0) m0 ∈ [ResM (.slice a0 n0 c0) m0] from by simp)
  have HP := Lib.hid (l1Below_i (z := 3) (fun w' hb' => HK.out w' (HB4.out.trans hb')) HC4.out HB4.out.size (by decide) (by decide))
  clear hc hb3 hnL hc3 hz3 hb4 hnS HB2 hz2
  go_wp2_with fail
  (with_reducible refine HP.out.mono ?_)
  rintro e w5 ⟨kk, rfl, hkk, hc, hb, -⟩
  have hkk3 : kk ≤ 2 := by have : kk < 3 := hkk; omega
  have HC5 := Lib.hid hc
  have HB5 := Lib.hid (HB4.out.trans hb)
  clear hc hb HP hkk HC4 HB4 e3 e4
  go_wp2
  go_loopg [5, 6, 7, 8] kk (fun g mv lv sv kv wr => ∃ (k : Nat) (ma : Option Addr) (mn mc : Nat) (la : Option Addr) (ln lc : Nat) (sa : Option Addr) (sn sc : Nat) (m : Tb) (ts : List Tr) (ms : List Tb) (ys : List (Tr × Tr)) (zs : List (Tb × Tb)) (ss : List Res), mv = .slice ma mn mc ∧ lv = .slice la ln lc ∧ sv = .slice sa sn sc ∧ kv = .int .i64 k ∧ Hid (k = g) ∧ sn + k ≤ 2 ∧ Hid (ln = sn + 1) ∧ mn ≤ 4 + sn ∧ Hid (m.length = mn ∧ NineT m ∧ ts.length = ln ∧ ys.length = sn) ∧ Hid (ResM (.slice ma mn mc) m ∈ ss) ∧ Hid (ChI ss ts ms ys zs) ∧ Hid (Cur w.heap.size wr w.heap.size (.slice a xs.length c) xs.length (ResSt (.slice sa sn sc) ys :: ResTs (.slice la ln lc) ts :: ss)) ∧ Hid (Below w.heap.size w wr))
  case atStart => exact ⟨kk, a0, n0, c0, _, 1, 1, _, 0, 0, m0, _, _, _, _, _, rfl, rfl, rfl, rfl, Lib.hid rfl, by omega, Lib.hid rfl, hm4, Lib.hid ⟨Hnm.out, Hn0.out, rfl, rfl⟩, HM4, HI4, HC5, HB5⟩
  case round =>
    clear HI4 HM4 HC5 HB5 Hnm Hn0 hm4 hkk3
    obtain ⟨k, ma, mn, mc, la, ln, lc, sa, sn, sc, m, ts, ms, ys, zs, ss, rfl, rfl, rfl, rfl, hkg, hsn, hln, hmn, HL, HM, HI, HC, HB⟩ := hrel
    obtain ⟨wB, rfl⟩ : ∃ x, x = wr := ⟨_, rfl⟩
    have hz : w.heap.size ≤ wB.heap.size := HB.out.size
    by_cases hk0 : 0 < k
    · have hki : (k : Int) > 0 := by omega
      obtain ⟨g, rfl⟩ : ∃ x, gk = x + 1 := ⟨gk - 1, by have := hkg.out; omega⟩
      have hln3 : ln ≤ 3 := by have := hln.out; omega
      have HP := Lib.hid (l1Below_any (N := mn) (fun w' hb' => HK.out w' (HB.out.trans hb')) HC.out hz (by omega))
      go_wp2_with fail
      (with_reducible refine HP.out.mono ?_)
      rintro e w2 ⟨i, rfl, hi, hc, hb⟩
      have HB2 := Lib.hid (HB.out.trans hb)
      have hz2 : w.heap.size ≤ w2.heap.size := HB2.out.size
      have HC2 := Lib.hid (hc.new (OInts.kept 3).held ((Below.refl w2.heap.size w2).alloc (Nat.le_refl _) (.cells #[] 3)) hz2 (New.empty w2 (Nat.le_refl _)))
      have HBa := Lib.hid (HB2.out.alloc hz2 (.cells #[] 3))
      have Hi := Lib.hid hi
      clear hc hb HP HC HB hz HB2 hi
      go_wp2
      go_loopg [10, 11] mn (fun g2 pv jv wr => ∃ (j : Nat) (pa : Option Addr) (pc : Nat) (P : List Int), pv = .slice pa j pc ∧ jv = .int .i64 j ∧ j + g2 = mn ∧ Hid (P.length = j) ∧ Hid (Cur w.heap.size wr w.heap.size (.slice a xs.length c) xs.length (Res.ints 3 (.slice pa j pc) P :: ResSt (.slice sa sn sc) ys :: ResTs (.slice la ln lc) ts :: ss)) ∧ Hid (Below w.heap.size w wr))
      case atStart => exact ⟨0, _, 0, [], rfl, rfl, by omega, Lib.hid rfl, HC2, HBa⟩
      case round =>
        clear HC2 HBa hz2
        obtain ⟨j, pa, pc, P, rfl, rfl, hj, HPl, HC, HB⟩ := hrel
        obtain ⟨w3, rfl⟩ : ∃ x, x = wr := ⟨_, rfl⟩
        have hz : w.heap.size ≤ w3.heap.size := HB.out.size
        have HMm := Lib.hid (show ResM (.slice ma mn mc) m ∈ Res.ints 3 (.slice pa j pc) P :: ResSt (.slice sa sn sc) ys :: ResTs (.slice la ln lc) ts :: ss from List.mem_cons_of_mem _ (List.mem_cons_of_mem _ (List.mem_cons_of_mem _ HM.out)))
        by_cases hjn : j < mn
        · have hji : (j : Int) < (mn : Int) := by omega
          obtain ⟨g2, rfl⟩ : ∃ x, gk = x + 1 := ⟨gk - 1, by omega⟩
          have hmn0 : 0 < m.length := by rw [HL.out.1]; omega
          have hin : i < mn := Hi.out (by omega)
          obtain ⟨mb, mo, mc', hmv, -, he⟩ := (HC.out.tabOf HMm.out).entAt rfl HL.out.2.1.1.2 hmn0
          simp only [Value.slice.injEq] at hmv
          obtain ⟨rfl, -, rfl⟩ := hmv
          obtain ⟨b', o', c', gr, hb', -, gx⟩ := he.at (i := i) (by rw [HL.out.1]; exact hin) hmn0
          have gxj := gx j (by rw [HL.out.1]; exact hjn)
          have hx0 := HL.out.2.1.2 i j (by rw [HL.out.1]; exact hin) (by rw [HL.out.1]; exact hjn)
          rw [HL.out.1] at gr
          generalize ent m i j = x at gxj hx0
          obtain ⟨hx1, hx9⟩ := hx0
          have hii : (i : Int) < (mn : Int) := by omega
          clear gx he hb' hmn0
          have HP := Lib.hid (l1Below_i (z := x + 1) (fun w' hb => HK.out w' (HB.out.trans hb)) HC.out hz (by omega) (by omega))
          go_wp2_with fail
          (with_reducible refine HP.out.mono ?_)
          rintro e w4 ⟨t, rfl, -, hc, hb, -⟩
          have hz4 : w.heap.size ≤ w4.heap.size := Nat.le_trans hz hb.size
          obtain ⟨pa', pc', w5, hr5, hc5, hb5⟩ := hc.pushInt hz4 (t : Int) (by have := HPl.out; omega)
          rw [HPl.out] at hr5 hc5
          have Hr5 := Lib.hid hr5
          have HC5 := Lib.hid hc5
          have HB5 := Lib.hid ((HB.out.trans hb).trans hb5)
          have HPl5 := Lib.hid (show (P ++ [(t : Int)]).length = j + 1 from by simp [HPl.out])
          clear hc hb hr5 hc5 hb5 HP gxj gr HC HB hx1 hx9
          go_wp2_with (at_builtin; refine wpl_append_run rfl (.tmp 39) (.tmp 50) 33 rfl rfl rfl Hr5.out ?_)
          go_roundg g2
          case measure => omega
          case rel => exact ⟨j + 1, pa', pc', P ++ [(t : Int)], rfl, by go_num, by omega, HPl5, HC5, HB5⟩
        · have hji : ¬ ((j : Int) < (mn : Int)) := by omega
          have HSp := Lib.hid (spec_SplitPair_c (i := (i : Int)) (HC.out.tabOf HMm.out) (HC.out.intsOf (List.mem_cons_self)))
          go_wp2_with fail
          (with_reducible refine HSp.out.mono ?_)
          rintro e w4 ⟨r, s, rfl, hn, hb⟩
          obtain ⟨i0, z0, hi0, hs0⟩ := HC.out
          have hs4 := hs0.new2 (OTab.kept 3 33).held (OTab.kept 3 33).held hb hz hn
          have HS4 := Lib.hid hs4
          have HB4 := Lib.hid (HB.out.trans (hb.mono hz))
          have hz4 : w.heap.size ≤ w4.heap.size := HB4.out.size
          obtain ⟨ra, rc, rfl, -⟩ := (hs4.headNew).tab.shape
          obtain ⟨s1, s2, rfl, -⟩ := (hs4.tail.headNew).tab.shape
          have HSO := Lib.hid (spec_SplitOut_c (i := (i : Int)) (tab_get hs4 (List.mem_cons_of_mem _ (List.mem_cons_of_mem _ (List.mem_cons_of_mem _ HMm.out)))) (show Ints w4 (.slice pa j pc) P from by
            obtain ⟨G, hG, -⟩ := hs4.get (r := Res.ints 3 (.slice pa j pc) P) (by simp)
            have hG' : OInts 3 w4 (.slice pa j pc) P G := hG
            exact hG'.reads))
          have hpn : (pairRV m i P).length ≤ 9 ∧ (pairSV m i P).length ≤ 9 := ⟨(pairRV_bd m i P).1, (pairSV_bd m i P).1⟩
          have HBd := Lib.hid (split_nine HL.out.2.1 (i : Int) P)
          have HSz := Lib.hid (show StpSz (pairRV m i P, pairSV m i P) from ⟨⟨Nat.le_trans (pairRV_bd m i P).1 (by decide), fun r hr => Nat.le_trans ((pairRV_bd m i P).2 r hr) (by decide)⟩, Nat.le_trans (pairSV_bd m i P).1 (by decide), fun r hr => Nat.le_trans ((pairSV_bd m i P).2 r hr) (by decide)⟩)
          obtain ⟨ok, hok⟩ : ∃ ok, ok = splitOk m i P := ⟨_, rfl⟩
          rw [← hok]
          generalize hR : pairRV m i P = R at HS4 HBd HSz hpn HSO ⊢
          generalize hS : pairSV m i P = S at HS4 HBd HSz hpn HSO ⊢
          generalize hrn : R.length = rn at HS4 hpn HSO ⊢
          generalize hsn' : S.length = s0 at HS4 hpn HSO ⊢
          clear hn hb HSp HC HB hz hs4 hs0 hok hR hS hrn hsn'
          go_wp2_with fail
          (with_reducible refine HSO.out.mono ?_)
          rintro e w5 ⟨vm, rfl, hn, hb⟩
          have hs5 := HS4.out.new (OTab.kept 3 33).held hb hz4 hn
          have HB5 := Lib.hid (HB4.out.trans (hb.mono hz4))
          have hz5 : w.heap.size ≤ w5.heap.size := HB5.out.size
          obtain ⟨xa, xc, rfl, -⟩ := hn.tab.shape
          have hVl : (splitV m i P).length ≤ 4 + (sn + 1) := by
            unfold splitV
            split
            · rw [splitT_len, HL.out.1]; omega
            · simp
          have HB9 := Lib.hid HBd.out.1
          generalize hV : splitV m i P = V at hs5 hVl HB9 ⊢
          generalize hvn : V.length = vn at hs5 hVl ⊢
          have Hvn := Lib.hid hvn
          have hsL := Sep.front [ResM (.slice xa vn xc) V, ResM (.slice ra rn rc) R, ResM (.slice s1 s0 s2) S, Res.box w.heap.size [.slice a xs.length c, .int .i64 i0, .int .i64 z0], Res.ints 3 (.slice pa j pc) P, ResSt (.slice sa sn sc) ys] (r := ResTs (.slice la ln lc) ts) (b := ss) hs5
          obtain ⟨v6, w6, hr6, hs6, hb6⟩ := Sep.push (P := Try.prog) slV_kept 49 49 (.slice none 0 0) 24 Try.underlying49 infoT' rfl hsL hz5 (w1 := w5.alloc (.cells #[.slice xa vn xc] 24)) ((Below.refl _ _).alloc (Nat.le_refl _) _) (q := .slice xa vn xc) (x := (xa, vn, xc)) ⟨[], ⟨rfl, rfl⟩, by simp [Fresh]⟩ (bb := w5.heap.size) (c := 1) (World.cell?_alloc_at _ _ _ 0 rfl) (by rw [HL.out.2.2.1]; omega) (by rw [HL.out.2.2.1]; omega)
          have hz6 : w.heap.size ≤ w6.heap.size := Nat.le_trans hz5 hb6.size
          obtain ⟨l6, n6, c6, rfl⟩ := (hs6.headNew).slice
          have e6 : n6 = ln + 1 := by
            obtain ⟨F, hF, -⟩ := hs6.headNew
            obtain ⟨a', c', hv, -⟩ := (OwnOf.reads (R' := ValR slV) (fun _ _ _ _ h => h.1) hF).shape
            simp only [Value.slice.injEq] at hv
            rw [hv.2.1, List.length_append, HL.out.2.2.1]
            rfl
          subst e6
          have hsS := Sep.front [ResTs (.slice l6 (ln + 1) c6) (ts ++ [(xa, vn, xc)]), ResM (.slice xa vn xc) V, ResM (.slice ra rn rc) R, ResM (.slice s1 s0 s2) S, Res.box w.heap.size [.slice a xs.length c, .int .i64 i0, .int .i64 z0], Res.ints 3 (.slice pa j pc) P] (r := ResSt (.slice sa sn sc) ys) (b := ss) hs6
          obtain ⟨v7, w7, hr7, hs7, hb7⟩ := Sep.pushG (P := Try.prog) scell_lay 50 50 (.agg #[.slice none 0 0, .slice none 0 0]) 48 Try.underlying50 infoS rfl hsS hz6 (w1 := w6.alloc (.cells #[.slice ra rn rc, .slice s1 s0 s2] 41)) ((Below.refl _ _).alloc (Nat.le_refl _) _) ((ra, rn, rc), (s1, s0, s2)) (bb := w6.heap.size) 1 (fun q u hu => (World.cell?_alloc_at _ _ _ q rfl).trans (by
            match q, hu with
            | 0, hu => simpa [scell, slV] using hu
            | 1, hu => simpa [scell, slV] using hu
            | q + 2, hu => simp [scell] at hu)) (by rw [HL.out.2.2.2]; omega) (by rw [HL.out.2.2.2]; omega)
          obtain ⟨t7, tc7, rfl⟩ := (hs7.headNew).rowSlice
          have e7 : (ys ++ [(((ra, rn, rc) : Tr), ((s1, s0, s2) : Tr))]).length = sn + 1 := by rw [List.length_append, HL.out.2.2.2]; rfl
          rw [e7] at hr7 hs7
          have hs8 := Sep.front [ResSt (.slice t7 (sn + 1) tc7) (ys ++ [((ra, rn, rc), (s1, s0, s2))]), ResTs (.slice l6 (ln + 1) c6) (ts ++ [(xa, vn, xc)]), ResM (.slice xa vn xc) V, ResM (.slice ra rn rc) R, ResM (.slice s1 s0 s2) S] (r := Res.box w.heap.size [.slice a xs.length c, .int .i64 i0, .int .i64 z0]) (b := Res.ints 3 (.slice pa j pc) P :: ss) hs7
          have HC8 := Lib.hid (show Cur w.heap.size w7 w.heap.size (.slice a xs.length c) xs.length (ResSt (.slice t7 (sn + 1) tc7) (ys ++ [((ra, rn, rc), (s1, s0, s2))]) :: ResTs (.slice l6 (ln + 1) c6) (ts ++ [(xa, vn, xc)]) :: ([ResM (.slice xa vn xc) V, ResM (.slice ra rn rc) R, ResM (.slice s1 s0 s2) S, Res.ints 3 (.slice pa j pc) P] ++ ss)) from ⟨i0, z0, hi0, hs8⟩)
          have HI8 := Lib.hid (show ChI ([ResM (.slice xa vn xc) V, ResM (.slice ra rn rc) R, ResM (.slice s1 s0 s2) S, Res.ints 3 (.slice pa j pc) P] ++ ss) (ts ++ [(xa, vn, xc)]) (ms ++ [V]) (ys ++ [((ra, rn, rc), (s1, s0, s2))]) (zs ++ [(R, S)]) from (HI.out.more _).push (by simp [slV]) (by simp [slV]) (by simp [slV]) HB9.out.bd ⟨HBd.out.2, HSz.out⟩)
          have HM8 := Lib.hid (show ResM (.slice xa vn xc) V ∈ ([ResM (.slice xa vn xc) V, ResM (.slice ra rn rc) R, ResM (.slice s1 s0 s2) S, Res.ints 3 (.slice pa j pc) P] ++ ss) from by simp)
          have HL8 := Lib.hid (show V.length = vn ∧ NineT V ∧ (ts ++ [(xa, vn, xc)]).length = ln + 1 ∧ (ys ++ [(((ra, rn, rc) : Tr), ((s1, s0, s2) : Tr))]).length = sn + 1 from ⟨Hvn.out, HB9.out, by rw [List.length_append, HL.out.2.2.1]; rfl, e7⟩)
          have HB8 := Lib.hid ((HB5.out.trans hb6).trans hb7)
          have Hr6 := Lib.hid hr6
          have Hr7 := Lib.hid hr7
          clear hn hb HSO HB4 hz4 HS4 hs5 hsL hr6 hs6 hb6 hz6 hsS hr7 hs7 hb7 e7 hs8 hi0 HB5 hz5 hV hvn hpn HBd HSz
          go_wp2_with (first
            | (at_builtin; refine wpl_append_run rfl (.tmp 67) (.tmp 69) 49 rfl rfl rfl Hr6.out ?_)
            | (at_builtin; refine wpl_append_run rfl (.tmp 71) (.tmp 75) 50 rfl rfl rfl Hr7.out ?_))
          go_roundg g
          case measure => omega
          case rel => exact ⟨k - 1, _, vn, _, _, ln + 1, _, _, sn + 1, _, V, _, _, _, _, _, rfl, rfl, rfl, by congr 1; omega, Lib.hid (by have := hkg.out; omega), by omega, Lib.hid (by have := hln.out; omega), by omega, HL8, HM8, HI8, HC8, HB8⟩
    · have hki : ¬ ((k : Int) > 0) := by omega
      have hsl : sn ≤ 2 := by omega
      by_cases hs0 : 0 < sn
      · have hsi : (sn : Int) > 0 := by omega
        have HO := Lib.hid (l1Once_i (z := 6) (fun w' hb' => HK.out w' (HB.out.trans hb')) HC.out hz (by omega) (by omega))
        go_wp2_with fail
        (with_reducible refine HO.out.mono ?_)
        rintro e w2 ⟨q, rfl, hc, hb, -⟩
        have HC2 := Lib.hid hc
        have HB2 := Lib.hid (HB.out.trans hb)
        clear hc hb HO HC HB hz
        cases q with
        | false =>
          have HD := Lib.hid (ch_done HC2.out HI.out (by rw [HL.out.2.2.2]; exact hsl))
          go_wp2
          go_ret2
          exact ⟨_, _, rfl, HD.out, HB2.out⟩
        | true =>
          have hyl : 0 < ys.length := by rw [HL.out.2.2.2]; exact hs0
          obtain ⟨i0, z0, hi0, hs⟩ := HC2.out
          obtain ⟨g', c', hv, -, -, hlg, hg, hx⟩ := (hs.swap.headNew).rowAt scell_lay hyl
          simp only [Value.slice.injEq] at hv
          obtain ⟨rfl, -, rfl⟩ := hv
          have hy0 : ys[0]? = some ys[0] := List.getElem?_eq_getElem hyl
          have hzl : 0 < zs.length := by rw [← HI.out.yl]; exact hyl
          have hz0 : zs[0]? = some zs[0] := List.getElem?_eq_getElem hzl
          have k0 := hx 0 _ 0 _ hy0 rfl
          have k1 := hx 0 _ 1 _ hy0 rfl
          simp only [Nat.zero_mul, Nat.zero_add] at k0 k1
          have hq := HI.out.y 0 _ _ hy0 hz0
          have hsz := (HI.out.bz _ (List.getElem_mem hzl)).2
          have HT1 := tab_get hs.tail (List.mem_cons_of_mem _ (List.mem_cons_of_mem _ hq.1))
          have HT2 := tab_get hs.tail (List.mem_cons_of_mem _ (List.mem_cons_of_mem _ hq.2))
          obtain ⟨z1, hz1⟩ : ∃ z, z = zs[0] := ⟨_, rfl⟩
          rw [← hz1] at hz0 hsz HT1 HT2
          have HZ0 := Lib.hid hz0
          generalize ys[0] = y0 at k0 k1 HT1 HT2
          obtain ⟨⟨p1, p2, p3⟩, ⟨q1, q2, q3⟩⟩ := y0
          have HTu := Lib.hid (show Calls Try.prog 172 #[.agg #[.slice p1 p2 p3, .slice q1 q2 q3]] w2 _ from spec_TurnStep_c (x := z1) ⟨_, _, rfl, HT1, HT2⟩ hsz)
          have g0 : w2.cell? ⟨g', 0, none⟩ = some (.slice p1 p2 p3) := k0.1
          have g1 : w2.cell? ⟨g', 1, none⟩ = some (.slice q1 q2 q3) := k1.1
          have f0 : w2.frozen? ⟨g', 0, none⟩ = false := k0.2
          have f1 : w2.frozen? ⟨g', 1, none⟩ = false := k1.2
          have hz2 : w.heap.size ≤ w2.heap.size := HB2.out.size
          clear hx hy0 hz0 hq hsz HT1 HT2 hs k0 k1 hz1 hzl hi0
          go_wp2_with fail
          (with_reducible refine HTu.out.mono ?_)
          rintro e w3 ⟨r, rfl, hn, hb⟩
          obtain ⟨r1, r2, rfl, hn1, hn2⟩ := New.fst_snd hn
          obtain ⟨x1, x2, x3, rfl⟩ := hn1.slice
          obtain ⟨x4, x5, x6, rfl⟩ := hn2.slice
          have HF := Lib.hid (ch_turn (r1 := .slice x1 x2 x3) (r2 := .slice x4 x5 x6) (z0 := z1) (sc := sc) (g := g') (lv := .slice la ln lc) (w := w3) (K := .slice a xs.length c) (cb := w.heap.size) (lo := w.heap.size) (n := xs.length) (ss := ss) (by rw [HL.out.2.2.2]; exact HC2.out.below hb) HI.out (by rw [HL.out.2.2.2]; exact hsl) (Nat.le_trans hz2 hb.size) hyl HZ0.out ((Far.new hn1).mono hg) ((Far.new hn2).mono hg))
          rw [HL.out.2.2.2] at HF
          have HB3 := Lib.hid (((HB2.out.trans (hb.mono hz2)).setCell (p := ⟨g', 0, none⟩) hlg (.slice x1 x2 x3)).setCell (p := ⟨g', 1, none⟩) hlg (.slice x4 x5 x6))
          replace g0 := (hb.cell (p := ⟨g', 0, none⟩) hg).trans g0
          replace g1 := (hb.cell (p := ⟨g', 1, none⟩) hg).trans g1
          replace f0 := (hb.frozen (p := ⟨g', 0, none⟩) hg).trans f0
          replace f1 := (hb.frozen (p := ⟨g', 1, none⟩) hg).trans f1
          clear hn hn1 hn2 hb HTu HC2 HB2 hz2 hyl HZ0 HL HI HM
          go_wp2
          go_ret2
          exact ⟨_, _, rfl, HF.out, HB3.out⟩
      · have hsi : ¬ ((sn : Int) > 0) := by omega
        have HD := Lib.hid (ch_done HC.out HI.out (by rw [HL.out.2.2.2]; exact hsl))
        go_wp2
        go_ret2
        exact ⟨_, _, rfl, HD.out, HB.out⟩
set_option maxHeartbeats 1000000 in
theorem DrawLagOfChain_c {w : World} {vc : Value} {xs : List Int} (h : BytR w vc xs) :
    Calls Try.prog 36 #[vc] w fun e w' => ∃ v1 v2 : Value, e = .returned (.tuple #[v1, v2]) ∧ ChP w' v1 v2 ∧ Below w.heap.size w w' := by
  have HN := Lib.hid (DrawIsChain_c h)
  obtain ⟨a, c, rfl, -⟩ := h.cellsB
  clear h
  go_enter Try.func36, Try.ntmps36
  go_wp2_with fail
  (with_reducible refine HN.out.mono ?_)
  rintro e w1 ⟨v, vb, rfl, ht, hb⟩
  have HT := Lib.hid ht
  have HB := Lib.hid hb
  clear ht hb HN
  go_wp2
  go_ret2
  exact ⟨v, vb, rfl, HT.out, HB.out⟩
end Go.Proofs.Ytlkgkfgpnnahdaa
end

section
/-
  Matrices as functions: products, powers, traces; lags keep the traces of great powers.
-/
namespace Go.Sd
theorem sumN_mul (n : Nat) (c : Int) (f : Nat → Int) : sumN n (fun i => c * f i) = c * sumN n f := by
  induction n with
  | zero => simp [sumN]
  | succ n ih => rw [sumN, sumN, ih, Int.mul_add]
theorem sumN_mulr (n : Nat) (c : Int) (f : Nat → Int) : sumN n (fun i => f i * c) = sumN n f * c := by
  induction n with
  | zero => simp [sumN]
  | succ n ih => rw [sumN, sumN, ih, Int.add_mul]
abbrev MF := Nat → Nat → Int
/-- The product over a middle of k. -/
def mulF (k : Nat) (A B : MF) : MF := fun i j => sumN k fun x => A i x * B x j
def trF (n : Nat) (A : MF) : Int := sumN n fun i => A i i
theorem mulF_assoc (k l : Nat) (A B C : MF) : mulF l (mulF k A B) C = mulF k A (mulF l B C) := by
  funext i j
  show sumN l (fun x => sumN k (fun y => A i y * B y x) * C x j) = sumN k (fun y => A i y * sumN l (fun x => B y x * C x j))
  rw [show sumN l (fun x => sumN k (fun y => A i y * B y x) * C x j) = sumN l (fun x => sumN k (fun y => A i y * B y x * C x j)) from sumN_congr fun x _ => (sumN_mulr k (C x j) fun y => A i y * B y x).symm,
    show sumN k (fun y => A i y * sumN l (fun x => B y x * C x j)) = sumN k (fun y => sumN l (fun x => A i y * B y x * C x j)) from sumN_congr fun y _ => by rw [← sumN_mul l (A i y) fun x => B y x * C x j]; exact sumN_congr fun x _ => (Int.mul_assoc _ _ _).symm]
  exact sumN_comm l k fun x y => A i y * B y x * C x j
theorem trF_comm (n k : Nat) (A B : MF) : trF n (mulF k A B) = trF k (mulF n B A) := by
  show sumN n (fun i => sumN k (fun x => A i x * B x i)) = sumN k (fun x => sumN n (fun i => B x i * A i x))
  rw [sumN_comm n k fun i x => A i x * B x i]
  exact sumN_congr fun x _ => sumN_congr fun i _ => Int.mul_comm _ _
/-- Equal where it counts. -/
def EqF (n k : Nat) (A B : MF) : Prop := ∀ i j, i < n → j < k → A i j = B i j
theorem EqF.mul {n k m : Nat} {A A' B B' : MF} (h1 : EqF n k A A') (h2 : EqF k m B B') : EqF n m (mulF k A B) (mulF k A' B') := fun i j hi hj => sumN_congr fun x hx => by rw [h1 i x hi hx, h2 x j hx hj]
theorem EqF.tr {n : Nat} {A B : MF} (h : EqF n n A B) : trF n A = trF n B := sumN_congr fun i hi => h i i hi hi
theorem EqF.refl (n k : Nat) (A : MF) : EqF n k A A := fun _ _ _ _ => rfl
theorem EqF.symm {n k : Nat} {A B : MF} (h : EqF n k A B) : EqF n k B A := fun i j hi hj => (h i j hi hj).symm
theorem EqF.trans {n k : Nat} {A B C : MF} (h : EqF n k A B) (g : EqF n k B C) : EqF n k A C := fun i j hi hj => (h i j hi hj).trans (g i j hi hj)
/-- Powers; the power 0 is the unit. -/
def powF (n : Nat) (A : MF) : Nat → MF
  | 0 => fun i j => if i = j then 1 else 0
  | m + 1 => mulF n (powF n A m) A
theorem mulF_one {n k : Nat} (A : MF) : EqF n k (mulF k A fun i j => if i = j then 1 else 0) A := fun i j _ hj => by
  show sumN k (fun x => A i x * if x = j then 1 else 0) = A i j
  rw [← sumN_one hj fun _ => A i j]
  refine sumN_congr fun x _ => ?_
  by_cases e : x = j
  · rw [if_pos e, if_pos e.symm, e, Int.mul_one]
  · rw [if_neg e, if_neg fun h => e h.symm, Int.mul_zero]
theorem one_mulF {n k : Nat} (A : MF) : EqF n k (mulF n (fun i j => if i = j then 1 else 0) A) A := fun i j hi _ => by
  show sumN n (fun x => (if i = x then 1 else 0) * A x j) = A i j
  rw [← sumN_one hi fun x => A x j]
  refine sumN_congr fun x _ => ?_
  by_cases e : i = x
  · rw [if_pos e, if_pos e, Int.one_mul]
  · rw [if_neg e, if_neg e, Int.zero_mul]
theorem powF_add {n : Nat} (A : MF) (a : Nat) : ∀ b, EqF n n (powF n A (a + b)) (mulF n (powF n A a) (powF n A b))
  | 0 => (mulF_one _).symm
  | b + 1 => by
    show EqF n n (mulF n (powF n A (a + b)) A) (mulF n (powF n A a) (mulF n (powF n A b) A))
    rw [← mulF_assoc]
    exact (powF_add A a b).mul (EqF.refl _ _ _)
/-- A R = R B gives A^m R = R B^m. -/
theorem pow_inter {n k : Nat} {A R B : MF} (h : EqF n k (mulF n A R) (mulF k R B)) : ∀ m, EqF n k (mulF n (powF n A m) R) (mulF k R (powF k B m))
  | 0 => (one_mulF R).trans (mulF_one R).symm
  | m + 1 => by
    show EqF n k (mulF n (mulF n (powF n A m) A) R) (mulF k R (mulF k (powF k B m) B))
    have e1 : mulF n (mulF n (powF n A m) A) R = mulF n (powF n A m) (mulF n A R) := mulF_assoc _ _ _ _ _
    have e2 : mulF k R (mulF k (powF k B m) B) = mulF k (mulF k R (powF k B m)) B := (mulF_assoc _ _ _ _ _).symm
    have e3 : mulF n (powF n A m) (mulF k R B) = mulF k (mulF n (powF n A m) R) B := (mulF_assoc _ _ _ _ _).symm
    rw [e1, e2]
    refine ((EqF.refl n n _).mul h).trans ?_
    rw [e3]
    exact (pow_inter h m).mul (EqF.refl _ _ _)
/-- A lag keeps the traces of powers from its length on. -/
theorem lag_tr {n k l : Nat} {A B R S : MF} (h1 : EqF n k (mulF n A R) (mulF k R B)) (hA : EqF n n (powF n A l) (mulF k R S)) (hB : EqF k k (powF k B l) (mulF n S R)) (m : Nat) :
    trF n (powF n A (m + l)) = trF k (powF k B (m + l)) := by
  rw [(powF_add A m l).tr, (powF_add B m l).tr]
  have e1 : trF n (mulF n (powF n A m) (powF n A l)) = trF n (mulF k (mulF n (powF n A m) R) S) := by
    rw [mulF_assoc]
    exact ((EqF.refl n n _).mul hA).tr
  have e2 : trF n (mulF k (mulF n (powF n A m) R) S) = trF n (mulF k (mulF k R (powF k B m)) S) := ((pow_inter h1 m).mul (EqF.refl k n S)).tr
  have e3 : trF n (mulF k (mulF k R (powF k B m)) S) = trF k (mulF k (powF k B m) (mulF n S R)) := by
    rw [mulF_assoc, trF_comm, mulF_assoc]
  have e4 : trF k (mulF k (powF k B m) (mulF n S R)) = trF k (mulF k (powF k B m) (powF k B l)) := ((EqF.refl k k _).mul hB.symm).tr
  rw [e1, e2, e3, e4]
end Go.Sd
end

section
/-
  Series of integers: products; power sums that agree from some place on belong to one polynomial.
-/
namespace Go.Sd
/-- The product of two series. -/
def conv (f g : Nat → Int) : Nat → Int := fun m => sumN (m + 1) fun i => f i * g (m - i)
theorem conv_comm (f g : Nat → Int) : conv f g = conv g f := by
  funext m
  have h : Inv (m + 1) (fun i => m - i) (fun i => m - i) := ⟨fun i hi => ⟨by show m - i < m + 1; omega, by show m - (m - i) = i; omega⟩, fun i hi => ⟨by show m - i < m + 1; omega, by show m - (m - i) = i; omega⟩⟩
  show sumN (m + 1) (fun i => f i * g (m - i)) = sumN (m + 1) (fun i => g i * f (m - i))
  rw [← sumN_perm h fun i => g i * f (m - i)]
  exact sumN_congr fun i hi => by
    show f i * g (m - i) = g (m - i) * f (m - (m - i))
    rw [show m - (m - i) = i by omega, Int.mul_comm]
theorem sumN_shift (i : Nat) (F : Nat → Int) : ∀ K, sumN (i + K) (fun x => if i ≤ x then F (x - i) else 0) = sumN K F
  | 0 => sumN_zero fun x hx => if_neg (by omega)
  | K + 1 => by
    show sumN (i + K) (fun x => if i ≤ x then F (x - i) else 0) + (if i ≤ i + K then F (i + K - i) else 0) = _
    rw [sumN_shift i F K, sumN, if_pos (by omega), show i + K - i = K by omega]
theorem conv_assoc (f g h : Nat → Int) : conv (conv f g) h = conv f (conv g h) := by
  funext m
  show sumN (m + 1) (fun x => sumN (x + 1) (fun i => f i * g (x - i)) * h (m - x)) = sumN (m + 1) (fun i => f i * sumN (m - i + 1) (fun y => g y * h (m - i - y)))
  have e1 : ∀ x, x < m + 1 → sumN (x + 1) (fun i => f i * g (x - i)) * h (m - x) = sumN (m + 1) (fun i => if i ≤ x then f i * (g (x - i) * h (m - x)) else 0) := fun x hx => by
    rw [← sumN_mulr]
    have h2 : ∀ K, sumN (x + 1 + K) (fun i => if i ≤ x then f i * (g (x - i) * h (m - x)) else 0) = sumN (x + 1) (fun i => f i * g (x - i) * h (m - x)) := by
      intro K
      induction K with
      | zero => exact sumN_congr fun i hi => by rw [if_pos (by omega), Int.mul_assoc]
      | succ K ih =>
        show sumN (x + 1 + K) (fun i => if i ≤ x then f i * (g (x - i) * h (m - x)) else 0) + (if x + 1 + K ≤ x then f (x + 1 + K) * (g (x - (x + 1 + K)) * h (m - x)) else 0) = _
        rw [ih, if_neg (by omega), Int.add_zero]
    have h3 := h2 (m - x)
    rw [show x + 1 + (m - x) = m + 1 by omega] at h3
    exact h3.symm
  rw [sumN_congr e1, sumN_comm (m + 1) (m + 1) fun x i => if i ≤ x then f i * (g (x - i) * h (m - x)) else 0]
  refine sumN_congr fun i hi => ?_
  have h4 := sumN_shift i (fun y => g y * h (m - i - y)) (m - i + 1)
  rw [show i + (m - i + 1) = m + 1 by omega] at h4
  rw [← h4, ← sumN_mul]
  refine sumN_congr fun x hx => ?_
  by_cases e : i ≤ x
  · rw [if_pos e, if_pos e, show m - i - (x - i) = m - x by omega]
  · rw [if_neg e, if_neg e, Int.mul_zero]
/-- t times the derivative. -/
def der (f : Nat → Int) : Nat → Int := fun m => m * f m
/-- The greatest place that is not nought. -/
theorem top_of {f : Nat → Int} : ∀ {n : Nat}, (∀ m, n < m → f m = 0) → (∀ m, f m = 0) ∨ ∃ a, a ≤ n ∧ f a ≠ 0 ∧ ∀ m, a < m → f m = 0
  | 0, h => by
    by_cases e : f 0 = 0
    · exact Or.inl fun m => by cases m with
        | zero => exact e
        | succ m => exact h _ (by omega)
    · exact Or.inr ⟨0, Nat.le_refl _, e, h⟩
  | n + 1, h => by
    by_cases e : f (n + 1) = 0
    · rcases top_of (n := n) fun m hm => by
        by_cases e2 : m = n + 1
        · rw [e2]; exact e
        · exact h m (by omega) with h1 | ⟨a, h1, h2⟩
      · exact Or.inl h1
      · exact Or.inr ⟨a, by omega, h2⟩
    · exact Or.inr ⟨n + 1, Nat.le_refl _, e, h⟩
theorem conv_top {f g : Nat → Int} {a b : Nat} (ha : ∀ m, a < m → f m = 0) (hb : ∀ m, b < m → g m = 0) : conv f g (a + b) = f a * g b ∧ ∀ m, a + b < m → conv f g m = 0 := by
  constructor
  · show sumN (a + b + 1) (fun i => f i * g (a + b - i)) = _
    rw [show f a * g b = f a * g (a + b - a) by rw [show a + b - a = b by omega], ← sumN_one (show a < a + b + 1 by omega) fun i => f i * g (a + b - i)]
    refine sumN_congr fun i hi => ?_
    by_cases e : a = i
    · rw [if_pos e]
    · rw [if_neg e]
      rcases Nat.lt_or_ge a i with h | h
      · rw [ha i h, Int.zero_mul]
      · rw [hb _ (by omega), Int.mul_zero]
  · intro m hm
    refine sumN_zero fun i hi => ?_
    rcases Nat.lt_or_ge a i with h | h
    · rw [ha i h, Int.zero_mul]
    · rw [hb _ (by omega), Int.mul_zero]
end Go.Sd
end

section
/-
  Two polynomials with constant term 1 whose power sums agree from some place on are the same.
-/
namespace Go.Sd
theorem conv_sub (f g h : Nat → Int) (m : Nat) : conv f (fun x => g x - h x) m = conv f g m - conv f h m := by
  show sumN (m + 1) (fun i => f i * (g (m - i) - h (m - i))) = _
  rw [sumN_congr (g := fun i => f i * g (m - i) - f i * h (m - i)) fun i _ => Int.mul_sub _ _ _]
  exact sumN_sub (m + 1) (fun i => f i * g (m - i)) fun i => f i * h (m - i)
theorem conv_neg (f g : Nat → Int) (m : Nat) : conv f (fun x => -g x) m = -conv f g m := by
  have h := conv_sub f (fun _ => 0) g m
  have h0 : conv f (fun _ => 0) m = 0 := sumN_zero fun i _ => Int.mul_zero _
  rw [h0] at h
  rw [show (fun x => -g x) = (fun x => 0 - g x) from funext fun x => by omega, h]
  omega
theorem newton_unique {P Q p q : Nat → Int} {n k l : Nat} (hP0 : P 0 = 1) (hQ0 : Q 0 = 1) (hP : ∀ m, n < m → P m = 0) (hQ : ∀ m, k < m → Q m = 0) (hNP : ∀ m, der P m + conv P p m = 0) (hNQ : ∀ m, der Q m + conv Q q m = 0)
    (p0 : p 0 = 0) (q0 : q 0 = 0) (hl : ∀ m, l < m → p m = q m) : ∀ m, P m = Q m := by
  have hpq : ∀ m, p m = q m := by
    rcases top_of (f := fun m => p m - q m) (n := l) (fun m hm => by show p m - q m = 0; rw [hl m hm]; omega) with h | ⟨d, hd1, hd2, hd3⟩
    · intro m
      have := h m
      omega
    · exfalso
      have hd0 : d ≠ 0 := fun e => hd2 (by rw [e]; show p 0 - q 0 = 0; omega)
      rcases top_of hP with h | ⟨a, ha1, ha2, ha3⟩
      · have := h 0; omega
      rcases top_of hQ with h | ⟨b, hb1, hb2, hb3⟩
      · have := h 0; omega
      have hD1 : der P = fun m => -conv P p m := funext fun m => by have := hNP m; omega
      have hD2 : der Q = fun m => -conv Q q m := funext fun m => by have := hNQ m; omega
      have e1 : conv Q (der P) (a + b + d) = -conv (conv P Q) p (a + b + d) := by
        rw [hD1, conv_neg, show conv Q (fun m => conv P p m) = conv Q (conv P p) from rfl, ← conv_assoc, conv_comm Q P]
      have e2 : conv P (der Q) (a + b + d) = -conv (conv P Q) q (a + b + d) := by
        rw [hD2, conv_neg, show conv P (fun m => conv Q q m) = conv P (conv Q q) from rfl, ← conv_assoc]
      have e3 : conv Q (der P) (a + b + d) = 0 := (conv_top hb3 (a := b) (b := a) (g := der P) fun m hm => by show (m : Int) * P m = 0; rw [ha3 m hm, Int.mul_zero]).2 _ (by omega)
      have e4 : conv P (der Q) (a + b + d) = 0 := (conv_top ha3 (a := a) (b := b) (g := der Q) fun m hm => by show (m : Int) * Q m = 0; rw [hb3 m hm, Int.mul_zero]).2 _ (by omega)
      have hPQ := conv_top ha3 hb3
      have e5 := (conv_top (f := conv P Q) (g := fun m => p m - q m) hPQ.2 hd3).1
      rw [conv_sub, hPQ.1] at e5
      have e6 : P a * Q b * (p d - q d) = 0 := by
        have : (fun m => p m - q m) d = p d - q d := rfl
        omega
      rcases Int.mul_eq_zero.1 e6 with h | h
      · rcases Int.mul_eq_zero.1 h with h | h
        · exact ha2 h
        · exact hb2 h
      · exact hd2 h
  have hp : p = q := funext hpq
  subst hp
  intro m
  induction m using Nat.strongRecOn with
  | ind m ih =>
    cases m with
    | zero => rw [hP0, hQ0]
    | succ m =>
      have h1 := hNP (m + 1)
      have h2 := hNQ (m + 1)
      have e1 : conv P p (m + 1) = conv Q p (m + 1) := by
        show sumN (m + 1 + 1) (fun i => P i * p (m + 1 - i)) = sumN (m + 1 + 1) (fun i => Q i * p (m + 1 - i))
        refine sumN_congr fun i hi => ?_
        by_cases e : i = m + 1
        · rw [e, Nat.sub_self, p0, Int.mul_zero, Int.mul_zero]
        · rw [ih i (by omega)]
      have h3 : ((m + 1 : Nat) : Int) * P (m + 1) = ((m + 1 : Nat) : Int) * Q (m + 1) := by
        have a1 : der P (m + 1) = ((m + 1 : Nat) : Int) * P (m + 1) := rfl
        have a2 : der Q (m + 1) = ((m + 1 : Nat) : Int) * Q (m + 1) := rfl
        omega
      exact Int.eq_of_mul_eq_mul_left (by omega) h3
end Go.Sd
end

section
/-
  Newton's identities for four rows, and the traces of the greater powers (Cayley and Hamilton).
-/
namespace Go.Sd
/-- A minor of three rows and three columns. -/
def M3 (A : MF) (i j k a b c : Nat) : Int := A i a * (A j b * A k c - A j c * A k b) - A i b * (A j a * A k c - A j c * A k a) + A i c * (A j a * A k b - A j b * A k a)
def D2 (A : MF) (i j : Nat) : Int := A i i * A j j - A i j * A j i
def D4 (A : MF) : Int := A 0 0 * M3 A 1 2 3 1 2 3 - A 0 1 * M3 A 1 2 3 0 2 3 + A 0 2 * M3 A 1 2 3 0 1 3 - A 0 3 * M3 A 1 2 3 0 1 2
/-- The coefficients of the turned polynomial of four rows. -/
def cfs (A : MF) : Nat → Int
  | 0 => 1
  | 1 => -(A 0 0 + A 1 1 + A 2 2 + A 3 3)
  | 2 => D2 A 0 1 + D2 A 0 2 + D2 A 0 3 + D2 A 1 2 + D2 A 1 3 + D2 A 2 3
  | 3 => -(M3 A 0 1 2 0 1 2 + M3 A 0 1 3 0 1 3 + M3 A 0 2 3 0 2 3 + M3 A 1 2 3 1 2 3)
  | 4 => D4 A
  | _ => 0
/-- The power sums. -/
def pws (A : MF) (m : Nat) : Int := if m = 0 then 0 else trF 4 (powF 4 A m)
theorem mul4 (A B : MF) (i j : Nat) : mulF 4 A B i j = A i 0 * B 0 j + A i 1 * B 1 j + A i 2 * B 2 j + A i 3 * B 3 j := by
  simp only [mulF, sumN]; omega
theorem tr4 (A : MF) : trF 4 A = A 0 0 + A 1 1 + A 2 2 + A 3 3 := by
  simp only [trF, sumN]; omega
theorem pow1 (A : MF) : EqF 4 4 (powF 4 A 1) A := one_mulF A
set_option maxRecDepth 100000 in
set_option maxHeartbeats 0 in
theorem newt2 (A : MF) : 2 * cfs A 2 + trF 4 (mulF 4 A A) + cfs A 1 * trF 4 A = 0 := by
  simp only [cfs, D2, tr4, mul4]
  grind
set_option maxRecDepth 100000 in
set_option maxHeartbeats 0 in
theorem newt3 (A : MF) : 3 * cfs A 3 + trF 4 (mulF 4 (mulF 4 A A) A) + cfs A 1 * trF 4 (mulF 4 A A) + cfs A 2 * trF 4 A = 0 := by
  simp only [cfs, D2, M3, tr4, mul4]
  grind
/-- The third step by Horner: the adjoint, turned in its sign. -/
def hor (A : MF) : MF := fun i j => mulF 4 (mulF 4 A A) A i j + cfs A 1 * mulF 4 A A i j + cfs A 2 * A i j + if i = j then cfs A 3 else 0
def adj4 (A : MF) : MF
  | 0, 0 => M3 A 1 2 3 1 2 3
  | 0, 1 => -(M3 A 0 2 3 1 2 3)
  | 0, 2 => M3 A 0 1 3 1 2 3
  | 0, 3 => -(M3 A 0 1 2 1 2 3)
  | 1, 0 => -(M3 A 1 2 3 0 2 3)
  | 1, 1 => M3 A 0 2 3 0 2 3
  | 1, 2 => -(M3 A 0 1 3 0 2 3)
  | 1, 3 => M3 A 0 1 2 0 2 3
  | 2, 0 => M3 A 1 2 3 0 1 3
  | 2, 1 => -(M3 A 0 2 3 0 1 3)
  | 2, 2 => M3 A 0 1 3 0 1 3
  | 2, 3 => -(M3 A 0 1 2 0 1 3)
  | 3, 0 => -(M3 A 1 2 3 0 1 2)
  | 3, 1 => M3 A 0 2 3 0 1 2
  | 3, 2 => -(M3 A 0 1 3 0 1 2)
  | 3, 3 => M3 A 0 1 2 0 1 2
  | _, _ => 0
theorem four {P : Nat → Prop} (h0 : P 0) (h1 : P 1) (h2 : P 2) (h3 : P 3) : ∀ i, i < 4 → P i
  | 0, _ => h0
  | 1, _ => h1
  | 2, _ => h2
  | 3, _ => h3
  | _ + 4, h => absurd h (by omega)
set_option maxRecDepth 100000 in
set_option maxHeartbeats 0 in
theorem hor_adj (A : MF) : EqF 4 4 (hor A) (fun i j => -(adj4 A i j)) := by
  refine fun i j hi hj => four (P := fun i => hor A i j = -(adj4 A i j)) (four (P := fun j => hor A 0 j = -(adj4 A 0 j)) ?_ ?_ ?_ ?_ j hj) (four (P := fun j => hor A 1 j = -(adj4 A 1 j)) ?_ ?_ ?_ ?_ j hj) (four (P := fun j => hor A 2 j = -(adj4 A 2 j)) ?_ ?_ ?_ ?_ j hj) (four (P := fun j => hor A 3 j = -(adj4 A 3 j)) ?_ ?_ ?_ ?_ j hj) i hi
  all_goals (simp [hor, adj4, cfs, D2, M3, mul4]; try grind)
set_option maxRecDepth 100000 in
set_option maxHeartbeats 0 in
theorem adj_det (A : MF) : EqF 4 4 (mulF 4 (adj4 A) A) (fun i j => if i = j then D4 A else 0) := by
  refine fun i j hi hj => four (P := fun i => mulF 4 (adj4 A) A i j = if i = j then D4 A else 0) (four (P := fun j => mulF 4 (adj4 A) A 0 j = if 0 = j then D4 A else 0) ?_ ?_ ?_ ?_ j hj) (four (P := fun j => mulF 4 (adj4 A) A 1 j = if 1 = j then D4 A else 0) ?_ ?_ ?_ ?_ j hj) (four (P := fun j => mulF 4 (adj4 A) A 2 j = if 2 = j then D4 A else 0) ?_ ?_ ?_ ?_ j hj) (four (P := fun j => mulF 4 (adj4 A) A 3 j = if 3 = j then D4 A else 0) ?_ ?_ ?_ ?_ j hj) i hi
  all_goals (simp [adj4, D4, M3, mul4]; try grind)
/-- Cayley and Hamilton. -/
theorem cay (A : MF) (i j : Nat) (hi : i < 4) (hj : j < 4) : powF 4 A 4 i j + cfs A 1 * powF 4 A 3 i j + cfs A 2 * powF 4 A 2 i j + cfs A 3 * powF 4 A 1 i j + cfs A 4 * powF 4 A 0 i j = 0 := by
  have e1 : EqF 4 4 (powF 4 A 1) A := one_mulF A
  have e2 : EqF 4 4 (powF 4 A 2) (mulF 4 A A) := e1.mul (EqF.refl _ _ _)
  have e3 : EqF 4 4 (powF 4 A 3) (mulF 4 (mulF 4 A A) A) := e2.mul (EqF.refl _ _ _)
  have h1 : EqF 4 4 (mulF 4 (hor A) A) (mulF 4 (fun i j => -(adj4 A i j)) A) := (hor_adj A).mul (EqF.refl _ _ _)
  have h2 : mulF 4 (adj4 A) A i j = if i = j then D4 A else 0 := adj_det A i j hi hj
  have h3 := h1 i j hi hj
  rw [mul4] at h2
  rw [mul4 (fun i j => -(adj4 A i j))] at h3
  have h4 : mulF 4 (hor A) A i j = powF 4 A 4 i j + cfs A 1 * powF 4 A 3 i j + cfs A 2 * powF 4 A 2 i j + cfs A 3 * powF 4 A 1 i j := by
    show _ = mulF 4 (powF 4 A 3) A i j + cfs A 1 * mulF 4 (powF 4 A 2) A i j + _ + _
    rw [e2 i j hi hj, e1 i j hi hj, ((e3.mul (EqF.refl 4 4 A)) i j hi hj), ((e2.mul (EqF.refl 4 4 A)) i j hi hj)]
    have hI : EqF 4 4 (mulF 4 (fun i j => if i = j then (1 : Int) else 0) A) A := one_mulF A
    have h5 := hI i j hi hj
    simp only [hor, mul4] at h5 ⊢
    grind
  have h6 : cfs A 4 * powF 4 A 0 i j = if i = j then D4 A else 0 := by
    show D4 A * (if i = j then 1 else 0) = _
    by_cases e : i = j
    · rw [if_pos e, if_pos e, Int.mul_one]
    · rw [if_neg e, if_neg e, Int.mul_zero]
  rw [h6, ← h2, ← h4, h3]
  grind
/-- The traces of the greater powers. -/
theorem tr_rec (A : MF) (m : Nat) : trF 4 (powF 4 A (m + 4)) + cfs A 1 * trF 4 (powF 4 A (m + 3)) + cfs A 2 * trF 4 (powF 4 A (m + 2)) + cfs A 3 * trF 4 (powF 4 A (m + 1)) + cfs A 4 * trF 4 (powF 4 A m) = 0 := by
  have h : ∀ k, trF 4 (powF 4 A (m + k)) = sumN 4 fun i => sumN 4 fun x => powF 4 A m i x * powF 4 A k x i := fun k => (powF_add A m k).tr
  rw [h 4, h 3, h 2, h 1]
  have h0 := h 0
  rw [Nat.add_zero] at h0
  rw [h0]
  have key : ∀ (a b c d : Int) (F0 F1 F2 F3 F4 : Nat → Nat → Int), (∀ i x, i < 4 → x < 4 → F4 i x + a * F3 i x + b * F2 i x + c * F1 i x + d * F0 i x = 0) →
      (sumN 4 fun i => sumN 4 fun x => F4 i x) + a * (sumN 4 fun i => sumN 4 fun x => F3 i x) + b * (sumN 4 fun i => sumN 4 fun x => F2 i x) + c * (sumN 4 fun i => sumN 4 fun x => F1 i x) + d * (sumN 4 fun i => sumN 4 fun x => F0 i x) = 0 := by
    intro a b c d F0 F1 F2 F3 F4 hF
    have lin : ∀ (n : Nat) (G0 G1 G2 G3 G4 : Nat → Int), sumN n G4 + a * sumN n G3 + b * sumN n G2 + c * sumN n G1 + d * sumN n G0 = sumN n fun i => G4 i + a * G3 i + b * G2 i + c * G1 i + d * G0 i := by
      intro n G0 G1 G2 G3 G4
      rw [← sumN_mul, ← sumN_mul, ← sumN_mul, ← sumN_mul, ← sumN_add, ← sumN_add, ← sumN_add, ← sumN_add]
    rw [lin]
    refine sumN_zero fun i hi => ?_
    rw [lin]
    exact sumN_zero fun x hx => hF i x hi hx
  refine key _ _ _ _ (fun i x => powF 4 A m i x * powF 4 A 0 x i) (fun i x => powF 4 A m i x * powF 4 A 1 x i) (fun i x => powF 4 A m i x * powF 4 A 2 x i) (fun i x => powF 4 A m i x * powF 4 A 3 x i) (fun i x => powF 4 A m i x * powF 4 A 4 x i) fun i x hi hx => ?_
  have hc := cay A x i hx hi
  have : powF 4 A m i x * (powF 4 A 4 x i + cfs A 1 * powF 4 A 3 x i + cfs A 2 * powF 4 A 2 x i + cfs A 3 * powF 4 A 1 x i + cfs A 4 * powF 4 A 0 x i) = 0 := by rw [hc, Int.mul_zero]
  grind
/-- Newton's identities, all of them. -/
theorem newt4 (A : MF) : 4 * cfs A 4 + trF 4 (powF 4 A 4) + cfs A 1 * trF 4 (powF 4 A 3) + cfs A 2 * trF 4 (powF 4 A 2) + cfs A 3 * trF 4 (powF 4 A 1) = 0 := by
  have h := tr_rec A 0
  simp only [Nat.zero_add] at h
  have e : trF 4 (powF 4 A 0) = 4 := by rw [tr4]; rfl
  rw [e] at h
  omega
theorem newt_all (A : MF) (m : Nat) : der (cfs A) m + conv (cfs A) (pws A) m = 0 := by
  have e1 : EqF 4 4 (powF 4 A 1) A := one_mulF A
  have e2 : EqF 4 4 (powF 4 A 2) (mulF 4 A A) := e1.mul (EqF.refl _ _ _)
  have e3 : EqF 4 4 (powF 4 A 3) (mulF 4 (mulF 4 A A) A) := e2.mul (EqF.refl _ _ _)
  have p0 : pws A 0 = 0 := rfl
  have c0 : cfs A 0 = 1 := rfl
  have hp : ∀ k, k ≠ 0 → pws A k = trF 4 (powF 4 A k) := fun k hk => if_neg hk
  match m with
  | 0 => show (0 : Int) * cfs A 0 + sumN 1 _ = 0; simp [sumN, p0]
  | 1 =>
    have h1 := e1.tr
    rw [tr4 A] at h1
    show (1 : Int) * cfs A 1 + sumN 2 (fun i => cfs A i * pws A (1 - i)) = 0
    simp only [sumN, Nat.sub_zero, Nat.sub_self, p0, c0]
    rw [hp 1 (by omega), h1]
    simp only [cfs]
    omega
  | 2 =>
    have h := newt2 A
    rw [← e2.tr, ← e1.tr] at h
    show (2 : Int) * cfs A 2 + sumN 3 (fun i => cfs A i * pws A (2 - i)) = 0
    simp only [sumN, Nat.sub_zero, Nat.sub_self, Nat.reduceSub, p0, c0]
    rw [hp 1 (by omega), hp 2 (by omega)]
    omega
  | 3 =>
    have h := newt3 A
    rw [← e3.tr, ← e2.tr, ← e1.tr] at h
    show (3 : Int) * cfs A 3 + sumN 4 (fun i => cfs A i * pws A (3 - i)) = 0
    simp only [sumN, Nat.sub_zero, Nat.sub_self, Nat.reduceSub, p0, c0]
    rw [hp 1 (by omega), hp 2 (by omega), hp 3 (by omega)]
    omega
  | 4 =>
    have h := newt4 A
    show (4 : Int) * cfs A 4 + sumN 5 (fun i => cfs A i * pws A (4 - i)) = 0
    simp only [sumN, Nat.sub_zero, Nat.sub_self, Nat.reduceSub, p0, c0]
    rw [hp 1 (by omega), hp 2 (by omega), hp 3 (by omega), hp 4 (by omega)]
    omega
  | m + 5 =>
    have h := tr_rec A (m + 1)
    have hz : ∀ i, cfs A (i + 5) = 0 := fun i => rfl
    have hs : ∀ K, sumN (K + 5) (fun i => cfs A i * pws A (m + 5 - i)) = sumN 5 (fun i => cfs A i * pws A (m + 5 - i)) := by
      intro K
      induction K with
      | zero => rw [Nat.zero_add]
      | succ K ih =>
        rw [show K + 1 + 5 = (K + 5) + 1 by omega, sumN, ih, hz, Int.zero_mul, Int.add_zero]
    show ((m + 5 : Nat) : Int) * cfs A (m + 5) + sumN (m + 5 + 1) (fun i => cfs A i * pws A (m + 5 - i)) = 0
    rw [hz, Int.mul_zero, show m + 5 + 1 = (m + 1) + 5 by omega, hs]
    simp only [sumN, Nat.sub_zero, c0]
    rw [hp (m + 5) (by omega), hp (m + 5 - 1) (by omega), hp (m + 5 - 2) (by omega), hp (m + 5 - 3) (by omega), hp (m + 5 - 4) (by omega)]
    rw [show m + 5 - 1 = m + 4 by omega, show m + 5 - 2 = m + 3 by omega, show m + 5 - 3 = m + 2 by omega, show m + 5 - 4 = m + 1 by omega]
    rw [show m + 1 + 4 = m + 5 by omega, show m + 1 + 3 = m + 4 by omega, show m + 1 + 2 = m + 3 by omega, show m + 1 + 1 = m + 2 by omega] at h
    omega
/-- Two matrices of at most four rows whose greater powers have the same traces have the same coefficients. -/
theorem cfs_same {A B : MF} {l : Nat} (h : ∀ m, l < m → trF 4 (powF 4 A m) = trF 4 (powF 4 B m)) : ∀ m, cfs A m = cfs B m := by
  have hz : ∀ (A : MF) m, 4 < m → cfs A m = 0 := fun A m hm => by
    obtain ⟨k, rfl⟩ : ∃ k, m = k + 5 := ⟨m - 5, by omega⟩
    rfl
  exact newton_unique (n := 4) (k := 4) (l := l) rfl rfl (hz A) (hz B) (newt_all A) (newt_all B) rfl rfl fun m hm => by
    unfold pws
    by_cases e : m = 0
    · rw [if_pos e, if_pos e]
    · rw [if_neg e, if_neg e, h m hm]
end Go.Sd
end
