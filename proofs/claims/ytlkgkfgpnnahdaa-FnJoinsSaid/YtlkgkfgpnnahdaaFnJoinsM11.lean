/-
  Texts of this claim joined: laws for its walks, contracts of the functions that the law reaches.
-/
import Derived.Test.YtlkgkfgpnnahdaaRows
import Derived.Test.YtlkgkfgpnnahdaaFnJoinsM1
import Derived.Test.YtlkgkfgpnnahdaaFnJoinsM9
import Derived.Test.YtlkgkfgpnnahdaaFnJoinsM10
import Derived.IntWalk
import Derived.Lib.SliceRun
import Derived.Laws.IdiomCopy
import Derived.Test.YtlkgkfgpnnahdaaFnJoinsM3
import Derived.Test.YtlkgkfgpnnahdaaFnJoinsM5
import Derived.Test.YtlkgkfgpnnahdaaFnJoinsM7
import Derived.WalkSpells
import Derived.Test.YtlkgkfgpnnahdaaFnJoinsM4
import Derived.Deep.RegionLaw
section
/-
  slices.DeleteFunc at a list of rows, the predicate of PartsOf.
-/
namespace Go.Sd
open Go.RowKit Go.Deep
/-- A row's value, the row, its blocks. -/
abbrev Row3 := Value × List Int × List Nat
theorem triples : ∀ {us : List Value} {xs : Tbl} {Fs : List (List Nat)}, us.length = xs.length → Fs.length = xs.length → ∃ ts : List Row3, ts.map (·.1) = us ∧ ts.map (fun t => t.2.1) = xs ∧ ts.map (fun t => t.2.2) = Fs
  | [], [], [], _, _ => ⟨[], rfl, rfl, rfl⟩
  | u :: us, x :: xs, F :: Fs, h1, h2 => by
    obtain ⟨ts, e1, e2, e3⟩ := triples (us := us) (xs := xs) (Fs := Fs) (by simpa using h1) (by simpa using h2)
    exact ⟨(u, x, F) :: ts, by simp [e1], by simp [e2], by simp [e3]⟩
theorem setCells_owns {base g n cap : Nat} {e : TypeId} : ∀ (vs : List Value) (o : Nat) (w : World) (us : List Value), w.ownsRow base e 1 (.slice (some ⟨g, 0, none⟩) n cap) n us →
    ∃ us', (w.setCells g o vs).ownsRow base e 1 (.slice (some ⟨g, 0, none⟩) n cap) n us' ∧ us'.take o = us.take o
  | [], o, w, us, h => ⟨us, h, rfl⟩
  | v :: vs, o, w, us, h => by
    obtain ⟨us', h1, h2⟩ := setCells_owns vs (o + 1) _ _ (h.stored o v).1
    refine ⟨us', h1, ?_⟩
    have h3 : (us'.take (o + 1)).take o = ((us.set o v).take (o + 1)).take o := by rw [h2]
    rw [List.take_take, List.take_take, show min o (o + 1) = o by omega] at h3
    rw [h3, List.take_set_of_le (Nat.le_refl o)]
theorem setCells_off (g : Nat) : ∀ (vs : List Value) (o : Nat) (w : World), Off [g] w (w.setCells g o vs)
  | [], _, w => Off.refl _ _
  | v :: vs, o, w => (Off.setCell (w := w) (p := ⟨g, o, none⟩) (by simp) v).trans (setCells_off g vs (o + 1) _)
theorem owns_take {base g n cap i : Nat} {e : TypeId} {w : World} {us : List Value} (h : w.ownsRow base e 1 (.slice (some ⟨g, 0, none⟩) n cap) n us) (hi : i ≤ n) : w.ownsRow base e 1 (.slice (some ⟨g, 0, none⟩) i cap) i (us.take i) := by
  obtain ⟨h1, h2⟩ := h
  rcases h2 with ⟨h', _⟩ | ⟨g', cap', cur, h', hb, hg, hnc, hcm, hcs, htake⟩
  · simp at h'
  · simp only [Value.slice.injEq, Option.some.injEq, Addr.mk.injEq, and_true, true_and] at h'
    obtain ⟨rfl, rfl⟩ := h'
    refine ⟨by simp at h1 ⊢; omega, Or.inr ⟨g, cap, cur, rfl, hb, hg, by omega, hcm, hcs, ?_⟩⟩
    rw [← htake, List.take_take]
    congr 1
    simp only [Nat.mul_one]; omega
theorem findL_spec (p : List Int → Bool) : ∀ (xs : Tbl) (k : Nat), (findL p xs k = -1 ∧ ∀ x, x ∈ xs → p x = false) ∨ ∃ i x, xs[i]? = some x ∧ p x = true ∧ findL p xs k = ((k + i : Nat) : Int) ∧ ∀ j y, j < i → xs[j]? = some y → p y = false
  | [], k => Or.inl ⟨rfl, fun x hx => by cases hx⟩
  | x :: xs, k => by
    cases hp : p x with
    | true => exact Or.inr ⟨0, x, rfl, hp, by simp [findL, hp], fun j y hj => by omega⟩
    | false =>
      have e : findL p (x :: xs) k = findL p xs (k + 1) := by simp [findL, hp]
      rcases findL_spec p xs (k + 1) with ⟨h1, h2⟩ | ⟨i, y, h1, h2, h3, h4⟩
      · exact Or.inl ⟨by rw [e, h1], fun y hy => by rcases List.mem_cons.1 hy with rfl | hy; exact hp; exact h2 y hy⟩
      · refine Or.inr ⟨i + 1, y, by simpa using h1, h2, by rw [e, h3]; congr 1; omega, fun j z hj hz => ?_⟩
        cases j with
        | zero => simp at hz; subst hz; exact hp
        | succ j => exact h4 j z (by omega) (by simpa using hz)
theorem mem_filt {α : Type} {p : α → Bool} {x : α} {l : List α} (h : x ∈ l.filter p) : x ∈ l := (List.mem_filter.1 h).1
theorem sub_flatten {a b : List (List Nat)} (h : List.Sublist a b) : List.Sublist a.flatten b.flatten := by
  induction h with
  | slnil => exact List.Sublist.refl _
  | cons x _ ih => exact ih.trans (List.sublist_append_right _ _)
  | cons_cons x _ ih => exact List.Sublist.append (List.Sublist.refl _) ih
theorem nodup_sub {a b : List (List Nat)} (h : List.Sublist a b) (hn : b.flatten.Nodup) : a.flatten.Nodup := List.Nodup.sublist (sub_flatten h) hn
/-- The rows that are kept. -/
def kept (row : List Int) (ts : List Row3) : List Row3 := ts.filter (fun t => keepI row t.2.1)
theorem kept_next {row : List Int} {ts : List Row3} {j : Nat} {t : Row3} (h : ts[j]? = some t) : kept row (ts.take (j + 1)) = if keepI row t.2.1 = true then kept row (ts.take j) ++ [t] else kept row (ts.take j) := by
  unfold kept
  rw [List.take_add_one, h, List.filter_append]
  simp only [Option.toList, List.filter_cons, List.filter_nil]
  split <;> simp
end Go.Sd
namespace Go.Proofs.Ytlkgkfgpnnahdaa
open Go.RowKit Go.Deep Go.Sd

/-- What DeleteFunc leaves. -/
def DelP (F : List Nat) (w : World) (V : Tbl) (e : Ending) (w' : World) : Prop :=
  ∃ r F', e = .returned r ∧ OTab 3 33 w' r V F' ∧ F'.Nodup ∧ (∀ b, b ∈ F' → b ∈ F) ∧ Off F w w'
end Go.Proofs.Ytlkgkfgpnnahdaa
end

section
/-
  SplitOut, the program's: the arcs from a vertex divided.
-/
namespace Go.Proofs.Ytlkgkfgpnnahdaa
open Go.RowKit Go.Deep Go.Sd


/-- A slice of n numbers: where they lie. -/
theorem ints_at {w : World} {v : Value} {xs : List Int} {n : Nat} (h : Ints w v xs) (hn : xs.length = n) (h0 : 0 < n) :
    ∃ b o c, v = .slice (some ⟨b, o, none⟩) n c ∧ b < w.heap.size ∧ ∀ j, j < n → w.cell? ⟨b, o + j, none⟩ = some (.int .i64 (xs.getD j 0)) := by
  subst hn
  obtain ⟨a, c, rfl, _, _, hc⟩ := h.shape
  obtain ⟨b, o, rfl, hb, hx⟩ := hc h0
  refine ⟨b, o, c, rfl, hb, fun j hj => ?_⟩
  obtain ⟨x, hxj, _⟩ := at_lt hj
  obtain ⟨u, hu, rfl⟩ := hx j x hxj
  rw [hu]
  simp [List.getD, hxj]

/-- Row k of the divided matrix, ahead of its last number. -/
def splitR (m : List (List Int)) (I : Nat) (P : List Int) (n k l : Nat) : Int := if k = n then ent m I l - P.getD l 0 else if k = I then P.getD l 0 else ent m k l
def splitT (m : List (List Int)) (I : Nat) (P : List Int) (n : Nat) : List (List Int) := (List.range (n + 1)).map fun k => rowOf' n (splitR m I P n k) ++ [splitR m I P n k I]
theorem splitT_at {m : List (List Int)} {I : Nat} {P : List Int} {n k : Nat} (hk : k < n + 1) : (splitT m I P n)[k]? = some (rowOf' n (splitR m I P n k) ++ [splitR m I P n k I]) := by simp [splitT, hk]
theorem splitT_len (m : List (List Int)) (I : Nat) (P : List Int) (n : Nat) : (splitT m I P n).length = n + 1 := by simp [splitT]
theorem splitR_last (m : List (List Int)) (I : Nat) (P : List Int) (n : Nat) : splitR m I P n n = fun l => ent m I l - P.getD l 0 := by funext l; simp [splitR]
theorem splitR_part (m : List (List Int)) {I : Nat} (P : List Int) {n : Nat} (h : I < n) : splitR m I P n I = fun l => P.getD l 0 := by funext l; unfold splitR; rw [if_neg (by omega), if_pos rfl]
theorem splitR_row (m : List (List Int)) {I : Nat} (P : List Int) {n k : Nat} (h : k < n) (hI : k ≠ I) : splitR m I P n k = fun l => ent m k l := by funext l; unfold splitR; rw [if_neg (by omega), if_neg hI]
theorem row_full {r : List Int} {n : Nat} (h : r.length = n) : r = rowOf' n (fun l => r.getD l 0) := by subst h; exact row_eq r

def partOk (m : List (List Int)) (I : Nat) (P : List Int) (n : Nat) : Prop := ∀ l, l < n → 0 ≤ P.getD l 0 ∧ P.getD l 0 ≤ ent m I l ∧ ent m I l ≤ 1000000

end Go.Proofs.Ytlkgkfgpnnahdaa
end

section
/-
  PartsOf, the program's.
-/
namespace Go.Sd
open Go.RowKit Go.Deep
theorem New.one {α : Type} {e : TypeId} {R : OwnRel α} (hR : Kept R) {lo : Nat} {w : World} {u : Value} {x : α} (h : New R lo w u x) (hlo : lo ≤ w.heap.size) :
    New (OwnOf e R) lo (w.alloc (.cells #[u] e)) (.slice (some ⟨w.heap.size, 0, none⟩) 1 1) [x] := by
  obtain ⟨F, hF, hn, hge⟩ := h
  have hlt := hR.lt _ _ _ _ hF
  refine ⟨w.heap.size :: F, ⟨[u], [F], ⟨by simp, .inr ⟨w.heap.size, 1, #[u], rfl, Nat.zero_le _, heap_alloc_new w _, Nat.le_refl _, by simp [maxLen], by simp, by simp⟩⟩, rfl, ?_, by simp [Value.ownBlock]⟩, List.nodup_cons.2 ⟨fun hm => by have := hlt _ hm; omega, hn⟩, fun b hb => by
    rcases List.mem_cons.1 hb with rfl | hb
    · exact hlo
    · exact hge b hb⟩
  intro i u' x' G hu hx hG
  cases i with
  | zero =>
    simp at hu hx hG
    subst hu hx hG
    exact Kept.below hR hF ((Below.refl _ _).alloc (Nat.le_refl _) _)
  | succ i => simp at hu
theorem exts_len (l : List Int) (x : Int) : (exts l x).length = x.toNat + 1 := by simp [exts]
theorem flat_len (x : Int) : ∀ ls : Tbl, (ls.flatMap fun l => exts l x).length = ls.length * (x.toNat + 1)
  | [] => by simp
  | l :: ls => by
    rw [List.flatMap_cons, List.length_append, flat_len x ls, exts_len, List.length_cons, Nat.succ_mul]; omega
/-- Rows of k small numbers. -/
def RowsK (k : Nat) (cur : Tbl) : Prop := cur.length ≤ 4 ^ k ∧ ∀ l, l ∈ cur → l.length = k ∧ ∀ y, y ∈ l → 0 ≤ y ∧ y ≤ 3
theorem RowsK.next {k : Nat} {cur : Tbl} {x : Int} (h : RowsK k cur) (h0 : 0 ≤ x) (h3 : x ≤ 3) : RowsK (k + 1) (ext cur x) := by
  constructor
  · unfold ext
    rw [flat_len, Nat.pow_succ]
    exact Nat.mul_le_mul h.1 (by omega)
  · intro l hl
    obtain ⟨l0, hl0, hl1⟩ := List.mem_flatMap.1 hl
    obtain ⟨y, hy, rfl⟩ := List.mem_map.1 hl1
    have h1 := h.2 l0 hl0
    have hy2 := List.mem_range.1 hy
    refine ⟨by rw [List.length_append, h1.1]; rfl, fun z hz => ?_⟩
    rcases List.mem_append.1 hz with hz | hz
    · exact h1.2 z hz
    · simp at hz; omega
end Go.Sd
namespace Go.Proofs.Ytlkgkfgpnnahdaa
open Go.RowKit Go.Deep Go.Sd
end Go.Proofs.Ytlkgkfgpnnahdaa
end

section
/-
  Small matrices drawn, bent; the draw of TurnMatrix.
-/
namespace Go.Proofs.Ytlkgkfgpnnahdaa
open Go.RowKit Go.Deep Go.Sd
set_option linter.unusedSimpArgs false
/-- What a bent matrix is. -/
def BentM (m : List (List Int)) : Prop := 0 < m.length ∧ m.length ≤ 5 ∧ ∀ r, r ∈ m → r.length ≤ 5 ∧ ∀ x, x ∈ r → -1 ≤ x ∧ x ≤ 1000001
theorem SmallD.bent {m : List (List Int)} (h : SmallD m) : BentM m := by
  obtain ⟨h1, h2, h3⟩ := isMat_sq h.1
  have hb := isMat_bd h.1
  refine ⟨by omega, by have := h.2; omega, fun r hr => ⟨by have := h1.2 r hr; have := h.2.1; omega, fun x hx => ?_⟩⟩
  have := hb r hr x hx
  omega
/-- Off the corner no number is great. -/
def Low (m : List (List Int)) : Prop := ∀ i j r x, m[i]? = some r → r[j]? = some x → (i ≠ 0 ∨ j ≠ 0) → x ≤ 9
def Bent9 (m : List (List Int)) : Prop := BentM m ∧ Low m
theorem SmallD.low {m : List (List Int)} (h : SmallD m) : Low m := fun i j r x hr hx _ => h.2.2 r (List.mem_of_getElem? hr) x (List.mem_of_getElem? hx)
theorem Low.set {m : List (List Int)} (h : Low m) {r : List Int} {y : Int} (hr : m[0]? = some r) : Low (m.set 0 (r.set 0 y)) := by
  intro i j q x hq hx hne
  by_cases hi : i = 0
  · subst hi
    have hl : 0 < m.length := (List.getElem?_eq_some_iff.1 hr).1
    rw [List.getElem?_set_self hl] at hq
    obtain rfl := Option.some.inj hq
    have hj : j ≠ 0 := by rcases hne with h1 | h1 <;> omega
    rw [List.getElem?_set_ne (by omega)] at hx
    exact h 0 j r x hr hx (Or.inr hj)
  · rw [List.getElem?_set_ne (by omega)] at hq
    exact h i j q x hq hx hne
theorem SmallD.row {m : List (List Int)} (h : SmallD m) : ∃ r x, m[0]? = some r ∧ r[0]? = some x ∧ m.length ≤ 4 := by
  obtain ⟨h1, h2, h3⟩ := isMat_sq h.1
  have h4 : 0 < m.length := by omega
  have hr := h1.2 m[0] (List.getElem_mem h4)
  exact ⟨m[0], m[0][0]'(by omega), List.getElem?_eq_getElem h4, List.getElem?_eq_getElem (by omega), h.2.1⟩
theorem BentM.set {m : List (List Int)} (h : BentM m) {r : List Int} {y : Int} (hr : m[0]? = some r) (hy : -1 ≤ y ∧ y ≤ 1000001) : BentM (m.set 0 (r.set 0 y)) := by
  have hm := List.mem_of_getElem? hr
  refine ⟨by rw [List.length_set]; exact h.1, by rw [List.length_set]; exact h.2.1, fun q hq => ?_⟩
  rcases List.mem_or_eq_of_mem_set hq with h1 | h1
  · exact h.2.2 q h1
  · rw [h1, List.length_set]
    refine ⟨(h.2.2 r hm).1, fun x hx => ?_⟩
    rcases List.mem_or_eq_of_mem_set hx with h2 | h2
    · exact (h.2.2 r hm).2 x h2
    · rw [h2]; exact hy
set_option maxHeartbeats 2000000 in
set_option maxRecDepth 100000 in
theorem l4Bent_c {lo : Nat} {w : World} {cb : Nat} {K : Value} {xs : List Int} {rs : List Res} (hK : ∀ w', Below lo w w' → BytR w' K xs) (hc : Cur lo w cb K xs.length rs) (hlo : lo ≤ w.heap.size) :
    Calls Try.prog 89 #[.pointer (some ⟨cb, 0, none⟩)] w fun e w' => ∃ v : Value, e = .returned v ∧ ∃ m : List (List Int), Bent9 m ∧ Cur lo w' cb K xs.length (ResM v m :: rs) ∧ Below lo w w' := by
  have HK := Lib.hid hK
  have HD := Lib.hid (show Calls Try.prog 165 #[.pointer (some ⟨cb, 0, none⟩), .int .i64 4] w _ from l4Draw_c (most := 4) hK hc hlo (by omega) (by omega))
  clear hK hc
  go_enter Try.func89, Try.ntmps89
  go_wp2_with fail
  (with_reducible refine HD.out.mono ?_)
  rintro e w1 ⟨v, rfl, m, hm, hc, hb⟩
  have hz1 : lo ≤ w1.heap.size := Nat.le_trans hlo hb.size
  have HB1 := Lib.hid hb
  have HP := Lib.hid (l1Below_i (z := 16) (fun w' hb' => HK.out w' (hb.trans hb')) hc hz1 (by decide) (by decide))
  obtain ⟨ta, tc, rfl, -⟩ := (New.tab hc.out.headNew).shape
  have Hm := Lib.hid hm
  clear hm hc hb HD
  go_wp2_with fail
  (with_reducible refine HP.out.mono ?_)
  rintro e wi ⟨t, rfl, ht, hc, hb, ho⟩
  have HC := Lib.hid hc
  have HB := Lib.hid (HB1.out.trans hb)
  have hzi : lo ≤ wi.heap.size := Nat.le_trans hz1 hb.size
  have ht16 : t < 16 := ht
  clear hc hb ho HP HB1 ht hz1
  by_cases ht0 : t = 0
  · have t0 : ((t : Int) == 0) = true := by simp [ht0]
    obtain ⟨r, x, hr, hx, hm4⟩ := Hm.out.row
    obtain ⟨ci, ch, hcin, hsep⟩ := HC.out
    obtain ⟨tb, tc1, rb, rc, hv, hlt, hbt, gr, hlr, hbr, -, -, -⟩ := hsep.swap.tabSet hr hx
    simp only [Value.slice.injEq] at hv
    obtain ⟨rfl, -, rfl⟩ := hv
    have hne : tb ≠ cb ∧ rb ≠ cb := by
      obtain ⟨F, ⟨G, H, e1, hG, G2, H2, e2, hG2, h3⟩, hnd, hge⟩ := hsep
      obtain ⟨rfl, -⟩ := hG
      have hnn := List.nodup_append.1 (e1 ▸ hnd)
      have hto : OTab 3 33 wi (.slice (some ⟨tb, 0, none⟩) m.length tc) m G2 := hG2
      obtain ⟨b5, c5, u5, G5, hv5, -, hb5, -, hc5, -, hu5, hGF5, hG5n, -, -⟩ := OwnOf.focus (OInts.kept _) hto (List.nodup_append.1 (e2 ▸ hnn.2.1)).1 hr
      simp only [Value.slice.injEq, Option.some.injEq, Addr.mk.injEq] at hv5
      obtain ⟨⟨rfl, -, -⟩, -, -⟩ := hv5
      rw [gr] at hc5
      obtain ⟨b6, c6, u6, G6, hv6, -, hb6, -⟩ := OwnOf.focus OIntR.kept hu5 hG5n hx
      have e5 := Option.some.inj hc5
      rw [← e5] at hv6
      simp only [Value.slice.injEq, Option.some.injEq, Addr.mk.injEq] at hv6
      obtain ⟨⟨rfl, -, -⟩, -, -⟩ := hv6
      subst e2
      exact ⟨fun e => hnn.2.2 cb (by simp) tb (List.mem_append_left _ hb5) e.symm, fun e => hnn.2.2 cb (by simp) rb (List.mem_append_left _ (hGF5 rb hb6)) e.symm⟩
    obtain ⟨n, hn⟩ : ∃ n, n = m.length := ⟨_, rfl⟩
    obtain ⟨rl, hrl⟩ : ∃ n, n = r.length := ⟨_, rfl⟩
    have HN := Lib.hid hn
    have HR := Lib.hid hrl
    have hn1 : (0 : Int) < (n : Int) := by have := Hm.out.bent.1; omega
    have hn1n : 0 < n := by omega
    have hr1 : (0 : Int) < (rl : Int) := by have := (List.getElem?_eq_some_iff.1 hx).1; omega
    have hr1n : 0 < rl := by omega
    rw [← hn] at HC ⊢
    rw [← hrl] at gr
    have Hst := Lib.hid (fun (w2 : World) (hc2 : Cur lo w2 cb K xs.length (ResM (.slice (some ⟨tb, 0, none⟩) n tc) m :: rs)) (ho : Off [cb] wi w2) => (show (w2.frozen? ⟨rb, 0, none⟩ = false ∧ w2.cell? ⟨rb, 0, none⟩ = some (.int .i64 x)) ∧ ∀ y, Cur lo (w2.setCell ⟨rb, 0, none⟩ (.int .i64 y)) cb K xs.length (ResM (.slice (some ⟨tb, 0, none⟩) n tc) (m.set 0 (r.set 0 y)) :: rs) from by
      obtain ⟨ci2, ch2, hcin2, hsep2⟩ := hc2
      obtain ⟨tb1, tc1, rb1, rc1, hv, -, -, gr1, -, -, x1, f1, s1⟩ := hsep2.swap.tabSet hr hx
      simp only [Value.slice.injEq, Option.some.injEq, Addr.mk.injEq] at hv
      obtain ⟨⟨rfl, -, -⟩, -, -⟩ := hv
      have e7 : w2.cell? ⟨tb, 0, none⟩ = wi.cell? ⟨tb, 0, none⟩ := World.cell?_of_block (ho.block tb hbt (by simp; exact hne.1))
      rw [e7, gr] at gr1
      have e8 := Option.some.inj gr1
      simp only [Value.slice.injEq, Option.some.injEq, Addr.mk.injEq] at e8
      obtain ⟨⟨rfl, -, -⟩, -, -⟩ := e8
      exact ⟨⟨f1, x1⟩, fun y => ⟨ci2, ch2, hcin2, (s1 y).swap⟩⟩))
    have Hin := Lib.hid (fun y (hy : -1 ≤ y ∧ y ≤ 1000001) => (show Bent9 _ from ⟨Hm.out.bent.set hr hy, Hm.out.low.set hr⟩))
    obtain ⟨w1a, e1a⟩ : ∃ x, x = (wi.alloc (.cells #[.int .i64 (-1), .int .i64 1000000, .int .i64 1000001, .int .i64 9] 3)).drew := ⟨_, rfl⟩
    have hb1a : Below wi.heap.size wi w1a := by rw [e1a]; exact ((Below.refl _ _).alloc (Nat.le_refl _) _).drew
    have HC1a := Lib.hid (show Cur lo w1a cb K xs.length (Res.box wi.heap.size (([-1, 1000000, 1000001, 9] : List Int).map (Value.int .i64)) :: ResM (.slice (some ⟨tb, 0, none⟩) n tc) m :: rs) from by rw [e1a]; exact (HC.out.box hzi (([-1, 1000000, 1000001, 9] : List Int).map (Value.int .i64)) 3).below (Below.refl _ _).drew)
    have HB1a := Lib.hid (HB.out.trans (hb1a.mono hzi))
    have HO1a := Lib.hid (Off.of_below (F := [cb]) hb1a)
    have hz1a : lo ≤ w1a.heap.size := Nat.le_trans hzi hb1a.size
    have HPk := Lib.hid (show Calls Try.prog 104 #[.pointer (some ⟨cb, 0, none⟩), .slice (some ⟨wi.heap.size, 0, none⟩) 4 4] w1a _ from l1PickInt_c (ls := [-1, 1000000, 1000001, 9]) (c := 4) (fun w' hb => HK.out w' (HB1a.out.trans hb)) HC1a.out hz1a (by decide) (by decide))
    have HSc := Lib.hid (fun (w2 : World) (ho : Off [cb] wi w2) => (show w2.cell? ⟨tb, 0, none⟩ = some (.slice (some ⟨rb, 0, none⟩) rl rc) from (World.cell?_of_block (ho.block tb hbt (by simp; exact hne.1))).trans gr))
    have hSd : wi.drew.cell? ⟨tb, 0, none⟩ = some (.slice (some ⟨rb, 0, none⟩) rl rc) := gr
    have hS1 : w1a.cell? ⟨tb, 0, none⟩ = some (.slice (some ⟨rb, 0, none⟩) rl rc) := HSc.out _ HO1a.out
    have e1s := e1a.symm
    clear e1a hr hx hsep hne hb1a HC gr HC1a hn hrl ht0
    go_wp2
    refine wp_region_L (fun w' => w'.cell? ⟨tb, 0, none⟩ = some (.slice (some ⟨rb, 0, none⟩) rl rc)) (by kernel_rfl) ?_
    refine wpAnyL_take 0 (v := ?_) rfl (by kernel_rfl) (by kernel_rfl) (by kernel_rfl) (by kernel_rfl) (fun _ _ _ h => h) (Or.inl ⟨by rfl, ?_⟩) hSd ?_
    rotate_left
    · (intro w hSw; (try dsimp only at hSw); go_simp) <;> (try with_reducible rfl)
    try simp only [Act.put, List.getElem_toArray, List.getElem_cons_zero, List.getElem_cons_succ, List.setIfInBounds_toArray, List.set_cons_zero, List.set_cons_succ]
    refine wpAnyL_take 1 (v := ?_) rfl (by kernel_rfl) (by kernel_rfl) (by kernel_rfl) (by kernel_rfl) (fun _ _ _ h => h) (Or.inl ⟨by rfl, ?_⟩) hSd ?_
    rotate_left
    · (intro w hSw; (try dsimp only at hSw); go_simp) <;> (try with_reducible rfl)
    try simp only [Act.put, List.getElem_toArray, List.getElem_cons_zero, List.getElem_cons_succ, List.setIfInBounds_toArray, List.set_cons_zero, List.set_cons_succ]
    refine wpAnyL_take 2 (v := ?_) rfl (by kernel_rfl) (by kernel_rfl) (by kernel_rfl) (by kernel_rfl) (fun _ _ _ h => h) (Or.inl ⟨by rfl, ?_⟩) hSd ?_
    rotate_left
    · (intro w hSw; (try dsimp only at hSw); go_simp) <;> (try with_reducible rfl)
    try simp only [Act.put, List.getElem_toArray, List.getElem_cons_zero, List.getElem_cons_succ, List.setIfInBounds_toArray, List.set_cons_zero, List.set_cons_succ]
    refine wpAnyL_take 3 (v := ?_) rfl (by kernel_rfl) (by kernel_rfl) (by kernel_rfl) (by kernel_rfl) (fun _ _ _ h => h) (Or.inl ⟨by rfl, ?_⟩) hSd ?_
    rotate_left
    · (intro w hSw; (try dsimp only at hSw); go_simp) <;> (try with_reducible rfl)
    try simp only [Act.put, List.getElem_toArray, List.getElem_cons_zero, List.getElem_cons_succ, List.setIfInBounds_toArray, List.set_cons_zero, List.set_cons_succ]
    refine wpAnyL_one 4 (by kernel_rfl) rfl (fun K hK => ?_)
    go_simp
    refine hK.out _ _ (fun _ => hS1) ?_
    clear hK K
    try simp only [Act.put, List.getElem_toArray, List.getElem_cons_zero, List.getElem_cons_succ, List.setIfInBounds_toArray, List.set_cons_zero, List.set_cons_succ]
    refine wpAnyL_one 5 (by kernel_rfl) rfl (fun K hK => ?_)
    go_simp
    (with_reducible refine HPk.out.mono ?_)
    rintro e w3 ⟨y, rfl, hy3, hc, hb, ho⟩
    have hy : -1 ≤ y ∧ y ≤ 1000001 := by simp at hy3; omega
    have HCp := Lib.hid hc.rest
    have HBp := Lib.hid (HB1a.out.trans hb)
    have HOp := Lib.hid (HO1a.out.trans ho)
    have hS3 : w3.cell? ⟨tb, 0, none⟩ = some (.slice (some ⟨rb, 0, none⟩) rl rc) := HSc.out _ HOp.out
    have hf3 := (Hst.out w3 HCp.out HOp.out).1.1
    have hx3 := (Hst.out w3 HCp.out HOp.out).1.2
    clear hc hb ho hy3
    go_wp2_with fail
    refine hK.out _ _ (fun _ => hS3) ?_
    clear hK K
    try simp only [Act.put, List.getElem_toArray, List.getElem_cons_zero, List.getElem_cons_succ, List.setIfInBounds_toArray, List.set_cons_zero, List.set_cons_succ]
    refine wpAnyL_take 6 (v := ?_) rfl (by kernel_rfl) (by kernel_rfl) (by kernel_rfl) (by kernel_rfl) (fun _ _ _ h => h) (Or.inl ⟨by rfl, ?_⟩) hS3 ?_
    rotate_left
    · (intro w hSw; (try dsimp only at hSw); go_simp) <;> (try with_reducible rfl)
    try simp only [Act.put, List.getElem_toArray, List.getElem_cons_zero, List.getElem_cons_succ, List.setIfInBounds_toArray, List.set_cons_zero, List.set_cons_succ]
    refine wpAnyL_one 7 (by kernel_rfl) rfl (fun K hK => ?_)
    go_simp
    refine hK.out _ _ (fun h => absurd h (not_rem (by kernel_rfl))) ?_
    clear hK K
    try simp only [Act.put, List.getElem_toArray, List.getElem_cons_zero, List.getElem_cons_succ, List.setIfInBounds_toArray, List.set_cons_zero, List.set_cons_succ]
    refine wpAnyL_done (by kernel_rfl) ?_ _
    go_wp2
    go_ret
    exact ⟨_, rfl, _, Hin.out y hy, (Hst.out w3 HCp.out HOp.out).2 y, HBp.out.setCell (p := ⟨rb, 0, none⟩) hlr _⟩
  have t0 : ((t : Int) == 0) = false := by simp; omega
  by_cases ht1 : t = 1
  · have t1 : ((t : Int) == 1) = true := by simp [ht1]
    obtain ⟨ci, ch, hcin, hsep⟩ := HC.out
    have hl4 := Hm.out.2.1
    obtain ⟨w2, e2⟩ : ∃ x, x = wi.alloc (.cells #[.int .i64 1] 3) := ⟨_, rfl⟩
    have hb2 : Below wi.heap.size wi w2 := by rw [e2]; exact (Below.refl _ _).alloc (Nat.le_refl _) _
    have hn2 : New (OInts 3) wi.heap.size w2 (.slice (some ⟨wi.heap.size, 0, none⟩) 1 1) [1] := by rw [e2]; exact New.one OIntR.kept (u := .int .i64 1) (x := 1) ⟨[], ⟨rfl, rfl⟩, by simp [Fresh]⟩ (Nat.le_refl _)
    have hz2 : w2.heap.size = wi.heap.size + 1 := by rw [e2]; simp
    obtain ⟨v4, w4, hr4, hs4, hb4⟩ := hsep.swap.push (P := Try.prog) (OInts.kept 3) 24 24 (.slice none 0 0) 24 Try.underlying24 infoR rfl hzi (w1 := w2.alloc (.cells #[.slice (some ⟨wi.heap.size, 0, none⟩) 1 1] 33)) (hb2.alloc hb2.size _) (New.keep (OInts.kept _) hn2 ((Below.refl w2.heap.size _).alloc (Nat.le_refl _) _) (Nat.le_refl _)) (bb := w2.heap.size) (c := 1) (World.cell?_alloc_at _ _ _ 0 rfl) (by omega) (by omega)
    rw [hz2] at hr4
    have Hr4 := Lib.hid (show (Builtin.append_ #[24, 24] 24 #[.slice ta m.length tc, .slice (some ⟨wi.heap.size + 1, 0, none⟩) 1 1]).run Try.prog ((wi.alloc (.cells #[.int .i64 1] 3)).alloc (.cells #[.slice (some ⟨wi.heap.size, 0, none⟩) 1 1] 33)) = .ok v4 w4 from by rw [← e2]; exact hr4)
    have HC4 := Lib.hid (show Cur lo w4 cb K xs.length (ResM v4 (m ++ [[1]]) :: rs) from ⟨ci, ch, hcin, hs4.swap⟩)
    have HB4 := Lib.hid (HB.out.trans hb4)
    have Hbt := Lib.hid (show Bent9 (m ++ [[1]]) from by
      refine ⟨?_, fun i j r x hr hx _ => ?_⟩
      rotate_left
      · rcases List.mem_append.1 (List.mem_of_getElem? hr) with h1 | h1
        · exact Hm.out.2.2 r h1 x (List.mem_of_getElem? hx)
        · simp at h1
          subst h1
          have := List.mem_of_getElem? hx
          simp at this
          omega
      have h := Hm.out.bent
      refine ⟨by simp, by simp; omega, fun r hr => ?_⟩
      rcases List.mem_append.1 hr with hr | hr
      · exact h.2.2 r hr
      · simp at hr
        subst hr
        exact ⟨by decide, fun x hx => by simp at hx; omega⟩)
    generalize m.length = ml at *
    clear hsep e2 hb2 hn2 hz2 hr4 hs4 hb4 HC HB ht1 hl4
    go_wp2_with (at_builtin; refine wpl_append_run rfl (.tmp 19) (.tmp 21) 24 rfl rfl rfl Hr4.out ?_)
    go_ret
    exact ⟨_, rfl, _, Hbt.out, HC4.out, HB4.out⟩
  · have t1 : ((t : Int) == 1) = false := by simp; omega
    go_wp2
    go_ret
    exact ⟨_, rfl, _, ⟨Hm.out.bent, Hm.out.low⟩, HC.out, HB.out⟩
end Go.Proofs.Ytlkgkfgpnnahdaa
end

section
/-
  SplitOut, the program's.
-/
namespace Go.Proofs.Ytlkgkfgpnnahdaa
open Go.RowKit Go.Deep Go.Sd

def partF (m : List (List Int)) (I : Nat) (P : List Int) (l : Nat) : Bool := decide (0 ≤ P.getD l 0 ∧ P.getD l 0 ≤ ent m I l)
def splitOk (m : List (List Int)) (i : Int) (P : List Int) : Bool :=
  isMat m && decide (m.length ≤ 8 ∧ 0 ≤ i ∧ i < m.length ∧ P.length = m.length) && allF (partF m i.toNat P) m.length 0
def splitV (m : List (List Int)) (i : Int) (P : List Int) : List (List Int) := if splitOk m i P = true then splitT m i.toNat P m.length else []

theorem allF_all {h : Nat → Bool} : ∀ {g k : Nat}, allF h g k = true → ∀ l, k ≤ l → l < k + g → h l = true
  | 0, k, _, l, h1, h2 => by omega
  | g + 1, k, H, l, h1, h2 => by
    unfold allF at H
    by_cases hk : h k = true
    · rw [if_pos hk] at H
      by_cases e : l = k
      · rw [e]; exact hk
      · exact allF_all H l (by omega) (by omega)
    · rw [if_neg hk] at H; cases H

theorem partOk_of {m : List (List Int)} {I n : Nat} {P : List Int} (hm : isMat m = true) (hn : m.length = n) (hI : I < n) (h : allF (partF m I P) n 0 = true) : partOk m I P n := by
  intro l hl
  have h1 := allF_all h l (Nat.zero_le _) (by omega)
  unfold partF at h1
  simp only [decide_eq_true_eq] at h1
  subst hn
  obtain ⟨r, hr, hx⟩ := ent_mem (isMat_sq hm).1.2 hI hl
  have h2 := isMat_bd hm r hr _ hx
  omega

theorem partF_t {m : List (List Int)} {I k : Nat} {P : List Int} (hx : 0 ≤ P.getD k 0) (hy : P.getD k 0 ≤ ent m I k) : partF m I P k = true := decide_eq_true ⟨hx, hy⟩
theorem partF_f {m : List (List Int)} {I k : Nat} {P : List Int} (h : ¬ (0 ≤ P.getD k 0 ∧ P.getD k 0 ≤ ent m I k)) : partF m I P k = false := decide_eq_false h

theorem splitT_sq (m : List (List Int)) (I : Nat) (P : List Int) (n : Nat) : Sq (n + 1) (splitT m I P n) := ⟨splitT_len m I P n, fun r hr => by
  unfold splitT at hr
  obtain ⟨k, _, rfl⟩ := List.mem_map.1 hr
  rw [List.length_append, rowOf_len]
  rfl⟩
theorem splitOk_sq {m : List (List Int)} {i : Int} {P : List Int} (h : splitOk m i P = true) : ∃ n, Sq n (splitV m i P) ∧ 0 < n ∧ n ≤ 9 := by
  refine ⟨m.length + 1, by unfold splitV; rw [if_pos h]; exact splitT_sq _ _ _ _, by omega, ?_⟩
  unfold splitOk at h
  simp only [Bool.and_eq_true, decide_eq_true_eq] at h
  omega
theorem splitV_bd (m : List (List Int)) (i : Int) (P : List Int) : (splitV m i P).length ≤ 9 ∧ ∀ x, x ∈ splitV m i P → x.length ≤ 9 := by
  by_cases h : splitOk m i P = true
  · obtain ⟨n, hs, _, h9⟩ := splitOk_sq h
    exact ⟨by rw [hs.1]; exact h9, fun x hx => by rw [hs.2 x hx]; exact h9⟩
  · unfold splitV
    rw [if_neg h]
    exact ⟨by simp, fun x hx => by cases hx⟩

end Go.Proofs.Ytlkgkfgpnnahdaa
end

section
/-
  SplitOut, the reference's.
-/
namespace Go.Proofs.Ytlkgkfgpnnahdaa
open Go.RowKit Go.Deep Go.Sd

/-- The first k rows bear their last number already. -/
def splitF (m : List (List Int)) (I : Nat) (P : List Int) (n k : Nat) : List (List Int) := (List.range (n + 1)).map fun i => if i < k then rowOf' n (splitR m I P n i) ++ [splitR m I P n i I] else rowOf' n (splitR m I P n i)
theorem splitF_len (m : List (List Int)) (I : Nat) (P : List Int) (n k : Nat) : (splitF m I P n k).length = n + 1 := by simp [splitF]
theorem splitF_at {m : List (List Int)} {I : Nat} {P : List Int} {n k : Nat} (hk : k < n + 1) : (splitF m I P n k)[k]? = some (rowOf' n (splitR m I P n k)) := by simp [splitF, hk]
theorem splitF_full (m : List (List Int)) (I : Nat) (P : List Int) (n : Nat) : splitF m I P n (n + 1) = splitT m I P n := by
  unfold splitF splitT
  refine List.map_congr_left fun i hi => ?_
  rw [if_pos (List.mem_range.1 hi)]
theorem splitF_set {m : List (List Int)} {I : Nat} {P : List Int} {n k : Nat} : (splitF m I P n k).set k (rowOf' n (splitR m I P n k) ++ [splitR m I P n k I]) = splitF m I P n (k + 1) := by
  apply List.ext_getElem?
  intro j
  by_cases hj : j < n + 1
  · by_cases e : j = k
    · subst e
      rw [List.getElem?_set_self (by rw [splitF_len]; exact hj)]
      simp [splitF, hj]
    · rw [List.getElem?_set_ne (by omega)]
      simp only [splitF, List.getElem?_map, List.getElem?_range hj, Option.map_some]
      by_cases h : j < k
      · rw [if_pos h, if_pos (by omega)]
      · rw [if_neg h, if_neg (by omega)]
  · rw [List.getElem?_eq_none (by rw [List.length_set, splitF_len]; omega), List.getElem?_eq_none (by rw [splitF_len]; omega)]
theorem splitF_start {m : List (List Int)} {I : Nat} {P : List Int} {n : Nat} (hm : Sq n m) (hI : I < n) (hp : P.length = n) :
    m.set I P ++ [rowOf' n (splitR m I P n n)] = splitF m I P n 0 := by
  apply List.ext_getElem?
  intro j
  have hl : (m.set I P).length = n := by rw [List.length_set, hm.1]
  by_cases hj : j < n
  · rw [List.getElem?_append_left (by omega)]
    rw [show (splitF m I P n 0)[j]? = some (rowOf' n (splitR m I P n j)) from by simp [splitF, show j < n + 1 by omega]]
    by_cases e : j = I
    · subst e
      rw [List.getElem?_set_self (by rw [hm.1]; exact hj), splitR_part m P hj, ← row_full hp]
    · rw [List.getElem?_set_ne (by omega), (hm.row hj).1, splitR_row m P hj e]
      exact congrArg some (row_full (hm.row hj).2)
  · by_cases e : j = n
    · subst e
      rw [List.getElem?_append_right (by omega), hl]
      simp [splitF]
    · rw [List.getElem?_eq_none (by rw [List.length_append, hl]; simp; omega), List.getElem?_eq_none (by rw [splitF_len]; omega)]
set_option maxHeartbeats 2000000 in
set_option maxRecDepth 100000 in
theorem spec_SplitOut_c {w : World} {va vp : Value} {m : List (List Int)} {P : List Int} {i : Int} (h1 : Tab w va m) (h2 : Ints w vp P) :
    Calls Try.prog 171 #[va, .int .i64 i, vp] w (Makes2 (OTab 3 33) w (splitV m i P) (splitOk m i P)) := by
  have hsa := h1.shape
  obtain ⟨aa, ac, rfl, _, _, _⟩ := hsa
  have hsp := h2.shape
  obtain ⟨pa, pc, rfl, _, _, _⟩ := hsp
  have Hc := Lib.hid (spec_IsMatrix_c h1)
  have Hno := Lib.hid (fun (h : splitOk m i P = false) => show splitV m i P = [] from by unfold splitV; rw [h]; rfl)
  have hpl := h2.len
  cases hm : isMat m with
  | false =>
    have HK := Lib.hid (show splitOk m i P = false from by unfold splitOk; rw [hm]; rfl)
    rw [hm] at Hc
    rw [HK.out]
    clear h1 h2 hm
    go_enter Try.func171, Try.ntmps171
    go_wp2_with fail
    refine Hc.out.mono ?_
    rintro e w' ⟨rfl, rfl⟩
    go_wp2
    go_ret2
    exact ⟨_, rfl, by rw [Hno.out HK.out]; exact New.empty w (Nat.le_refl _), (Below.refl _ _).alloc (Nat.le_refl _) _⟩
  | true =>
    rw [hm] at Hc
    have sm := isMat_sq hm
    by_cases hij : m.length ≤ 8 ∧ 0 ≤ i ∧ i < m.length ∧ P.length = m.length
    · obtain ⟨I, rfl⟩ : ∃ I : Nat, i = (I : Int) := ⟨i.toNat, by omega⟩
      have HO := Lib.hid (show splitOk m I P = allF (partF m I P) m.length 0 from by unfold splitOk; rw [hm]; simp [hij])
      have HV := Lib.hid (show splitV m I P = if splitOk m I P = true then splitT m I P m.length else [] from rfl)
      generalize splitOk m I P = ok at HO HV Hno ⊢
      generalize splitV m I P = rv at HV Hno ⊢
      have Hpo := Lib.hid (fun (h : allF (partF m I P) m.length 0 = true) => partOk_of hm rfl (show I < m.length by omega) h)
      clear hm
      generalize hn : m.length = n at *
      have hIn : I < n := by omega
      have hn0 : 0 < n := by omega
      have hn8 : n ≤ 8 := hij.1
      have hp : P.length = n := hij.2.2.2
      have t9 : ((n : Int) == 9) = false := by simp; omega
      have tp : ((P.length : Int) != (n : Int)) = false := by simp [hp]
      have Hcp := Lib.hid (fun w1 (hb : Below w.heap.size w w1) => l4Copy_c (Tab.frame _ _ _ _ h1 hb) (by omega) (fun r hr => by rw [sm.1.2 r hr]; omega))
      have Hsq := Lib.hid sm.1
      have H2 := Lib.hid h2
      have Hp := Lib.hid hp
      have Hin := Lib.hid (l1In_yes (a := (I : Int)) (b := 0) (c := (n : Int) - 1) w (by omega) (by omega))
      obtain ⟨ab, ao, ac', hv1, hab, hae⟩ := h1.entAt hn sm.1.2 hn0
      obtain ⟨rfl, rfl⟩ : aa = some ⟨ab, ao, none⟩ ∧ ac = ac' := by simp at hv1; exact hv1
      obtain ⟨pb, po, pc', hv2, hpb, hpe⟩ := ints_at h2 hp hn0
      rw [hp] at hv2
      obtain ⟨rfl, rfl⟩ : pa = some ⟨pb, po, none⟩ ∧ pc = pc' := by simp at hv2; exact hv2
      obtain ⟨rb, ro, rc, hA1, hrb, _, hA2⟩ := hae.at hIn hn0
      have hi1 : (I : Int) < (n : Int) := by omega
      rw [hp] at hpl tp H2 ⊢
      clear h1 h2 sm hij hv1 hv2 hn hae hp
      go_enter Try.func171, Try.ntmps171
      go_wp2_with fail
      refine Hc.out.mono ?_
      rintro e w' ⟨rfl, rfl⟩
      go_wp2_with (go_at_call 100; refine Hin.out.mono ?_; rintro e w' ⟨rfl, rfl⟩)
      go_loopg [8] n (fun g ii wr => ∃ (k : Nat), ii = .int .i64 k ∧ k + g = n ∧ Hid (allF (partF m I P) n 0 = allF (partF m I P) g k) ∧ Drawn w wr)
      case atStart => exact ⟨0, rfl, by omega, Lib.hid rfl, Drawn.refl _⟩
      case round =>
        obtain ⟨k, rfl, hk, H, hdr⟩ := hrel
        obtain ⟨g, hg⟩ : ∃ g, g = gk := ⟨_, rfl⟩
        rw [← hg] at H hk
        by_cases hlt : k < n
        · obtain ⟨g', rfl⟩ : ∃ t, g = t + 1 := ⟨g - 1, by omega⟩
          have H1 := Lib.hid (show allF (partF m I P) n 0 = if partF m I P k = true then allF (partF m I P) g' (k + 1) else false from H.out)
          have hP3 := hpe k hlt
          have hA3 := hA2 k hlt
          have hk1 : (k : Int) < (n : Int) := by omega
          have hrule := hdr.cell
          clear H hpe hA2
          by_cases hx : 0 ≤ P.getD k 0 ∧ P.getD k 0 ≤ ent m I k
          · have H3 := Lib.hid (show allF (partF m I P) n 0 = allF (partF m I P) g' (k + 1) from by rw [H1.out, partF_t hx.1 hx.2, if_pos rfl])
            have Hl := Lib.hid (fun q => (l1In_yes (wr.drewN q) hx.1 hx.2).mono (fun e w'' h => (⟨h.1, q, h.2.symm⟩ : e = .returned (.bool true) ∧ ∃ q', w'' = wr.drewN q')))
            clear H1 hx
            generalize P.getD k 0 = X at *
            generalize ent m I k = Y at *
            go_wp2
            go_quiet ((go_at_call 100; exact Hl.out _))
            go_wp2
            go_roundg g'
            case measure => omega
            case rel => exact ⟨k + 1, by go_num, by omega, H3, hdr.drewN _⟩
          · have H3 := Lib.hid (show ok = false from by rw [HO.out, H1.out, partF_f hx]; rfl)
            have Hl := Lib.hid (fun q => (l1In_no (a := P.getD k 0) (b := 0) (c := ent m I k) (wr.drewN q) (by omega)).mono (fun e w'' h => (⟨h.1, q, h.2.symm⟩ : e = .returned (.bool false) ∧ ∃ q', w'' = wr.drewN q')))
            clear H1 hx
            generalize P.getD k 0 = X at *
            generalize ent m I k = Y at *
            have hz := hdr.heap
            have Hbb := Lib.hid (fun q => (hdr.drewN q).below w.heap.size)
            have hzs : w.heap.size ≤ wr.heap.size := by rw [hz]; exact Nat.le_refl _
            clear hz
            go_wp2
            go_quiet ((go_at_call 100; exact Hl.out _))
            go_wp2
            go_ret2
            exact ⟨_, by rw [H3.out]; rfl, by rw [Hno.out H3.out]; exact New.empty _ hzs, (Hbb.out _).alloc hzs _⟩
        · have e : g = 0 := by omega
          subst e
          have HC := Lib.hid (show allF (partF m I P) n 0 = true from H.out)
          have HK := Lib.hid (show ok = true from by rw [HO.out, HC.out])
          have HV2 := Lib.hid (show rv = splitT m I P n from by rw [HV.out, HK.out]; rfl)
          have Hok := Lib.hid (Hpo.out HC.out)
          have e2 : n = k := by omega
          subst e2
          clear hk H hg
          have hb0 := hdr.below w.heap.size
          have hz0 : w.heap.size = wr.heap.size := by rw [hdr.heap]
          obtain ⟨w1, rfl⟩ : ∃ w1 : World, w1 = wr := ⟨_, rfl⟩
          have Hcw := Lib.hid (Hcp.out _ hb0)
          have Hb0 := Lib.hid hb0
          have Hp' := Lib.hid (fun l (h : l < n) => hpe l h)
          have Ha' := Lib.hid (fun l (h : l < n) => hA2 l h)
          clear hdr hb0 Hcp Hpo Hin Hc
          clear hpe hA2
          go_wp2_with fail
          refine Hcw.out.mono ?_
          rintro e w2 ⟨v2, rfl, hn2, hb2⟩
          have hz2 := hb2.size
          have hmI := (Hsq.out.row hIn).1
          obtain ⟨gb, gc, _, hv, _, _, _, _, _, _, _⟩ := hn2.at (OInts.kept _) hmI
          rw [Hsq.out.1] at hv
          subst hv
          have Hn2 := Lib.hid hn2
          have Hbw := Lib.hid (Hb0.out.trans (hb2.mono (by omega)))
          have hpb2 : pb < w2.heap.size := by omega
          have hww : w.heap.size ≤ w2.heap.size := by omega
          clear hz0
          clear hn2 hb2 hmI Hcw
          go_wp2
          go_loopg [10, 11] n (fun g v ii wr => ∃ (k : Nat), ii = .int .i64 k ∧ k + g = n ∧ New (OInts 3) w2.heap.size wr v ((rowOf' n (splitR m I P n n)).take k) ∧ Below w2.heap.size w2 wr)
          case atStart => exact ⟨0, rfl, by omega, New.empty w2 (Nat.le_refl _), (Below.refl _ _).alloc (Nat.le_refl _) _⟩
          case round =>
            obtain ⟨k, rfl, hk, hnew, hbel⟩ := hrel
            obtain ⟨wo, rfl⟩ : ∃ wo : World, wo = wr := ⟨_, rfl⟩
            have hle := hbel.size
            have hbo := Hbw.out.trans (hbel.mono (by omega))
            have hrule := hbo.rule
            have Hbo := Lib.hid hbo
            have Hn := Lib.hid hnew
            have Hb := Lib.hid hbel
            have Hlk := Lib.hid (show ((rowOf' n (splitR m I P n n)).take k).length ≤ n from by rw [List.length_take]; omega)
            clear hnew hbel hbo
            by_cases hlt : k < n
            · have hP3 := Hp'.out k hlt
              have hA3 := Ha'.out k hlt
              obtain ⟨hd1, hd2, hd3⟩ := Hok.out k hlt
              have hk1 : (k : Int) < (n : Int) := by omega
              have Hs := Lib.hid (show _ = _ from take_snoc' (show (rowOf' n (splitR m I P n n))[k]? = some (ent m I k - P.getD k 0) from by rw [rowOf_at hlt, splitR_last]))
              generalize ent m I k = X at *
              generalize P.getD k 0 = Y at *
              have hw1 : wo.cell? ⟨ab, ao + I, none⟩ = some (.slice (some ⟨rb, ro, none⟩) n rc) := (hrule ab (ao + I) hab).trans hA1
              have hw2 : wo.cell? ⟨rb, ro + k, none⟩ = some (.int .i64 X) := (hrule rb (ro + k) hrb).trans hA3
              have hw3 : wo.cell? ⟨pb, po + k, none⟩ = some (.int .i64 Y) := (hrule pb (po + k) hpb).trans hP3
              have hxy : IntKind.i64.wrap (X - Y) = X - Y := IntWalk.i64_in _ (by omega)
              have Hww := Lib.hid hww
              clear hrule hA1 hA3 hP3
              go_wp2_with fail
              go_region_held3 (fun w' => w'.cell? ⟨ab, ao + I, none⟩ = some (.slice (some ⟨rb, ro, none⟩) n rc) ∧ w'.cell? ⟨rb, ro + k, none⟩ = some (.int .i64 X) ∧ w'.cell? ⟨pb, po + k, none⟩ = some (.int .i64 Y))
                (first
                  | exact hS1
                  | exact ⟨hw1, hw2, hw3⟩
                  | go_keep)
                ((first
                  | (refine step_push (w0 := wo) (lo := w2.heap.size) (y := X - Y) OIntR.kept (by rfl) (.tmp 66) (.tmp 79) 33 (by rfl) 3 (.int .i64 0) 8 Try.underlying33 infoI (by rfl) Hn.out hle (((Below.refl _ _).drew).alloc (Nat.le_refl _) _) ⟨[], ⟨rfl, rfl⟩, by simp [Fresh]⟩ (bb := wo.heap.size) (c := 1) (by simp) (by rfl) (by rfl) (by have := Hlk.out; omega) (by have := Hlk.out; omega) ?_
                     intro v1 wq hn1 _ _ hb1
                     have hS1 : wq.cell? ⟨ab, ao + I, none⟩ = some (.slice (some ⟨rb, ro, none⟩) n rc) ∧ wq.cell? ⟨rb, ro + k, none⟩ = some (.int .i64 X) ∧ wq.cell? ⟨pb, po + k, none⟩ = some (.int .i64 Y) := ⟨(hb1.cell (p := ⟨ab, ao + I, none⟩) (Nat.lt_of_lt_of_le hab Hww.out)).trans hw1, (hb1.cell (p := ⟨rb, ro + k, none⟩) (Nat.lt_of_lt_of_le hrb Hww.out)).trans hw2, (hb1.cell (p := ⟨pb, po + k, none⟩) hpb2).trans hw3⟩)
                  | fail))
              go_wp2
              go_roundg (n - (k + 1))
              case measure => omega
              case rel => exact ⟨k + 1, by go_num, by omega, by rw [← Hs.out]; exact hn1, Hb.out.trans hb1⟩
            · have e : k = n := by omega
              subst e
              clear hk
              obtain ⟨n, rfl⟩ : ∃ n : Nat, n = k := ⟨_, rfl⟩
              have hnew := Hn.out
              rw [rowOf_full] at hnew
              obtain ⟨xa, xn, xc, rfl⟩ := hnew.slice
              have hA := Apart.of_new (lo := w1.heap.size) (OTab.kept _ _) Hn2.out hnew Hb.out hz2
              obtain ⟨gb', gc', hv', _, hgl, hgb, ⟨u0, hgc0⟩, hgf, hst⟩ := hA.at (OInts.kept _) (OInts.kept _) (Hsq.out.row hIn).1
              obtain rfl : gb' = gb := by simp at hv'; exact hv'.1.symm
              have Hst := Lib.hid hst
              have Hsrc := Lib.hid (Ints.frame _ _ _ _ (Ints.frame _ _ _ _ H2.out Hbo.out) ((Below.refl wo.heap.size wo).alloc (Nat.le_refl _) (.cells #[] 3)))
              have hsz1 : w1.heap.size ≤ wo.heap.size := by omega
              clear hnew hA hv' hst hrule hA1
              have Hnx := Lib.hid (show ∀ w3 ya yn yc, Below wo.heap.size wo w3 → New (OInts 3) wo.heap.size w3 (.slice ya yn yc) P → ∃ v4 w4, (Builtin.append_ #[24, 24] 24 #[.slice (some ⟨gb', 0, none⟩) n gc, .slice (some ⟨w3.heap.size, 0, none⟩) 1 1]).run Try.prog ((w3.setCell ⟨gb', I, none⟩ (.slice ya yn yc)).alloc (.cells #[.slice xa xn xc] 33)) = .ok v4 w4 ∧ New (OTab 3 33) w1.heap.size w4 v4 (splitF m I P n 0) ∧ Below w1.heap.size w3 w4 from by
                intro w3 ya yn yc hb3 hn3
                have hz3 := hb3.size
                have hA3 := Hst.out w3 _ P hb3 hn3
                have hA4 := hA3.keep (OTab.kept _ _) (OInts.kept _) ((Below.refl (w3.setCell ⟨gb', I, none⟩ (.slice ya yn yc)).heap.size _).alloc (Nat.le_refl _) (.cells #[.slice xa xn xc] 33)) (Nat.le_refl _)
                obtain ⟨v4, w4, hr4, hn4, hb4⟩ := Apart.push (P := Try.prog) (bb := w3.heap.size) (c := 1) (OInts.kept _) 24 24 (.slice none 0 0) 24 Try.underlying24 infoR rfl hA4 (by simp; omega) (World.cell?_alloc_at _ _ _ 0 (by simp)) (by rw [List.length_set, Hsq.out.1]; omega) (by rw [List.length_set, Hsq.out.1]; omega)
                rw [splitF_start Hsq.out hIn Hp.out] at hn4
                exact ⟨v4, w4, hr4, hn4, ((((Below.refl w1.heap.size w3).setCell (p := ⟨gb', I, none⟩) hgl _).alloc (by simp; omega) _)).trans hb4⟩)
              clear Hst
              go_wp2_with (first
                | (at_builtin; refine wpl_append_vals (f := Value.int .i64) (fun _ => rfl) rfl (.tmp 83) (.tmp 84) 33 rfl 3 (.int .i64 0) 8 Try.underlying33 infoI rfl (New.empty (R := OValR (Value.int .i64)) (lo := wo.heap.size) wo (Nat.le_refl _)) (by simp) Hsrc.out rfl rfl (by rw [Hp.out]; simp; omega) (by rw [Hp.out]; simp; omega) ?_; intro v3 w3 hn3 _ _ hb3; obtain ⟨ya, yn, yc, rfl⟩ := hn3.slice; have hb3' := ((Below.refl wo.heap.size wo).alloc (Nat.le_refl _) (.cells #[] 3)).trans hb3; have hgc3 : w3.cell? ⟨gb', I, none⟩ = some u0 := (hb3'.cell (p := ⟨gb', I, none⟩) hgb).trans hgc0; have hgf3 : w3.frozen? ⟨gb', I, none⟩ = false := (hb3'.frozen (p := ⟨gb', I, none⟩) hgb).trans hgf; obtain ⟨v4, w4, hr4, hn4, hb4⟩ := Hnx.out w3 ya yn yc hb3' hn3; have Hr4 := Lib.hid hr4; have Hn4 := Lib.hid hn4; have Hb4 := Lib.hid ((hb3'.mono hsz1).trans hb4); obtain ⟨hb, hc, _, hv4, _⟩ := hn4.at (OInts.kept _) (splitF_at (k := 0) (Nat.succ_pos n)); rw [splitF_len] at hv4; subst hv4; clear hn3 hb3 hb3' hr4 hn4 hb4 Hnx)
                | (at_builtin; refine wpl_append_run rfl (.tmp 87) (.tmp 89) 24 rfl rfl rfl Hr4.out ?_)
                | fail)
              have hw1n : w.heap.size ≤ w1.heap.size := Hb0.out.size
              have Hbt := Lib.hid (Hbo.out.trans (Hb4.out.mono hw1n))
              have hw14 : w1.heap.size ≤ w4.heap.size := Nat.le_trans hsz1 Hb4.out.size
              clear hgc0 hgf hgb hgl hgc3 hgf3 hle hsz1 hz2 hww hpb2 hpb hab hrb
              go_loopg [12] (n + 1) (fun g ii wr => ∃ (k : Nat), ii = .int .i64 k ∧ k + g = n + 1 ∧ New (OTab 3 33) w1.heap.size wr (.slice (some ⟨hb, 0, none⟩) (n + 1) hc) (splitF m I P n k) ∧ Below w1.heap.size w4 wr)
              case atStart => exact ⟨0, rfl, by omega, Hn4.out, Below.refl _ _⟩
              case round =>
                obtain ⟨k, rfl, hk, hnew, hbel⟩ := hrel
                clear Hn4 Hb4 Hn2 Hbw Hsrc Hn Hb Hbo H2 Hr4
                have Hbk := Lib.hid hbel
                have hwr : w1.heap.size ≤ wr.heap.size := Nat.le_trans hw14 hbel.size
                by_cases hlt : k < n + 1
                · obtain ⟨b', c', rb2, rc2, hv, hnc, hlb, hltb, hcl, hrc, hrb2, hrne, hce, hpush⟩ := hnew.row_push (P := Try.prog) (splitF_at hlt) (rowOf_at hIn) 33 33 (.int .i64 0) 8 Try.underlying33 infoI rfl (by rw [rowOf_len]; omega) (by rw [rowOf_len]; omega)
                  obtain rfl : b' = hb := by simp at hv; exact hv.1.symm
                  rw [rowOf_len] at hcl
                  have HP := Lib.hid (show ∀ W : World, Below wr.heap.size wr W → W.cell? ⟨wr.heap.size, 0, none⟩ = some (.int .i64 (splitR m I P n k I)) → ∃ a' n' c' w2, (Builtin.append_ #[33, 33] 33 #[.slice (some ⟨rb2, 0, none⟩) n rc2, .slice (some ⟨wr.heap.size, 0, none⟩) 1 1]).run Try.prog W = .ok (.slice a' n' c') w2 ∧ w2.cell? ⟨b', k, none⟩ = some (.slice (some ⟨rb2, 0, none⟩) n rc2) ∧ w2.frozen? ⟨b', k, none⟩ = false ∧ Below w1.heap.size wr (w2.setCell ⟨b', k, none⟩ (.slice a' n' c')) ∧ New (OTab 3 33) w1.heap.size (w2.setCell ⟨b', k, none⟩ (.slice a' n' c')) (.slice (some ⟨b', 0, none⟩) (n + 1) hc) (splitF m I P n (k + 1)) from by
                    intro W hW hWc
                    obtain ⟨v', w2, hr, h1, h2, _, h4, h5⟩ := hpush W wr.heap.size 1 _ hW hWc
                    rw [splitF_set] at h5
                    rw [rowOf_len] at h1 hr
                    have h6 : ∃ a n c, v' = .slice a n c := by
                      obtain ⟨b2, c2, u2, hv2, _, _, _, hcu, _, hnu, _⟩ := h5.at (OInts.kept _) (i := k) (List.getElem?_eq_getElem (by rw [splitF_len]; omega))
                      simp at hv2
                      rw [← hv2.1, World.cell?_setCell_same _ _ _ h1] at hcu
                      cases hcu
                      exact hnu.slice
                    obtain ⟨a', n', c'', rfl⟩ := h6
                    exact ⟨a', n', c'', w2, hr, h1, h2, h4.setCell (p := ⟨b', k, none⟩) hlb _, h5⟩)
                  generalize splitR m I P n k I = x at *
                  clear hpush hv hnew hbel
                  go_wp2
                  go_region_law (first
                    | (obtain ⟨a', n', c', w2, hr, hc2, hf2, hb2, hn2⟩ := HP.out (wr.drew.alloc (.cells #[.int .i64 x] 3)) (((Below.refl _ _).drew).alloc (Nat.le_refl _) _) (World.cell?_alloc_at _ _ _ 0 rfl); refine step_append_run (by rfl) (.tmp 102) (.tmp 110) 33 (by rfl) (by rfl) (by rfl) hr ?_; have Hn9 := Lib.hid hn2; have Hb9 := Lib.hid hb2; clear hr hn2 hb2)
                    | (obtain ⟨a', n', c', w2, hr, hc2, hf2, hb2, hn2⟩ := HP.out ((wr.alloc (.cells #[.int .i64 x] 3)).drew) (((Below.refl _ _).alloc (Nat.le_refl _) _).drew) (World.cell?_alloc_at _ _ _ 0 rfl); refine step_append_run (by rfl) (.tmp 102) (.tmp 110) 33 (by rfl) (by rfl) (by rfl) hr ?_; have Hn9 := Lib.hid hn2; have Hb9 := Lib.hid hb2; clear hr hn2 hb2)
                    | fail)
                  all_goals (
                    go_wp2
                    go_roundg (n - k)
                    case measure => omega
                    case rel => exact ⟨k + 1, by go_num, by omega, Hn9.out, Hbk.out.trans Hb9.out⟩)
                · have e : k = n + 1 := by omega
                  subst e
                  rw [splitF_full] at hnew
                  have Hr := Lib.hid (hnew.mono hw1n)
                  have Hbz := Lib.hid (Hbt.out.trans (Hbk.out.mono hw1n))
                  clear hnew hbel Hbk hk
                  go_wp2
                  go_ret2
                  exact ⟨_, by rw [HK.out]; rfl, by rw [HV2.out]; exact Hr.out, Hbz.out⟩
    · have HK := Lib.hid (show splitOk m i P = false from by unfold splitOk; simp [hij])
      rw [HK.out]
      have hm9 := sm.2
      clear h1 h2 hm sm
      generalize m.length = n at *
      generalize P.length = p at *
      by_cases h9 : n = 9
      · clear hij
        subst h9
        go_enter Try.func171, Try.ntmps171
        go_wp2_with fail
        refine Hc.out.mono ?_
        rintro e w' ⟨rfl, rfl⟩
        go_wp2
        go_ret2
        exact ⟨_, rfl, by rw [Hno.out HK.out]; exact New.empty w (Nat.le_refl _), (Below.refl _ _).alloc (Nat.le_refl _) _⟩
      have t9 : ((n : Int) == 9) = false := by simp; omega
      by_cases h0 : i < 0 ∨ (n : Int) - 1 < i
      · have Hin := Lib.hid (l1In_no (a := i) (b := 0) (c := (n : Int) - 1) w h0)
        clear hij h0
        go_enter Try.func171, Try.ntmps171
        go_wp2_with fail
        refine Hc.out.mono ?_
        rintro e w' ⟨rfl, rfl⟩
        go_wp2_with (go_at_call 100; refine Hin.out.mono ?_; rintro e w' ⟨rfl, rfl⟩)
        go_ret2
        exact ⟨_, rfl, by rw [Hno.out HK.out]; exact New.empty w (Nat.le_refl _), (Below.refl _ _).alloc (Nat.le_refl _) _⟩
      have Hin := Lib.hid (l1In_yes (a := i) (b := 0) (c := (n : Int) - 1) w (by omega) (by omega))
      have tp : ((p : Int) != (n : Int)) = true := by simp; omega
      clear hij h0
      go_enter Try.func171, Try.ntmps171
      go_wp2_with fail
      refine Hc.out.mono ?_
      rintro e w' ⟨rfl, rfl⟩
      go_wp2_with (go_at_call 100; refine Hin.out.mono ?_; rintro e w' ⟨rfl, rfl⟩)
      go_ret2
      exact ⟨_, rfl, by rw [Hno.out HK.out]; exact New.empty w (Nat.le_refl _), (Below.refl _ _).alloc (Nat.le_refl _) _⟩
end Go.Proofs.Ytlkgkfgpnnahdaa
end
