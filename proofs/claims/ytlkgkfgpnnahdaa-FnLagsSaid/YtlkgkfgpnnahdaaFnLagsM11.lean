/-
  Texts of this claim joined: laws for its walks, contracts of the functions that the law reaches.
-/
import Derived.Test.YtlkgkfgpnnahdaaRows
import Derived.Test.YtlkgkfgpnnahdaaFnLagsM1
import Derived.Test.YtlkgkfgpnnahdaaFnLagsM9
import Derived.Test.YtlkgkfgpnnahdaaFnLagsM10
import Derived.IntWalk
import Derived.Lib.SliceRun
import Derived.Laws.IdiomCopy
import Derived.Test.YtlkgkfgpnnahdaaFnLagsM3
import Derived.Test.YtlkgkfgpnnahdaaFnLagsM5
import Derived.Test.YtlkgkfgpnnahdaaFnLagsM7
import Derived.Test.YtlkgkfgpnnahdaaFnLagsM2
import Derived.WalkSpells
import Derived.Test.YtlkgkfgpnnahdaaFnLagsM4
section
/-
  slices.DeleteFunc at a list of rows, the predicate of PartsOf.
-/
namespace Go.Sd
open Go.RowKit Go.Deep
/-- A row's value, the row, its blocks. -/
abbrev Row3 := Value × List Int × List Nat
theorem triples : ∀ {us : List Value} {xs : Tbl} {Fs : List (List Nat)}, us.length = xs.length → Fs.length = xs.length → ∃ ts : List Row3, ts.map (·.1) = us ∧ ts.map (fun t => t.2.1) = xs ∧ ts.map (fun t => t.2.2) = Fs
  | [], [], [], _, _ => ⟨[], rfl, rfl, rfl⟩
  | u :: us, x :: xs, F :: Fs, h1, h2 => by
    obtain ⟨ts, e1, e2, e3⟩ := triples (us := us) (xs := xs) (Fs := Fs) (by simpa using h1) (by simpa using h2)
    exact ⟨(u, x, F) :: ts, by simp [e1], by simp [e2], by simp [e3]⟩
theorem setCells_owns {base g n cap : Nat} {e : TypeId} : ∀ (vs : List Value) (o : Nat) (w : World) (us : List Value), w.ownsRow base e 1 (.slice (some ⟨g, 0, none⟩) n cap) n us →
    ∃ us', (w.setCells g o vs).ownsRow base e 1 (.slice (some ⟨g, 0, none⟩) n cap) n us' ∧ us'.take o = us.take o
  | [], o, w, us, h => ⟨us, h, rfl⟩
  | v :: vs, o, w, us, h => by
    obtain ⟨us', h1, h2⟩ := setCells_owns vs (o + 1) _ _ (h.stored o v).1
    refine ⟨us', h1, ?_⟩
    have h3 : (us'.take (o + 1)).take o = ((us.set o v).take (o + 1)).take o := by rw [h2]
    rw [List.take_take, List.take_take, show min o (o + 1) = o by omega] at h3
    rw [h3, List.take_set_of_le (Nat.le_refl o)]
theorem setCells_off (g : Nat) : ∀ (vs : List Value) (o : Nat) (w : World), Off [g] w (w.setCells g o vs)
  | [], _, w => Off.refl _ _
  | v :: vs, o, w => (Off.setCell (w := w) (p := ⟨g, o, none⟩) (by simp) v).trans (setCells_off g vs (o + 1) _)
theorem owns_take {base g n cap i : Nat} {e : TypeId} {w : World} {us : List Value} (h : w.ownsRow base e 1 (.slice (some ⟨g, 0, none⟩) n cap) n us) (hi : i ≤ n) : w.ownsRow base e 1 (.slice (some ⟨g, 0, none⟩) i cap) i (us.take i) := by
  obtain ⟨h1, h2⟩ := h
  rcases h2 with ⟨h', _⟩ | ⟨g', cap', cur, h', hb, hg, hnc, hcm, hcs, htake⟩
  · simp at h'
  · simp only [Value.slice.injEq, Option.some.injEq, Addr.mk.injEq, and_true, true_and] at h'
    obtain ⟨rfl, rfl⟩ := h'
    refine ⟨by simp at h1 ⊢; omega, Or.inr ⟨g, cap, cur, rfl, hb, hg, by omega, hcm, hcs, ?_⟩⟩
    rw [← htake, List.take_take]
    congr 1
    simp only [Nat.mul_one]; omega
theorem findL_spec (p : List Int → Bool) : ∀ (xs : Tbl) (k : Nat), (findL p xs k = -1 ∧ ∀ x, x ∈ xs → p x = false) ∨ ∃ i x, xs[i]? = some x ∧ p x = true ∧ findL p xs k = ((k + i : Nat) : Int) ∧ ∀ j y, j < i → xs[j]? = some y → p y = false
  | [], k => Or.inl ⟨rfl, fun x hx => by cases hx⟩
  | x :: xs, k => by
    cases hp : p x with
    | true => exact Or.inr ⟨0, x, rfl, hp, by simp [findL, hp], fun j y hj => by omega⟩
    | false =>
      have e : findL p (x :: xs) k = findL p xs (k + 1) := by simp [findL, hp]
      rcases findL_spec p xs (k + 1) with ⟨h1, h2⟩ | ⟨i, y, h1, h2, h3, h4⟩
      · exact Or.inl ⟨by rw [e, h1], fun y hy => by rcases List.mem_cons.1 hy with rfl | hy; exact hp; exact h2 y hy⟩
      · refine Or.inr ⟨i + 1, y, by simpa using h1, h2, by rw [e, h3]; congr 1; omega, fun j z hj hz => ?_⟩
        cases j with
        | zero => simp at hz; subst hz; exact hp
        | succ j => exact h4 j z (by omega) (by simpa using hz)
theorem mem_filt {α : Type} {p : α → Bool} {x : α} {l : List α} (h : x ∈ l.filter p) : x ∈ l := (List.mem_filter.1 h).1
theorem sub_flatten {a b : List (List Nat)} (h : List.Sublist a b) : List.Sublist a.flatten b.flatten := by
  induction h with
  | slnil => exact List.Sublist.refl _
  | cons x _ ih => exact ih.trans (List.sublist_append_right _ _)
  | cons_cons x _ ih => exact List.Sublist.append (List.Sublist.refl _) ih
theorem nodup_sub {a b : List (List Nat)} (h : List.Sublist a b) (hn : b.flatten.Nodup) : a.flatten.Nodup := List.Nodup.sublist (sub_flatten h) hn
/-- The rows that are kept. -/
def kept (row : List Int) (ts : List Row3) : List Row3 := ts.filter (fun t => keepI row t.2.1)
theorem kept_next {row : List Int} {ts : List Row3} {j : Nat} {t : Row3} (h : ts[j]? = some t) : kept row (ts.take (j + 1)) = if keepI row t.2.1 = true then kept row (ts.take j) ++ [t] else kept row (ts.take j) := by
  unfold kept
  rw [List.take_add_one, h, List.filter_append]
  simp only [Option.toList, List.filter_cons, List.filter_nil]
  split <;> simp
end Go.Sd
namespace Go.Proofs.Ytlkgkfgpnnahdaa
open Go.RowKit Go.Deep Go.Sd

/-- What DeleteFunc leaves. -/
def DelP (F : List Nat) (w : World) (V : Tbl) (e : Ending) (w' : World) : Prop :=
  ∃ r F', e = .returned r ∧ OTab 3 33 w' r V F' ∧ F'.Nodup ∧ (∀ b, b ∈ F' → b ∈ F) ∧ Off F w w'
end Go.Proofs.Ytlkgkfgpnnahdaa
end

section
/-
  SplitOut, the program's: the arcs from a vertex divided.
-/
namespace Go.Proofs.Ytlkgkfgpnnahdaa
open Go.RowKit Go.Deep Go.Sd


/-- A slice of n numbers: where they lie. -/
theorem ints_at {w : World} {v : Value} {xs : List Int} {n : Nat} (h : Ints w v xs) (hn : xs.length = n) (h0 : 0 < n) :
    ∃ b o c, v = .slice (some ⟨b, o, none⟩) n c ∧ b < w.heap.size ∧ ∀ j, j < n → w.cell? ⟨b, o + j, none⟩ = some (.int .i64 (xs.getD j 0)) := by
  subst hn
  obtain ⟨a, c, rfl, _, _, hc⟩ := h.shape
  obtain ⟨b, o, rfl, hb, hx⟩ := hc h0
  refine ⟨b, o, c, rfl, hb, fun j hj => ?_⟩
  obtain ⟨x, hxj, _⟩ := at_lt hj
  obtain ⟨u, hu, rfl⟩ := hx j x hxj
  rw [hu]
  simp [List.getD, hxj]

/-- Row k of the divided matrix, ahead of its last number. -/
def splitR (m : List (List Int)) (I : Nat) (P : List Int) (n k l : Nat) : Int := if k = n then ent m I l - P.getD l 0 else if k = I then P.getD l 0 else ent m k l
def splitT (m : List (List Int)) (I : Nat) (P : List Int) (n : Nat) : List (List Int) := (List.range (n + 1)).map fun k => rowOf' n (splitR m I P n k) ++ [splitR m I P n k I]
theorem splitT_at {m : List (List Int)} {I : Nat} {P : List Int} {n k : Nat} (hk : k < n + 1) : (splitT m I P n)[k]? = some (rowOf' n (splitR m I P n k) ++ [splitR m I P n k I]) := by simp [splitT, hk]
theorem splitT_len (m : List (List Int)) (I : Nat) (P : List Int) (n : Nat) : (splitT m I P n).length = n + 1 := by simp [splitT]
theorem splitR_last (m : List (List Int)) (I : Nat) (P : List Int) (n : Nat) : splitR m I P n n = fun l => ent m I l - P.getD l 0 := by funext l; simp [splitR]
theorem splitR_part (m : List (List Int)) {I : Nat} (P : List Int) {n : Nat} (h : I < n) : splitR m I P n I = fun l => P.getD l 0 := by funext l; unfold splitR; rw [if_neg (by omega), if_pos rfl]
theorem splitR_row (m : List (List Int)) {I : Nat} (P : List Int) {n k : Nat} (h : k < n) (hI : k ≠ I) : splitR m I P n k = fun l => ent m k l := by funext l; unfold splitR; rw [if_neg (by omega), if_neg hI]
theorem row_full {r : List Int} {n : Nat} (h : r.length = n) : r = rowOf' n (fun l => r.getD l 0) := by subst h; exact row_eq r

def partOk (m : List (List Int)) (I : Nat) (P : List Int) (n : Nat) : Prop := ∀ l, l < n → 0 ≤ P.getD l 0 ∧ P.getD l 0 ≤ ent m I l ∧ ent m I l ≤ 1000000

end Go.Proofs.Ytlkgkfgpnnahdaa
end

section
/-
  PartsOf, the program's.
-/
namespace Go.Sd
open Go.RowKit Go.Deep
theorem New.one {α : Type} {e : TypeId} {R : OwnRel α} (hR : Kept R) {lo : Nat} {w : World} {u : Value} {x : α} (h : New R lo w u x) (hlo : lo ≤ w.heap.size) :
    New (OwnOf e R) lo (w.alloc (.cells #[u] e)) (.slice (some ⟨w.heap.size, 0, none⟩) 1 1) [x] := by
  obtain ⟨F, hF, hn, hge⟩ := h
  have hlt := hR.lt _ _ _ _ hF
  refine ⟨w.heap.size :: F, ⟨[u], [F], ⟨by simp, .inr ⟨w.heap.size, 1, #[u], rfl, Nat.zero_le _, heap_alloc_new w _, Nat.le_refl _, by simp [maxLen], by simp, by simp⟩⟩, rfl, ?_, by simp [Value.ownBlock]⟩, List.nodup_cons.2 ⟨fun hm => by have := hlt _ hm; omega, hn⟩, fun b hb => by
    rcases List.mem_cons.1 hb with rfl | hb
    · exact hlo
    · exact hge b hb⟩
  intro i u' x' G hu hx hG
  cases i with
  | zero =>
    simp at hu hx hG
    subst hu hx hG
    exact Kept.below hR hF ((Below.refl _ _).alloc (Nat.le_refl _) _)
  | succ i => simp at hu
theorem exts_len (l : List Int) (x : Int) : (exts l x).length = x.toNat + 1 := by simp [exts]
theorem flat_len (x : Int) : ∀ ls : Tbl, (ls.flatMap fun l => exts l x).length = ls.length * (x.toNat + 1)
  | [] => by simp
  | l :: ls => by
    rw [List.flatMap_cons, List.length_append, flat_len x ls, exts_len, List.length_cons, Nat.succ_mul]; omega
/-- Rows of k small numbers. -/
def RowsK (k : Nat) (cur : Tbl) : Prop := cur.length ≤ 4 ^ k ∧ ∀ l, l ∈ cur → l.length = k ∧ ∀ y, y ∈ l → 0 ≤ y ∧ y ≤ 3
theorem RowsK.next {k : Nat} {cur : Tbl} {x : Int} (h : RowsK k cur) (h0 : 0 ≤ x) (h3 : x ≤ 3) : RowsK (k + 1) (ext cur x) := by
  constructor
  · unfold ext
    rw [flat_len, Nat.pow_succ]
    exact Nat.mul_le_mul h.1 (by omega)
  · intro l hl
    obtain ⟨l0, hl0, hl1⟩ := List.mem_flatMap.1 hl
    obtain ⟨y, hy, rfl⟩ := List.mem_map.1 hl1
    have h1 := h.2 l0 hl0
    have hy2 := List.mem_range.1 hy
    refine ⟨by rw [List.length_append, h1.1]; rfl, fun z hz => ?_⟩
    rcases List.mem_append.1 hz with hz | hz
    · exact h1.2 z hz
    · simp at hz; omega
end Go.Sd
namespace Go.Proofs.Ytlkgkfgpnnahdaa
open Go.RowKit Go.Deep Go.Sd
end Go.Proofs.Ytlkgkfgpnnahdaa
end

section
/-
  Small matrices drawn, bent; the draw of TurnMatrix.
-/
namespace Go.Proofs.Ytlkgkfgpnnahdaa
open Go.RowKit Go.Deep Go.Sd
set_option linter.unusedSimpArgs false
/-- What a bent matrix is. -/
def BentM (m : List (List Int)) : Prop := 0 < m.length ∧ m.length ≤ 5 ∧ ∀ r, r ∈ m → r.length ≤ 5 ∧ ∀ x, x ∈ r → -1 ≤ x ∧ x ≤ 1000001
theorem SmallD.bent {m : List (List Int)} (h : SmallD m) : BentM m := by
  obtain ⟨h1, h2, h3⟩ := isMat_sq h.1
  have hb := isMat_bd h.1
  refine ⟨by omega, by have := h.2; omega, fun r hr => ⟨by have := h1.2 r hr; have := h.2.1; omega, fun x hx => ?_⟩⟩
  have := hb r hr x hx
  omega
/-- Off the corner no number is great. -/
def Low (m : List (List Int)) : Prop := ∀ i j r x, m[i]? = some r → r[j]? = some x → (i ≠ 0 ∨ j ≠ 0) → x ≤ 9
/-- No row is empty. -/
def Full (m : List (List Int)) : Prop := ∀ r, r ∈ m → 1 ≤ r.length
def Bent9 (m : List (List Int)) : Prop := BentM m ∧ Low m ∧ Full m
theorem SmallD.full {m : List (List Int)} (h : SmallD m) : Full m := fun r hr => by
  have hs := isMat_sq h.1
  rw [hs.1.2 r hr]
  exact hs.2.1
theorem Full.set {m : List (List Int)} (h : Full m) {r : List Int} {y : Int} (hr : m[0]? = some r) : Full (m.set 0 (r.set 0 y)) := fun q hq => by
  rcases List.mem_or_eq_of_mem_set hq with h1 | h1
  · exact h q h1
  · rw [h1, List.length_set]
    exact h r (List.mem_of_getElem? hr)
theorem SmallD.low {m : List (List Int)} (h : SmallD m) : Low m := fun i j r x hr hx _ => h.2.2 r (List.mem_of_getElem? hr) x (List.mem_of_getElem? hx)
theorem Low.set {m : List (List Int)} (h : Low m) {r : List Int} {y : Int} (hr : m[0]? = some r) : Low (m.set 0 (r.set 0 y)) := by
  intro i j q x hq hx hne
  by_cases hi : i = 0
  · subst hi
    have hl : 0 < m.length := (List.getElem?_eq_some_iff.1 hr).1
    rw [List.getElem?_set_self hl] at hq
    obtain rfl := Option.some.inj hq
    have hj : j ≠ 0 := by rcases hne with h1 | h1 <;> omega
    rw [List.getElem?_set_ne (by omega)] at hx
    exact h 0 j r x hr hx (Or.inr hj)
  · rw [List.getElem?_set_ne (by omega)] at hq
    exact h i j q x hq hx hne
theorem SmallD.row {m : List (List Int)} (h : SmallD m) : ∃ r x, m[0]? = some r ∧ r[0]? = some x ∧ m.length ≤ 4 := by
  obtain ⟨h1, h2, h3⟩ := isMat_sq h.1
  have h4 : 0 < m.length := by omega
  have hr := h1.2 m[0] (List.getElem_mem h4)
  exact ⟨m[0], m[0][0]'(by omega), List.getElem?_eq_getElem h4, List.getElem?_eq_getElem (by omega), h.2.1⟩
theorem BentM.set {m : List (List Int)} (h : BentM m) {r : List Int} {y : Int} (hr : m[0]? = some r) (hy : -1 ≤ y ∧ y ≤ 1000001) : BentM (m.set 0 (r.set 0 y)) := by
  have hm := List.mem_of_getElem? hr
  refine ⟨by rw [List.length_set]; exact h.1, by rw [List.length_set]; exact h.2.1, fun q hq => ?_⟩
  rcases List.mem_or_eq_of_mem_set hq with h1 | h1
  · exact h.2.2 q h1
  · rw [h1, List.length_set]
    refine ⟨(h.2.2 r hm).1, fun x hx => ?_⟩
    rcases List.mem_or_eq_of_mem_set hx with h2 | h2
    · exact (h.2.2 r hm).2 x h2
    · rw [h2]; exact hy
set_option maxHeartbeats 2000000 in
set_option maxRecDepth 100000 in
theorem l4Bent_c {lo : Nat} {w : World} {cb : Nat} {K : Value} {xs : List Int} {rs : List Res} (hK : ∀ w', Below lo w w' → BytR w' K xs) (hc : Cur lo w cb K xs.length rs) (hlo : lo ≤ w.heap.size) :
    Calls Try.prog 89 #[.pointer (some ⟨cb, 0, none⟩)] w fun e w' => ∃ v : Value, e = .returned v ∧ ∃ m : List (List Int), Bent9 m ∧ Cur lo w' cb K xs.length (ResM v m :: rs) ∧ Below lo w w' := by
  have HK := Lib.hid hK
  have HD := Lib.hid (show Calls Try.prog 165 #[.pointer (some ⟨cb, 0, none⟩), .int .i64 4] w _ from l4Draw_c (most := 4) hK hc hlo (by omega) (by omega))
  clear hK hc
  go_enter Try.func89, Try.ntmps89
  go_wp2_with fail
  (with_reducible refine HD.out.mono ?_)
  rintro e w1 ⟨v, rfl, m, hm, hc, hb⟩
  have hz1 : lo ≤ w1.heap.size := Nat.le_trans hlo hb.size
  have HB1 := Lib.hid hb
  have HP := Lib.hid (l1Below_i (z := 16) (fun w' hb' => HK.out w' (hb.trans hb')) hc hz1 (by decide) (by decide))
  obtain ⟨ta, tc, rfl, -⟩ := (New.tab hc.out.headNew).shape
  have Hm := Lib.hid hm
  clear hm hc hb HD
  go_wp2_with fail
  (with_reducible refine HP.out.mono ?_)
  rintro e wi ⟨t, rfl, ht, hc, hb, ho⟩
  have HC := Lib.hid hc
  have HB := Lib.hid (HB1.out.trans hb)
  have hzi : lo ≤ wi.heap.size := Nat.le_trans hz1 hb.size
  have ht16 : t < 16 := ht
  clear hc hb ho HP HB1 ht hz1
  by_cases ht0 : t = 0
  · have t0 : ((t : Int) == 0) = true := by simp [ht0]
    obtain ⟨r, x, hr, hx, hm4⟩ := Hm.out.row
    obtain ⟨ci, ch, hcin, hsep⟩ := HC.out
    obtain ⟨tb, tc1, rb, rc, hv, hlt, hbt, gr, hlr, hbr, -, -, -⟩ := hsep.swap.tabSet hr hx
    simp only [Value.slice.injEq] at hv
    obtain ⟨rfl, -, rfl⟩ := hv
    have hne : tb ≠ cb ∧ rb ≠ cb := by
      obtain ⟨F, ⟨G, H, e1, hG, G2, H2, e2, hG2, h3⟩, hnd, hge⟩ := hsep
      obtain ⟨rfl, -⟩ := hG
      have hnn := List.nodup_append.1 (e1 ▸ hnd)
      have hto : OTab 3 33 wi (.slice (some ⟨tb, 0, none⟩) m.length tc) m G2 := hG2
      obtain ⟨b5, c5, u5, G5, hv5, -, hb5, -, hc5, -, hu5, hGF5, hG5n, -, -⟩ := OwnOf.focus (OInts.kept _) hto (List.nodup_append.1 (e2 ▸ hnn.2.1)).1 hr
      simp only [Value.slice.injEq, Option.some.injEq, Addr.mk.injEq] at hv5
      obtain ⟨⟨rfl, -, -⟩, -, -⟩ := hv5
      rw [gr] at hc5
      obtain ⟨b6, c6, u6, G6, hv6, -, hb6, -⟩ := OwnOf.focus OIntR.kept hu5 hG5n hx
      have e5 := Option.some.inj hc5
      rw [← e5] at hv6
      simp only [Value.slice.injEq, Option.some.injEq, Addr.mk.injEq] at hv6
      obtain ⟨⟨rfl, -, -⟩, -, -⟩ := hv6
      subst e2
      exact ⟨fun e => hnn.2.2 cb (by simp) tb (List.mem_append_left _ hb5) e.symm, fun e => hnn.2.2 cb (by simp) rb (List.mem_append_left _ (hGF5 rb hb6)) e.symm⟩
    obtain ⟨n, hn⟩ : ∃ n, n = m.length := ⟨_, rfl⟩
    obtain ⟨rl, hrl⟩ : ∃ n, n = r.length := ⟨_, rfl⟩
    have HN := Lib.hid hn
    have HR := Lib.hid hrl
    have hn1 : (0 : Int) < (n : Int) := by have := Hm.out.bent.1; omega
    have hn1n : 0 < n := by omega
    have hr1 : (0 : Int) < (rl : Int) := by have := (List.getElem?_eq_some_iff.1 hx).1; omega
    have hr1n : 0 < rl := by omega
    rw [← hn] at HC ⊢
    rw [← hrl] at gr
    have Hst := Lib.hid (fun (w2 : World) (hc2 : Cur lo w2 cb K xs.length (ResM (.slice (some ⟨tb, 0, none⟩) n tc) m :: rs)) (ho : Off [cb] wi w2) => (show (w2.frozen? ⟨rb, 0, none⟩ = false ∧ w2.cell? ⟨rb, 0, none⟩ = some (.int .i64 x)) ∧ ∀ y, Cur lo (w2.setCell ⟨rb, 0, none⟩ (.int .i64 y)) cb K xs.length (ResM (.slice (some ⟨tb, 0, none⟩) n tc) (m.set 0 (r.set 0 y)) :: rs) from by
      obtain ⟨ci2, ch2, hcin2, hsep2⟩ := hc2
      obtain ⟨tb1, tc1, rb1, rc1, hv, -, -, gr1, -, -, x1, f1, s1⟩ := hsep2.swap.tabSet hr hx
      simp only [Value.slice.injEq, Option.some.injEq, Addr.mk.injEq] at hv
      obtain ⟨⟨rfl, -, -⟩, -, -⟩ := hv
      have e7 : w2.cell? ⟨tb, 0, none⟩ = wi.cell? ⟨tb, 0, none⟩ := World.cell?_of_block (ho.block tb hbt (by simp; exact hne.1))
      rw [e7, gr] at gr1
      have e8 := Option.some.inj gr1
      simp only [Value.slice.injEq, Option.some.injEq, Addr.mk.injEq] at e8
      obtain ⟨⟨rfl, -, -⟩, -, -⟩ := e8
      exact ⟨⟨f1, x1⟩, fun y => ⟨ci2, ch2, hcin2, (s1 y).swap⟩⟩))
    have Hin := Lib.hid (fun y (hy : -1 ≤ y ∧ y ≤ 1000001) => (show Bent9 _ from ⟨Hm.out.bent.set hr hy, Hm.out.low.set hr, Hm.out.full.set hr⟩))
    obtain ⟨w1a, e1a⟩ : ∃ x, x = (wi.alloc (.cells #[.int .i64 (-1), .int .i64 1000000, .int .i64 1000001, .int .i64 9] 3)).drew := ⟨_, rfl⟩
    have hb1a : Below wi.heap.size wi w1a := by rw [e1a]; exact ((Below.refl _ _).alloc (Nat.le_refl _) _).drew
    have HC1a := Lib.hid (show Cur lo w1a cb K xs.length (Res.box wi.heap.size (([-1, 1000000, 1000001, 9] : List Int).map (Value.int .i64)) :: ResM (.slice (some ⟨tb, 0, none⟩) n tc) m :: rs) from by rw [e1a]; exact (HC.out.box hzi (([-1, 1000000, 1000001, 9] : List Int).map (Value.int .i64)) 3).below (Below.refl _ _).drew)
    have HB1a := Lib.hid (HB.out.trans (hb1a.mono hzi))
    have HO1a := Lib.hid (Off.of_below (F := [cb]) hb1a)
    have hz1a : lo ≤ w1a.heap.size := Nat.le_trans hzi hb1a.size
    have HPk := Lib.hid (show Calls Try.prog 104 #[.pointer (some ⟨cb, 0, none⟩), .slice (some ⟨wi.heap.size, 0, none⟩) 4 4] w1a _ from l1PickInt_c (ls := [-1, 1000000, 1000001, 9]) (c := 4) (fun w' hb => HK.out w' (HB1a.out.trans hb)) HC1a.out hz1a (by decide) (by decide))
    have HSc := Lib.hid (fun (w2 : World) (ho : Off [cb] wi w2) => (show w2.cell? ⟨tb, 0, none⟩ = some (.slice (some ⟨rb, 0, none⟩) rl rc) from (World.cell?_of_block (ho.block tb hbt (by simp; exact hne.1))).trans gr))
    have hSd : wi.drew.cell? ⟨tb, 0, none⟩ = some (.slice (some ⟨rb, 0, none⟩) rl rc) := gr
    have hS1 : w1a.cell? ⟨tb, 0, none⟩ = some (.slice (some ⟨rb, 0, none⟩) rl rc) := HSc.out _ HO1a.out
    have e1s := e1a.symm
    clear e1a hr hx hsep hne hb1a HC gr HC1a hn hrl ht0
    go_wp2
    refine wp_region_L (fun w' => w'.cell? ⟨tb, 0, none⟩ = some (.slice (some ⟨rb, 0, none⟩) rl rc)) (by kernel_rfl) ?_
    refine wpAnyL_take 0 (v := ?_) rfl (by kernel_rfl) (by kernel_rfl) (by kernel_rfl) (by kernel_rfl) (fun _ _ _ h => h) (Or.inl ⟨by rfl, ?_⟩) hSd ?_
    rotate_left
    · (intro w hSw; (try dsimp only at hSw); go_simp) <;> (try with_reducible rfl)
    try simp only [Act.put, List.getElem_toArray, List.getElem_cons_zero, List.getElem_cons_succ, List.setIfInBounds_toArray, List.set_cons_zero, List.set_cons_succ]
    refine wpAnyL_take 1 (v := ?_) rfl (by kernel_rfl) (by kernel_rfl) (by kernel_rfl) (by kernel_rfl) (fun _ _ _ h => h) (Or.inl ⟨by rfl, ?_⟩) hSd ?_
    rotate_left
    · (intro w hSw; (try dsimp only at hSw); go_simp) <;> (try with_reducible rfl)
    try simp only [Act.put, List.getElem_toArray, List.getElem_cons_zero, List.getElem_cons_succ, List.setIfInBounds_toArray, List.set_cons_zero, List.set_cons_succ]
    refine wpAnyL_take 2 (v := ?_) rfl (by kernel_rfl) (by kernel_rfl) (by kernel_rfl) (by kernel_rfl) (fun _ _ _ h => h) (Or.inl ⟨by rfl, ?_⟩) hSd ?_
    rotate_left
    · (intro w hSw; (try dsimp only at hSw); go_simp) <;> (try with_reducible rfl)
    try simp only [Act.put, List.getElem_toArray, List.getElem_cons_zero, List.getElem_cons_succ, List.setIfInBounds_toArray, List.set_cons_zero, List.set_cons_succ]
    refine wpAnyL_take 3 (v := ?_) rfl (by kernel_rfl) (by kernel_rfl) (by kernel_rfl) (by kernel_rfl) (fun _ _ _ h => h) (Or.inl ⟨by rfl, ?_⟩) hSd ?_
    rotate_left
    · (intro w hSw; (try dsimp only at hSw); go_simp) <;> (try with_reducible rfl)
    try simp only [Act.put, List.getElem_toArray, List.getElem_cons_zero, List.getElem_cons_succ, List.setIfInBounds_toArray, List.set_cons_zero, List.set_cons_succ]
    refine wpAnyL_one 4 (by kernel_rfl) rfl (fun K hK => ?_)
    go_simp
    refine hK.out _ _ (fun _ => hS1) ?_
    clear hK K
    try simp only [Act.put, List.getElem_toArray, List.getElem_cons_zero, List.getElem_cons_succ, List.setIfInBounds_toArray, List.set_cons_zero, List.set_cons_succ]
    refine wpAnyL_one 5 (by kernel_rfl) rfl (fun K hK => ?_)
    go_simp
    (with_reducible refine HPk.out.mono ?_)
    rintro e w3 ⟨y, rfl, hy3, hc, hb, ho⟩
    have hy : -1 ≤ y ∧ y ≤ 1000001 := by simp at hy3; omega
    have HCp := Lib.hid hc.rest
    have HBp := Lib.hid (HB1a.out.trans hb)
    have HOp := Lib.hid (HO1a.out.trans ho)
    have hS3 : w3.cell? ⟨tb, 0, none⟩ = some (.slice (some ⟨rb, 0, none⟩) rl rc) := HSc.out _ HOp.out
    have hf3 := (Hst.out w3 HCp.out HOp.out).1.1
    have hx3 := (Hst.out w3 HCp.out HOp.out).1.2
    clear hc hb ho hy3
    go_wp2_with fail
    refine hK.out _ _ (fun _ => hS3) ?_
    clear hK K
    try simp only [Act.put, List.getElem_toArray, List.getElem_cons_zero, List.getElem_cons_succ, List.setIfInBounds_toArray, List.set_cons_zero, List.set_cons_succ]
    refine wpAnyL_take 6 (v := ?_) rfl (by kernel_rfl) (by kernel_rfl) (by kernel_rfl) (by kernel_rfl) (fun _ _ _ h => h) (Or.inl ⟨by rfl, ?_⟩) hS3 ?_
    rotate_left
    · (intro w hSw; (try dsimp only at hSw); go_simp) <;> (try with_reducible rfl)
    try simp only [Act.put, List.getElem_toArray, List.getElem_cons_zero, List.getElem_cons_succ, List.setIfInBounds_toArray, List.set_cons_zero, List.set_cons_succ]
    refine wpAnyL_one 7 (by kernel_rfl) rfl (fun K hK => ?_)
    go_simp
    refine hK.out _ _ (fun h => absurd h (not_rem (by kernel_rfl))) ?_
    clear hK K
    try simp only [Act.put, List.getElem_toArray, List.getElem_cons_zero, List.getElem_cons_succ, List.setIfInBounds_toArray, List.set_cons_zero, List.set_cons_succ]
    refine wpAnyL_done (by kernel_rfl) ?_ _
    go_wp2
    go_ret
    exact ⟨_, rfl, _, Hin.out y hy, (Hst.out w3 HCp.out HOp.out).2 y, HBp.out.setCell (p := ⟨rb, 0, none⟩) hlr _⟩
  have t0 : ((t : Int) == 0) = false := by simp; omega
  by_cases ht1 : t = 1
  · have t1 : ((t : Int) == 1) = true := by simp [ht1]
    obtain ⟨ci, ch, hcin, hsep⟩ := HC.out
    have hl4 := Hm.out.2.1
    obtain ⟨w2, e2⟩ : ∃ x, x = wi.alloc (.cells #[.int .i64 1] 3) := ⟨_, rfl⟩
    have hb2 : Below wi.heap.size wi w2 := by rw [e2]; exact (Below.refl _ _).alloc (Nat.le_refl _) _
    have hn2 : New (OInts 3) wi.heap.size w2 (.slice (some ⟨wi.heap.size, 0, none⟩) 1 1) [1] := by rw [e2]; exact New.one OIntR.kept (u := .int .i64 1) (x := 1) ⟨[], ⟨rfl, rfl⟩, by simp [Fresh]⟩ (Nat.le_refl _)
    have hz2 : w2.heap.size = wi.heap.size + 1 := by rw [e2]; simp
    obtain ⟨v4, w4, hr4, hs4, hb4⟩ := hsep.swap.push (P := Try.prog) (OInts.kept 3) 24 24 (.slice none 0 0) 24 Try.underlying24 infoR rfl hzi (w1 := w2.alloc (.cells #[.slice (some ⟨wi.heap.size, 0, none⟩) 1 1] 33)) (hb2.alloc hb2.size _) (New.keep (OInts.kept _) hn2 ((Below.refl w2.heap.size _).alloc (Nat.le_refl _) _) (Nat.le_refl _)) (bb := w2.heap.size) (c := 1) (World.cell?_alloc_at _ _ _ 0 rfl) (by omega) (by omega)
    rw [hz2] at hr4
    have Hr4 := Lib.hid (show (Builtin.append_ #[24, 24] 24 #[.slice ta m.length tc, .slice (some ⟨wi.heap.size + 1, 0, none⟩) 1 1]).run Try.prog ((wi.alloc (.cells #[.int .i64 1] 3)).alloc (.cells #[.slice (some ⟨wi.heap.size, 0, none⟩) 1 1] 33)) = .ok v4 w4 from by rw [← e2]; exact hr4)
    have HC4 := Lib.hid (show Cur lo w4 cb K xs.length (ResM v4 (m ++ [[1]]) :: rs) from ⟨ci, ch, hcin, hs4.swap⟩)
    have HB4 := Lib.hid (HB.out.trans hb4)
    have Hbt := Lib.hid (show Bent9 (m ++ [[1]]) from by
      refine ⟨?_, fun i j r x hr hx _ => ?_, fun r hr => ?_⟩
      rotate_left
      · rcases List.mem_append.1 (List.mem_of_getElem? hr) with h1 | h1
        · exact Hm.out.2.2 r h1 x (List.mem_of_getElem? hx)
        · simp at h1
          subst h1
          have := List.mem_of_getElem? hx
          simp at this
          omega
      · rcases List.mem_append.1 hr with h1 | h1
        · exact Hm.out.full r h1
        · simp at h1
          subst h1
          decide
      have h := Hm.out.bent
      refine ⟨by simp, by simp; omega, fun r hr => ?_⟩
      rcases List.mem_append.1 hr with hr | hr
      · exact h.2.2 r hr
      · simp at hr
        subst hr
        exact ⟨by decide, fun x hx => by simp at hx; omega⟩)
    generalize m.length = ml at *
    clear hsep e2 hb2 hn2 hz2 hr4 hs4 hb4 HC HB ht1 hl4
    go_wp2_with (at_builtin; refine wpl_append_run rfl (.tmp 19) (.tmp 21) 24 rfl rfl rfl Hr4.out ?_)
    go_ret
    exact ⟨_, rfl, _, Hbt.out, HC4.out, HB4.out⟩
  · have t1 : ((t : Int) == 1) = false := by simp; omega
    go_wp2
    go_ret
    exact ⟨_, rfl, _, ⟨Hm.out.bent, Hm.out.low, Hm.out.full⟩, HC.out, HB.out⟩
end Go.Proofs.Ytlkgkfgpnnahdaa
end

section
/-
  Rows and tables compared, both sides.
-/
namespace Go.Proofs.Ytlkgkfgpnnahdaa
open Go.RowKit Go.Deep Go.Sd

set_option maxHeartbeats 400000 in
theorem l4SameRow_c {w : World} {v1 v2 : Value} {xs ys : List Int} (h1 : Ints w v1 xs) (h2 : Ints w v2 ys) :
    Calls Try.prog 124 #[v1, v2] w (Reads w (.bool (decide (xs = ys)))) := by
  have hlen1 := h1.len
  have hlen2 := h2.len
  obtain ⟨a1, c1, rfl, _, _, hc1⟩ := h1.shape
  obtain ⟨a2, c2, rfl, _, _, hc2⟩ := h2.shape
  clear h1 h2
  by_cases hl : xs.length = ys.length
  · have H0 := Lib.hid (show decide (xs = ys) = eqLoop (xs.drop 0) (ys.drop 0) from (eqLoop_iff xs ys hl).symm)
    have hl1 : ((ys.length : Int) != ys.length) = false := by simp
    have hl2 := Lib.hid hl
    obtain ⟨n, hn⟩ : ∃ n, n = xs.length := ⟨_, rfl⟩
    rw [← hl, ← hn]
    have hnb : n ≤ 9223372036854775807 := by omega
    have hl3 := Lib.hid hn
    clear hl hn
    go_enter Try.func124, Try.ntmps124
    go_wp2
    go_loopg [5] n (fun g i wr => ∃ (k : Nat), i = .int .i64 k ∧ k + g = n ∧ Hid (decide (xs = ys) = eqLoop (xs.drop k) (ys.drop k)) ∧ Drawn w wr)
    case atStart => exact ⟨0, rfl, by omega, H0, Drawn.refl _⟩
    case round =>
      obtain ⟨k, rfl, hk, H, hdr⟩ := hrel
      by_cases hlt : k < n
      · obtain ⟨b1, o1, rfl, _, hx1⟩ := hc1 (by have := hl3.out; omega)
        obtain ⟨b2, o2, rfl, _, hx2⟩ := hc2 (by have := hl3.out; have := hl2.out; omega)
        obtain ⟨x, hx, hdx⟩ := at_lt (xs := xs) (k := k) (by have := hl3.out; omega)
        obtain ⟨y, hy, hdy⟩ := at_lt (xs := ys) (k := k) (by have := hl3.out; have := hl2.out; omega)
        obtain ⟨u1, hu1, rfl⟩ := hx1 k x hx
        obtain ⟨u2, hu2, rfl⟩ := hx2 k y hy
        rw [← hdr.cell] at hu1 hu2
        have H1 := Lib.hid (show decide (xs = ys) = if x = y then eqLoop (xs.drop (k + 1)) (ys.drop (k + 1)) else false from by rw [H.out, hdx, hdy]; rfl)
        clear H hx hdx hy hdy hx1 hx2 hc1 hc2 H0
        by_cases hxy : x = y
        · have H2 := Lib.hid (show decide (xs = ys) = eqLoop (xs.drop (k + 1)) (ys.drop (k + 1)) from by rw [H1.out, if_pos hxy])
          have hd : (x != y) = false := by simp [hxy]
          have hi1 : (k : Int) < (n : Int) := by omega
          clear hxy H1
          go_wp2
          go_quiet (fail)
          go_wp2
          go_roundg (n - (k + 1))
          case measure => omega
          case rel => exact ⟨k + 1, by go_num, by omega, H2, hdr.drewN _⟩
        · have H2 := Lib.hid (show decide (xs = ys) = false from by rw [H1.out, if_neg hxy])
          have hd : (x != y) = true := by simp [hxy]
          have hi1 : (k : Int) < (n : Int) := by omega
          clear hxy H1
          go_wp2
          go_quiet (fail)
          go_wp2
          go_ret
          exact ⟨by rw [H2.out]; rfl, hdr.drewN _⟩
      · have H1 := Lib.hid (show decide (xs = ys) = true from by rw [H.out, drop_len (by have := hl3.out; omega)]; rfl)
        clear H
        go_wp2
        go_ret
        exact ⟨by rw [H1.out]; rfl, hdr⟩
  · have H := Lib.hid (show decide (xs = ys) = false from by simp; intro h; exact hl (by rw [h]))
    have hl1 : ((xs.length : Int) != ys.length) = true := by simp; omega
    go_enter Try.func124, Try.ntmps124
    go_wp2
    go_ret
    exact ⟨by rw [H.out]; rfl, Drawn.refl _⟩
set_option maxHeartbeats 400000 in
theorem spec_EqualMatrix_c {w : World} {v1 v2 : Value} {xs ys : List (List Int)} (h1 : Tab w v1 xs) (h2 : Tab w v2 ys) :
    Calls Try.prog 113 #[v1, v2] w (Reads w (.bool (decide (xs = ys)))) := by
  have hlen1 := h1.len
  have hlen2 := h2.len
  obtain ⟨a1, c1, rfl, _, _, hc1⟩ := h1.shape
  obtain ⟨a2, c2, rfl, _, _, hc2⟩ := h2.shape
  clear h1 h2
  by_cases hl : xs.length = ys.length
  · have H0 := Lib.hid (show decide (xs = ys) = eqLoopT (xs.drop 0) (ys.drop 0) from (eqLoopT_iff xs ys hl).symm)
    have hl2 := Lib.hid hl
    obtain ⟨n, hn⟩ : ∃ n, n = xs.length := ⟨_, rfl⟩
    rw [← hl, ← hn]
    have hnb : n ≤ 9223372036854775807 := by omega
    have hl3 := Lib.hid hn
    clear hl hn
    go_enter Try.func113, Try.ntmps113
    go_wp2
    go_loopg [5] n (fun g i wr => ∃ (k : Nat), i = .int .i64 k ∧ k + g = n ∧ Hid (decide (xs = ys) = eqLoopT (xs.drop k) (ys.drop k)) ∧ Drawn w wr)
    case atStart => exact ⟨0, rfl, by omega, H0, Drawn.refl _⟩
    case round =>
      obtain ⟨k, rfl, hk, H, hdr⟩ := hrel
      by_cases hlt : k < n
      · obtain ⟨b1, o1, rfl, _, hx1⟩ := hc1 (by have := hl3.out; omega)
        obtain ⟨b2, o2, rfl, _, hx2⟩ := hc2 (by have := hl3.out; have := hl2.out; omega)
        obtain ⟨x, hx, hdx⟩ := at_lt (xs := xs) (k := k) (by have := hl3.out; omega)
        obtain ⟨y, hy, hdy⟩ := at_lt (xs := ys) (k := k) (by have := hl3.out; have := hl2.out; omega)
        obtain ⟨u1, hu1, hr1⟩ := hx1 k x hx
        obtain ⟨u2, hu2, hr2⟩ := hx2 k y hy
        rw [← hdr.cell] at hu1 hu2
        have H1 := Lib.hid (show decide (xs = ys) = if x = y then eqLoopT (xs.drop (k + 1)) (ys.drop (k + 1)) else false from by rw [H.out, hdx, hdy]; rfl)
        have hi1 : (k : Int) < (n : Int) := by omega
        have Hc := Lib.hid (fun n => Reads.quiet (l4SameRow_c ((hdr.read Ints.frame hr1).dn n) ((hdr.read Ints.frame hr2).dn n)))
        clear H hx hdx hy hdy hx1 hx2 hc1 hc2 H0 hr1 hr2
        by_cases hxy : x = y
        · have H2 := Lib.hid (show decide (xs = ys) = eqLoopT (xs.drop (k + 1)) (ys.drop (k + 1)) from by rw [H1.out, if_pos hxy])
          have hd : decide (x = y) = true := by simp [hxy]
          rw [hd] at Hc
          clear hxy H1 hd
          go_wp2
          go_quiet ((go_at_call 124; exact Hc.out _))
          go_wp2
          go_roundg (n - (k + 1))
          case measure => omega
          case rel => exact ⟨k + 1, by go_num, by omega, H2, hdr.drewN _⟩
        · have H2 := Lib.hid (show decide (xs = ys) = false from by rw [H1.out, if_neg hxy])
          have hd : decide (x = y) = false := by simp [hxy]
          rw [hd] at Hc
          clear hxy H1 hd
          go_wp2
          go_quiet ((go_at_call 124; exact Hc.out _))
          go_wp2
          go_ret
          exact ⟨by rw [H2.out]; rfl, hdr.drewN _⟩
      · have H1 := Lib.hid (show decide (xs = ys) = true from by rw [H.out, drop_len (by have := hl3.out; omega)]; rfl)
        clear H
        go_wp2
        go_ret
        exact ⟨by rw [H1.out]; rfl, hdr⟩
  · have H := Lib.hid (show decide (xs = ys) = false from by simp; intro h; exact hl (by rw [h]))
    have hl1 : ((xs.length : Int) != ys.length) = true := by simp; omega
    go_enter Try.func113, Try.ntmps113
    go_wp2
    go_ret
    exact ⟨by rw [H.out]; rfl, Drawn.refl _⟩
set_option maxHeartbeats 400000 in
theorem sEqual_c {w : World} {v1 v2 : Value} {xs ys : List Int} (h1 : Ints w v1 xs) (h2 : Ints w v2 ys) :
    Calls Try.prog 179 #[v1, v2] w (Reads w (.bool (decide (xs = ys)))) := by
  have hlen1 := h1.len
  have hlen2 := h2.len
  obtain ⟨a1, c1, rfl, _, _, hc1⟩ := h1.shape
  obtain ⟨a2, c2, rfl, _, _, hc2⟩ := h2.shape
  clear h1 h2
  by_cases hl : xs.length = ys.length
  · have H0 := Lib.hid (show decide (xs = ys) = eqLoop (xs.drop 0) (ys.drop 0) from (eqLoop_iff xs ys hl).symm)
    have hl1 : ((ys.length : Int) != ys.length) = false := by simp
    have hl2 := Lib.hid hl
    obtain ⟨n, hn⟩ : ∃ n, n = xs.length := ⟨_, rfl⟩
    rw [← hl, ← hn]
    have hnb : n ≤ 9223372036854775807 := by omega
    have hl3 := Lib.hid hn
    clear hl hn
    go_enter Try.func179, Try.ntmps179
    go_wp2
    go_loopg [13] n (fun g i wr => ∃ (k : Nat), i = .int .i64 k ∧ k + g = n ∧ Hid (decide (xs = ys) = eqLoop (xs.drop k) (ys.drop k)) ∧ Drawn w wr)
    case atStart => exact ⟨0, rfl, by omega, H0, Drawn.refl _⟩
    case round =>
      obtain ⟨k, rfl, hk, H, hdr⟩ := hrel
      by_cases hlt : k < n
      · obtain ⟨b1, o1, rfl, _, hx1⟩ := hc1 (by have := hl3.out; omega)
        obtain ⟨b2, o2, rfl, _, hx2⟩ := hc2 (by have := hl3.out; have := hl2.out; omega)
        obtain ⟨x, hx, hdx⟩ := at_lt (xs := xs) (k := k) (by have := hl3.out; omega)
        obtain ⟨y, hy, hdy⟩ := at_lt (xs := ys) (k := k) (by have := hl3.out; have := hl2.out; omega)
        obtain ⟨u1, hu1, rfl⟩ := hx1 k x hx
        obtain ⟨u2, hu2, rfl⟩ := hx2 k y hy
        rw [← hdr.cell] at hu1 hu2
        have H1 := Lib.hid (show decide (xs = ys) = if x = y then eqLoop (xs.drop (k + 1)) (ys.drop (k + 1)) else false from by rw [H.out, hdx, hdy]; rfl)
        clear H hx hdx hy hdy hx1 hx2 hc1 hc2 H0
        by_cases hxy : x = y
        · have H2 := Lib.hid (show decide (xs = ys) = eqLoop (xs.drop (k + 1)) (ys.drop (k + 1)) from by rw [H1.out, if_pos hxy])
          have hd : (x != y) = false := by simp [hxy]
          have hi1 : (k : Int) < (n : Int) := by omega
          clear hxy H1
          go_wp2
          go_quiet (fail)
          go_wp2
          go_roundg (n - (k + 1))
          case measure => omega
          case rel => exact ⟨k + 1, by go_num, by omega, H2, hdr.drewN _⟩
        · have H2 := Lib.hid (show decide (xs = ys) = false from by rw [H1.out, if_neg hxy])
          have hd : (x != y) = true := by simp [hxy]
          have hi1 : (k : Int) < (n : Int) := by omega
          clear hxy H1
          go_wp2
          go_quiet (fail)
          go_wp2
          go_ret
          exact ⟨by rw [H2.out]; rfl, hdr.drewN _⟩
      · have H1 := Lib.hid (show decide (xs = ys) = true from by rw [H.out, drop_len (by have := hl3.out; omega)]; rfl)
        clear H
        go_wp2
        go_ret
        exact ⟨by rw [H1.out]; rfl, hdr⟩
  · have H := Lib.hid (show decide (xs = ys) = false from by simp; intro h; exact hl (by rw [h]))
    have hl1 : ((xs.length : Int) != ys.length) = true := by simp; omega
    go_enter Try.func179, Try.ntmps179
    go_wp2
    go_ret
    exact ⟨by rw [H.out]; rfl, Drawn.refl _⟩
set_option maxHeartbeats 400000 in
theorem sEqualFunc_c {w : World} {v1 v2 : Value} {xs ys : List (List Int)} (h1 : Tab w v1 xs) (h2 : Tab w v2 ys) :
    Calls Try.prog 178 #[v1, v2, .func (.func 179) #[] #[]] w (Reads w (.bool (decide (xs = ys)))) := by
  have hlen1 := h1.len
  have hlen2 := h2.len
  obtain ⟨a1, c1, rfl, _, _, hc1⟩ := h1.shape
  obtain ⟨a2, c2, rfl, _, _, hc2⟩ := h2.shape
  clear h1 h2
  by_cases hl : xs.length = ys.length
  · have H0 := Lib.hid (show decide (xs = ys) = eqLoopT (xs.drop 0) (ys.drop 0) from (eqLoopT_iff xs ys hl).symm)
    have hl2 := Lib.hid hl
    obtain ⟨n, hn⟩ : ∃ n, n = xs.length := ⟨_, rfl⟩
    rw [← hl, ← hn]
    have hnb : n ≤ 9223372036854775807 := by omega
    have hl3 := Lib.hid hn
    clear hl hn
    go_enter Try.func178, Try.ntmps178
    go_wp2
    go_loopg [17] n (fun g i wr => ∃ (k : Nat), i = .int .i64 k ∧ k + g = n ∧ Hid (decide (xs = ys) = eqLoopT (xs.drop k) (ys.drop k)) ∧ Drawn w wr)
    case atStart => exact ⟨0, rfl, by omega, H0, Drawn.refl _⟩
    case round =>
      obtain ⟨k, rfl, hk, H, hdr⟩ := hrel
      by_cases hlt : k < n
      · obtain ⟨b1, o1, rfl, _, hx1⟩ := hc1 (by have := hl3.out; omega)
        obtain ⟨b2, o2, rfl, _, hx2⟩ := hc2 (by have := hl3.out; have := hl2.out; omega)
        obtain ⟨x, hx, hdx⟩ := at_lt (xs := xs) (k := k) (by have := hl3.out; omega)
        obtain ⟨y, hy, hdy⟩ := at_lt (xs := ys) (k := k) (by have := hl3.out; have := hl2.out; omega)
        obtain ⟨u1, hu1, hr1⟩ := hx1 k x hx
        obtain ⟨u2, hu2, hr2⟩ := hx2 k y hy
        rw [← hdr.cell] at hu1 hu2
        have H1 := Lib.hid (show decide (xs = ys) = if x = y then eqLoopT (xs.drop (k + 1)) (ys.drop (k + 1)) else false from by rw [H.out, hdx, hdy]; rfl)
        have hi1 : (k : Int) < (n : Int) := by omega
        have Hc := Lib.hid (sEqual_c (hdr.read Ints.frame hr1) (hdr.read Ints.frame hr2))
        clear H hx hdx hy hdy hx1 hx2 hc1 hc2 H0 hr1 hr2
        by_cases hxy : x = y
        · have H2 := Lib.hid (show decide (xs = ys) = eqLoopT (xs.drop (k + 1)) (ys.drop (k + 1)) from by rw [H1.out, if_pos hxy])
          have hd : decide (x = y) = true := by simp [hxy]
          rw [hd] at Hc
          clear hxy H1 hd
          go_wp2_with (go_at_call 179; refine Hc.out.mono ?_; rintro e w2 ⟨rfl, hd2⟩; replace hdr := hdr.trans hd2)
          go_roundg (n - (k + 1))
          case measure => omega
          case rel => exact ⟨k + 1, by go_num, by omega, H2, hdr⟩
        · have H2 := Lib.hid (show decide (xs = ys) = false from by rw [H1.out, if_neg hxy])
          have hd : decide (x = y) = false := by simp [hxy]
          rw [hd] at Hc
          clear hxy H1 hd
          go_wp2_with (go_at_call 179; refine Hc.out.mono ?_; rintro e w2 ⟨rfl, hd2⟩; replace hdr := hdr.trans hd2)
          go_ret
          exact ⟨by rw [H2.out]; rfl, hdr⟩
      · have H1 := Lib.hid (show decide (xs = ys) = true from by rw [H.out, drop_len (by have := hl3.out; omega)]; rfl)
        clear H
        go_wp2
        go_ret
        exact ⟨by rw [H1.out]; rfl, hdr⟩
  · have H := Lib.hid (show decide (xs = ys) = false from by simp; intro h; exact hl (by rw [h]))
    have hl1 : ((xs.length : Int) != ys.length) = true := by simp; omega
    go_enter Try.func178, Try.ntmps178
    go_wp2
    go_ret
    exact ⟨by rw [H.out]; rfl, Drawn.refl _⟩
theorem impl_EqualMatrix_c {w : World} {v1 v2 : Value} {xs ys : List (List Int)} (h1 : Tab w v1 xs) (h2 : Tab w v2 ys) :
    Calls Try.prog 122 #[v1, v2] w (Reads w (.bool (decide (xs = ys)))) := by
  have Hc := Lib.hid (sEqualFunc_c h1 h2)
  obtain ⟨a1, c1, rfl, _, _, _⟩ := h1.shape
  obtain ⟨a2, c2, rfl, _, _, _⟩ := h2.shape
  clear h1 h2
  go_enter Try.func122, Try.ntmps122
  go_wp2_with fail
  refine Hc.out.mono ?_
  rintro e w1 ⟨rfl, hd⟩
  go_wp2
  go_ret
  exact ⟨rfl, hd⟩
end Go.Proofs.Ytlkgkfgpnnahdaa
end

section
/-
  What a table is for a product; TableTimes, the program's and the reference's.
-/
namespace Go.Proofs.Ytlkgkfgpnnahdaa
open Go.RowKit Go.Deep Go.Sd

def tabEnt (x : Int) : Bool := decide (-1000 ≤ x ∧ x ≤ 1000)
def tabRow (n : Nat) (r : List Int) : Bool := decide (r.length = n) && r.all tabEnt
def isTab (l : Nat) (m : List (List Int)) : Bool := decide (1 ≤ m.length ∧ m.length ≤ 9 ∧ 1 ≤ l ∧ l ≤ 9) && m.all (tabRow l)
theorem tabRow_no {n : Nat} {r : List Int} (h : r.length ≠ n) : tabRow n r = false := by unfold tabRow; simp [h]
theorem tabRow_yes {n : Nat} {r : List Int} (h : r.length = n) : tabRow n r = r.all tabEnt := by unfold tabRow; simp [h]

set_option maxHeartbeats 400000 in
theorem isTable_c {w : World} {v : Value} {m : List (List Int)} {l : Nat} (h : Tab w v m) (hl0 : l ≤ 9223372036854775807) :
    Calls Try.prog 174 #[v, .int .i64 l] w fun e w' => e = .returned (.bool (isTab l m)) ∧ w = w' := by
  have hlen := h.len
  obtain ⟨a, c, rfl, _, _, hcell⟩ := h.shape
  clear h
  by_cases hs : 1 ≤ m.length ∧ m.length ≤ 9 ∧ 1 ≤ l ∧ l ≤ 9
  · obtain ⟨hs1, hs2, hs3, hs4⟩ := hs
    have H0 := Lib.hid (show isTab l m = (m.drop 0).all (tabRow l) from by unfold isTab; simp [hs1, hs2, hs3, hs4])
    go_enter Try.func174, Try.ntmps174
    go_wp2
    go_loopg [27] (m.length) (fun g i wr => ∃ (k : Nat), i = .int .i64 k ∧ k + g = m.length ∧ Hid (isTab l m = (m.drop k).all (tabRow l)) ∧ w = wr)
    case atStart => exact ⟨0, rfl, by omega, H0, rfl⟩
    case round =>
      obtain ⟨k, rfl, hk, H, rfl⟩ := hrel
      by_cases hlt : k < m.length
      · obtain ⟨b, o, rfl, hb, hx0⟩ := hcell (by omega)
        obtain ⟨r, hr, hd⟩ := at_lt hlt
        obtain ⟨u, hu, hru⟩ := hx0 k r hr
        have hrl := hru.len
        obtain ⟨ra, rc, rfl, _, _, hrc⟩ := hru.shape
        have H1 := Lib.hid (show isTab l m = (tabRow l r && (m.drop (k + 1)).all (tabRow l)) from by rw [H.out, hd]; rfl)
        clear H hr hd hx0 hcell hru H0
        by_cases hl : r.length = l
        · have H2 := Lib.hid (show isTab l m = ((r.drop 0).all tabEnt && (m.drop (k + 1)).all (tabRow l)) from by rw [H1.out, tabRow_yes hl]; rfl)
          have t1 : ((r.length : Int) != (l : Int)) = false := by simp [hl]
          clear H1 hl
          go_wp2
          go_loopg [37] (r.length) (fun g i wr => ∃ (j : Nat), i = .int .i64 j ∧ j + g = r.length ∧ Hid (isTab l m = ((r.drop j).all tabEnt && (m.drop (k + 1)).all (tabRow l))) ∧ w = wr)
          case atStart => exact ⟨0, rfl, by omega, H2, rfl⟩
          case round =>
            obtain ⟨j, rfl, hj, H, rfl⟩ := hrel
            clear H2
            by_cases hlt2 : j < r.length
            · obtain ⟨b2, o2, rfl, hb2, hx2⟩ := hrc (by omega)
              obtain ⟨x, hx, hdx⟩ := at_lt hlt2
              obtain ⟨u2, hu2, rfl⟩ := hx2 j x hx
              have H1 := Lib.hid (show isTab l m = (tabEnt x && (r.drop (j + 1)).all tabEnt && (m.drop (k + 1)).all (tabRow l)) from by rw [H.out, hdx]; rfl)
              clear H hx hdx hx2 hrc
              by_cases hx1 : x < -1000
              · have H3 := Lib.hid (show isTab l m = false from by rw [H1.out, show tabEnt x = false from by unfold tabEnt; simp; omega]; rfl)
                clear H1
                go_wp2
                go_ret
                exact ⟨by rw [H3.out]; rfl, rfl⟩
              by_cases hx2 : 1000 < x
              · have H3 := Lib.hid (show isTab l m = false from by rw [H1.out, show tabEnt x = false from by unfold tabEnt; simp; omega]; rfl)
                clear H1
                go_wp2
                go_ret
                exact ⟨by rw [H3.out]; rfl, rfl⟩
              have H3 := Lib.hid (show isTab l m = ((r.drop (j + 1)).all tabEnt && (m.drop (k + 1)).all (tabRow l)) from by rw [H1.out, show tabEnt x = true from by unfold tabEnt; simp; omega]; rfl)
              clear H1
              go_wp2
              go_roundg (r.length - (j + 1))
              case measure => omega
              case rel => exact ⟨j + 1, by go_num, by omega, H3, rfl⟩
            · have H1 := Lib.hid (show isTab l m = (m.drop (k + 1)).all (tabRow l) from by rw [H.out, drop_len hlt2]; rfl)
              clear H
              go_wp2
              go_roundg (m.length - (k + 1))
              case measure => omega
              case rel => exact ⟨k + 1, by go_num, by omega, H1, rfl⟩
        · have H2 := Lib.hid (show isTab l m = false from by rw [H1.out, tabRow_no hl]; rfl)
          have t1 : ((r.length : Int) != (l : Int)) = true := by simp; omega
          clear H1
          go_wp2
          go_ret
          exact ⟨by rw [H2.out]; rfl, rfl⟩
      · have H1 := Lib.hid (show isTab l m = true from by rw [H.out, drop_len hlt]; rfl)
        clear H
        go_wp2
        go_ret
        exact ⟨by rw [H1.out]; rfl, rfl⟩
  · have H := Lib.hid (show isTab l m = false from by unfold isTab; simp [hs])
    by_cases h1 : m.length < 1
    · go_enter Try.func174, Try.ntmps174
      go_wp2
      go_ret
      exact ⟨by rw [H.out]; rfl, rfl⟩
    by_cases h2 : 9 < m.length
    · go_enter Try.func174, Try.ntmps174
      go_wp2
      go_ret
      exact ⟨by rw [H.out]; rfl, rfl⟩
    by_cases h3 : l < 1
    · go_enter Try.func174, Try.ntmps174
      go_wp2
      go_ret
      exact ⟨by rw [H.out]; rfl, rfl⟩
    have h4 : 9 < l := by omega
    go_enter Try.func174, Try.ntmps174
    go_wp2
    go_ret
    exact ⟨by rw [H.out]; rfl, rfl⟩

set_option maxHeartbeats 800000 in
theorem l17Table_c {w : World} {v : Value} {m : List (List Int)} {l : Nat} (h : Tab w v m) (hl0 : l ≤ 9223372036854775807) :
    Calls Try.prog 177 #[v, .int .i64 l] w fun e w' => e = .returned (.bool (isTab l m)) ∧ w = w' := by
  have hlen := h.len
  obtain ⟨a, c, rfl, _, _, hcell⟩ := h.shape
  clear h
  have H0 := Lib.hid (show isTab l m = (decide (1 ≤ m.length ∧ m.length ≤ 9 ∧ 1 ≤ l ∧ l ≤ 9) && (m.drop 0).all (tabRow l)) from rfl)
  go_enter Try.func177, Try.ntmps177
  go_wp2
  go_loopg [5] (m.length) (fun g i wr => ∃ (k : Nat), i = .int .i64 k ∧ k + g = m.length ∧ Hid (isTab l m = (decide (1 ≤ m.length ∧ m.length ≤ 9 ∧ 1 ≤ l ∧ l ≤ 9) && (m.drop k).all (tabRow l))) ∧ w = wr)
  case atStart => exact ⟨0, rfl, by omega, H0, rfl⟩
  case round =>
    obtain ⟨k, rfl, hk, H, rfl⟩ := hrel
    by_cases hlt : k < m.length
    · obtain ⟨b, o, rfl, hb, hx0⟩ := hcell (by omega)
      obtain ⟨r, hr, hd⟩ := at_lt hlt
      obtain ⟨u, hu, hru⟩ := hx0 k r hr
      have hrl := hru.len
      obtain ⟨ra, rc, rfl, _, _, hrc⟩ := hru.shape
      have H1 := Lib.hid (show isTab l m = (decide (1 ≤ m.length ∧ m.length ≤ 9 ∧ 1 ≤ l ∧ l ≤ 9) && (tabRow l r && (m.drop (k + 1)).all (tabRow l))) from by rw [H.out, hd]; rfl)
      clear H hr hd hx0 hcell hru H0
      by_cases hl : r.length = l
      · have H2 := Lib.hid (show isTab l m = (decide (1 ≤ m.length ∧ m.length ≤ 9 ∧ 1 ≤ l ∧ l ≤ 9) && ((r.drop 0).all tabEnt && (m.drop (k + 1)).all (tabRow l))) from by rw [H1.out, tabRow_yes hl]; rfl)
        have t1 : ((r.length : Int) != (l : Int)) = false := by simp [hl]
        have Hl := Lib.hid hl
        have hle : l ≤ r.length := by omega
        clear H1 hl
        go_wp2
        go_loopg [6] l (fun g i wr => ∃ (j : Nat), i = .int .i64 j ∧ j + g = l ∧ Hid (isTab l m = (decide (1 ≤ m.length ∧ m.length ≤ 9 ∧ 1 ≤ l ∧ l ≤ 9) && ((r.drop j).all tabEnt && (m.drop (k + 1)).all (tabRow l)))) ∧ w = wr)
        case atStart => exact ⟨0, rfl, by omega, H2, rfl⟩
        case round =>
          obtain ⟨j, rfl, hj, H, rfl⟩ := hrel
          clear H2
          by_cases hlt2 : j < l
          · obtain ⟨b2, o2, rfl, hb2, hx2⟩ := hrc (by omega)
            obtain ⟨x, hx, hdx⟩ := at_lt (xs := r) (k := j) (by omega)
            obtain ⟨u2, hu2, rfl⟩ := hx2 j x hx
            have H1 := Lib.hid (show isTab l m = (decide (1 ≤ m.length ∧ m.length ≤ 9 ∧ 1 ≤ l ∧ l ≤ 9) && (tabEnt x && (r.drop (j + 1)).all tabEnt && (m.drop (k + 1)).all (tabRow l))) from by rw [H.out, hdx]; rfl)
            clear H hx hdx hx2 hrc
            by_cases hx1 : -1000 ≤ x ∧ x ≤ 1000
            · have H3 := Lib.hid (show isTab l m = (decide (1 ≤ m.length ∧ m.length ≤ 9 ∧ 1 ≤ l ∧ l ≤ 9) && ((r.drop (j + 1)).all tabEnt && (m.drop (k + 1)).all (tabRow l))) from by rw [H1.out, show tabEnt x = true from by unfold tabEnt; simp [hx1]]; rfl)
              have Hc := Lib.hid (l1In_yes w hx1.1 hx1.2)
              clear H1 hx1
              go_wp2_with (go_at_call 100; refine Hc.out.mono ?_; rintro e w' ⟨rfl, rfl⟩)
              go_roundg (l - (j + 1))
              case measure => omega
              case rel => exact ⟨j + 1, by go_num, by omega, H3, rfl⟩
            · have H3 := Lib.hid (show isTab l m = false from by rw [H1.out, show tabEnt x = false from by unfold tabEnt; simp [hx1]]; simp)
              have Hc := Lib.hid (l1In_no (a := x) (b := -1000) (c := 1000) w (by omega))
              clear H1 hx1
              go_wp2_with (go_at_call 100; refine Hc.out.mono ?_; rintro e w' ⟨rfl, rfl⟩)
              go_ret
              exact ⟨by rw [H3.out]; rfl, rfl⟩
          · have H1 := Lib.hid (show isTab l m = (decide (1 ≤ m.length ∧ m.length ≤ 9 ∧ 1 ≤ l ∧ l ≤ 9) && (m.drop (k + 1)).all (tabRow l)) from by rw [H.out, drop_len (by have := Hl.out; omega)]; rfl)
            clear H
            go_wp2
            go_roundg (m.length - (k + 1))
            case measure => omega
            case rel => exact ⟨k + 1, by go_num, by omega, H1, rfl⟩
      · have H2 := Lib.hid (show isTab l m = false from by rw [H1.out, tabRow_no hl]; simp)
        have t1 : ((r.length : Int) != (l : Int)) = true := by simp; omega
        clear H1
        go_wp2
        go_ret
        exact ⟨by rw [H2.out]; rfl, rfl⟩
    · have H1 := Lib.hid (show isTab l m = ((decide (1 ≤ (m.length : Int)) && decide ((m.length : Int) ≤ 9)) && (decide (1 ≤ (l : Int)) && decide ((l : Int) ≤ 9))) from by
        rw [H.out, drop_len hlt]
        by_cases h1 : 1 ≤ m.length <;> by_cases h2 : m.length ≤ 9 <;> by_cases h3 : 1 ≤ l <;> by_cases h4 : l ≤ 9 <;> simp [h1, h2, h3, h4] <;> omega)
      have Hc := Lib.hid (l1In_c (m.length : Int) 1 9 w)
      have Hd := Lib.hid (l1In_c (l : Int) 1 9 w)
      clear H
      generalize (decide (1 ≤ (m.length : Int)) && decide ((m.length : Int) ≤ 9)) = B1 at H1 Hc
      generalize (decide (1 ≤ (l : Int)) && decide ((l : Int) ≤ 9)) = B2 at H1 Hd
      cases B1 with
      | false =>
        go_wp2_with fail
        refine Hc.out.mono ?_
        rintro e w' ⟨rfl, rfl⟩
        go_wp2
        go_ret
        exact ⟨by rw [H1.out]; rfl, rfl⟩
      | true =>
        go_wp2_with fail
        refine Hc.out.mono ?_
        rintro e w' ⟨rfl, rfl⟩
        go_wp2_with fail
        refine Hd.out.mono ?_
        rintro e w' ⟨rfl, rfl⟩
        go_wp2
        go_ret
        exact ⟨by rw [H1.out]; rfl, rfl⟩

def ttOk (a b : List (List Int)) : Bool := decide (b.length ≠ 0) && isTab b.length a && isTab (b.headD []).length b
def ttV (a b : List (List Int)) : List (List Int) := if ttOk a b = true then prodT a b a.length b.length (b.headD []).length else []

theorem _root_.Go.Sd.Bd.mono {B B' : Int} {m : List (List Int)} (h : Bd B m) (hb : B ≤ B') : Bd B' m := fun r hr x hx => by have := h r hr x hx; omega

theorem isTab_sq {l : Nat} {m : List (List Int)} (h : isTab l m = true) : (∀ r, r ∈ m → r.length = l) ∧ Bd 1000 m ∧ 1 ≤ m.length ∧ m.length ≤ 9 ∧ 1 ≤ l ∧ l ≤ 9 := by
  unfold isTab at h
  simp only [Bool.and_eq_true, decide_eq_true_eq, List.all_eq_true] at h
  refine ⟨fun r hr => ?_, fun r hr x hx => ?_, h.1⟩
  · have := h.2 r hr
    unfold tabRow at this
    simp at this
    exact this.1
  · have := h.2 r hr
    unfold tabRow at this
    simp at this
    have := this.2 x hx
    unfold tabEnt at this
    simpa using this

set_option maxHeartbeats 1000000 in
theorem impl_TableTimes_c {w : World} {va vb : Value} {a b : List (List Int)} (h1 : Tab w va a) (h2 : Tab w vb b) :
    Calls Try.prog 117 #[va, vb] w (Makes2 (OTab 3 33) w (ttV a b) (ttOk a b)) := by
  have hlb := h2.len
  by_cases hb0 : b.length = 0
  · have HK := Lib.hid (show ttOk a b = false from by unfold ttOk; simp [hb0])
    have HV := Lib.hid (show ttV a b = [] from by unfold ttV; rw [HK.out]; rfl)
    obtain ⟨ba, bc, rfl, _, _, _⟩ := h2.shape
    rw [hb0] at *
    rw [HK.out]
    clear h1 h2
    go_enter Try.func117, Try.ntmps117
    go_wp2
    go_ret2
    exact ⟨_, rfl, by rw [HV.out]; exact New.nil _ _, Below.refl _ _⟩
  · obtain ⟨r0, hr0, hd0⟩ := at_lt (xs := b) (k := 0) (by omega)
    have hbs := h2.shape
    obtain ⟨ba, bc, rfl, _, _, hbx⟩ := hbs
    obtain ⟨b', o', rfl, hb', hx⟩ := hbx (by omega)
    obtain ⟨u, hu, hur⟩ := hx 0 r0 hr0
    have hu0 : w.cell? ⟨b', o', none⟩ = some u := hu
    have hrl := hur.len
    obtain ⟨ua, uc, rfl, _, _, _⟩ := hur.shape
    have hhd : b.headD [] = r0 := by cases b with | nil => simp at hr0 | cons x xs => simpa using hr0
    have Hc := Lib.hid (isTable_c (l := b.length) h1 hlb)
    have Hd := Lib.hid (isTable_c (l := r0.length) h2 hrl)
    have t0 : ((b.length : Int) == 0) = false := by simp; intro h; simp [h] at hb0
    have ti : (0 : Int) < (b.length : Int) := Int.natCast_pos.2 (Nat.pos_of_ne_zero hb0)
    cases ha : isTab b.length a with
    | false =>
      have HK := Lib.hid (show ttOk a b = false from by unfold ttOk; rw [ha]; simp)
      have HV := Lib.hid (show ttV a b = [] from by unfold ttV; rw [HK.out]; rfl)
      rw [ha] at Hc
      rw [HK.out]
      clear ha h1 h2 hbx hx hr0 hd0 hhd hu hur Hd hb0
      go_enter Try.func117, Try.ntmps117
      go_wp2_with fail
      refine Hc.out.mono ?_
      rintro e w' ⟨rfl, rfl⟩
      go_wp2
      go_ret2
      exact ⟨_, rfl, by rw [HV.out]; exact New.nil _ _, Below.refl _ _⟩
    | true =>
      rw [ha] at Hc
      cases hb : isTab r0.length b with
      | false =>
        have HK := Lib.hid (show ttOk a b = false from by unfold ttOk; rw [hhd, hb]; simp)
        have HV := Lib.hid (show ttV a b = [] from by unfold ttV; rw [HK.out]; rfl)
        rw [hb] at Hd
        rw [HK.out]
        clear ha hb h1 h2 hbx hx hr0 hd0 hhd hu hur hb0
        go_enter Try.func117, Try.ntmps117
        go_wp2_with fail
        refine Hc.out.mono ?_
        rintro e w' ⟨rfl, rfl⟩
        go_wp2_with fail
        refine Hd.out.mono ?_
        rintro e w' ⟨rfl, rfl⟩
        go_wp2
        go_ret2
        exact ⟨_, rfl, by rw [HV.out]; exact New.nil _ _, Below.refl _ _⟩
      | true =>
        have HK := Lib.hid (show ttOk a b = true from by unfold ttOk; rw [hhd, ha, hb]; simp [hb0])
        have HV := Lib.hid (show ttV a b = prodT a b a.length b.length r0.length from by unfold ttV; rw [HK.out, hhd]; rfl)
        have sa := isTab_sq ha
        have sb := isTab_sq hb
        have Hm := Lib.hid (times_c h1 h2 rfl sa.1 rfl sb.1 (by omega) (by omega) (by omega) (by omega) (by omega) (by omega) (sa.2.1.mono (by omega)) (sb.2.1.mono (by omega)))
        rw [hb] at Hd
        rw [HK.out]
        clear ha hb h1 h2 hbx hx hr0 hd0 hhd hu hur hb0 sa sb
        go_enter Try.func117, Try.ntmps117
        go_wp2_with fail
        refine Hc.out.mono ?_
        rintro e w' ⟨rfl, rfl⟩
        go_wp2_with fail
        refine Hd.out.mono ?_
        rintro e w' ⟨rfl, rfl⟩
        go_wp2_with fail
        refine Hm.out.mono ?_
        rintro e w1 ⟨v1, rfl, hn1, hb1⟩
        go_wp2
        go_ret2
        exact ⟨_, rfl, by rw [HV.out]; exact hn1, hb1⟩

set_option maxHeartbeats 1000000 in
theorem spec_TableTimes_c {w : World} {va vb : Value} {a b : List (List Int)} (h1 : Tab w va a) (h2 : Tab w vb b) :
    Calls Try.prog 119 #[va, vb] w (Makes2 (OTab 3 33) w (ttV a b) (ttOk a b)) := by
  have hlb := h2.len
  by_cases hb0 : b.length = 0
  · have HK := Lib.hid (show ttOk a b = false from by unfold ttOk; simp [hb0])
    have HV := Lib.hid (show ttV a b = [] from by unfold ttV; rw [HK.out]; rfl)
    obtain ⟨ba, bc, rfl, _, _, _⟩ := h2.shape
    rw [hb0] at *
    rw [HK.out]
    clear h1 h2
    go_enter Try.func119, Try.ntmps119
    go_wp2
    go_ret2
    exact ⟨_, rfl, by rw [HV.out]; exact New.empty w (Nat.le_refl _), (Below.refl _ _).alloc (Nat.le_refl _) _⟩
  · obtain ⟨r0, hr0, hd0⟩ := at_lt (xs := b) (k := 0) (by omega)
    have hbs := h2.shape
    obtain ⟨ba, bc, rfl, _, _, hbx⟩ := hbs
    obtain ⟨b', o', rfl, hb', hx⟩ := hbx (by omega)
    obtain ⟨u, hu, hur⟩ := hx 0 r0 hr0
    have hu0 : w.cell? ⟨b', o', none⟩ = some u := hu
    have hrl := hur.len
    obtain ⟨ua, uc, rfl, _, _, _⟩ := hur.shape
    have hhd : b.headD [] = r0 := by cases b with | nil => simp at hr0 | cons x xs => simpa using hr0
    have Hc := Lib.hid (l17Table_c (l := b.length) h1 hlb)
    have Hd := Lib.hid (l17Table_c (l := r0.length) h2 hrl)
    have t0 : ((b.length : Int) == 0) = false := by simp; intro h; simp [h] at hb0
    have ti : (0 : Int) < (b.length : Int) := Int.natCast_pos.2 (Nat.pos_of_ne_zero hb0)
    cases ha : isTab b.length a with
    | false =>
      have HK := Lib.hid (show ttOk a b = false from by unfold ttOk; rw [ha]; simp)
      have HV := Lib.hid (show ttV a b = [] from by unfold ttV; rw [HK.out]; rfl)
      rw [ha] at Hc
      rw [HK.out]
      clear ha h1 h2 hbx hx hr0 hd0 hhd hu hur Hd hb0
      go_enter Try.func119, Try.ntmps119
      go_wp2_with fail
      refine Hc.out.mono ?_
      rintro e w' ⟨rfl, rfl⟩
      go_wp2
      go_ret2
      exact ⟨_, rfl, by rw [HV.out]; exact New.empty w (Nat.le_refl _), (Below.refl _ _).alloc (Nat.le_refl _) _⟩
    | true =>
      rw [ha] at Hc
      cases hb : isTab r0.length b with
      | false =>
        have HK := Lib.hid (show ttOk a b = false from by unfold ttOk; rw [hhd, hb]; simp)
        have HV := Lib.hid (show ttV a b = [] from by unfold ttV; rw [HK.out]; rfl)
        rw [hb] at Hd
        rw [HK.out]
        clear ha hb h1 h2 hbx hx hr0 hd0 hhd hu hur hb0
        go_enter Try.func119, Try.ntmps119
        go_wp2_with fail
        refine Hc.out.mono ?_
        rintro e w' ⟨rfl, rfl⟩
        go_wp2_with fail
        refine Hd.out.mono ?_
        rintro e w' ⟨rfl, rfl⟩
        go_wp2
        go_ret2
        exact ⟨_, rfl, by rw [HV.out]; exact New.empty w (Nat.le_refl _), (Below.refl _ _).alloc (Nat.le_refl _) _⟩
      | true =>
        have HK := Lib.hid (show ttOk a b = true from by unfold ttOk; rw [hhd, ha, hb]; simp [hb0])
        have HV := Lib.hid (show ttV a b = prodT a b a.length b.length r0.length from by unfold ttV; rw [HK.out, hhd]; rfl)
        have sa := isTab_sq ha
        have sb := isTab_sq hb
        have Hm := Lib.hid (l4Times_c h1 h2 rfl sa.1 rfl sb.1 (by omega) (by omega) (by omega) (by omega) (by omega) (by omega) (sa.2.1.mono (by omega)) (sb.2.1.mono (by omega)))
        rw [hb] at Hd
        rw [HK.out]
        clear ha hb h1 h2 hbx hx hr0 hd0 hhd hu hur hb0 sa sb
        go_enter Try.func119, Try.ntmps119
        go_wp2_with fail
        refine Hc.out.mono ?_
        rintro e w' ⟨rfl, rfl⟩
        go_wp2_with fail
        refine Hd.out.mono ?_
        rintro e w' ⟨rfl, rfl⟩
        go_wp2_with fail
        refine Hm.out.mono ?_
        rintro e w1 ⟨v1, rfl, hn1, hb1⟩
        go_wp2
        go_ret2
        exact ⟨_, rfl, by rw [HV.out]; exact hn1, hb1⟩

theorem ttV_bd (a b : List (List Int)) : (ttV a b).length ≤ 9 ∧ ∀ x, x ∈ ttV a b → x.length ≤ 9 := by
  unfold ttV
  split
  · rename_i h
    unfold ttOk at h
    simp only [Bool.and_eq_true] at h
    have h1 := isTab_sq h.1.2
    have h2 := isTab_sq h.2
    refine ⟨by unfold prodT; rw [tabOf_len]; omega, fun x hx => by rw [mem_tabOf hx]; omega⟩
  · simp
end Go.Proofs.Ytlkgkfgpnnahdaa
end

section
/-
  Tables with no number less than 0, both sides.
-/
namespace Go.Proofs.Ytlkgkfgpnnahdaa
open Go.RowKit Go.Deep Go.Sd

def nnOk (x : Int) : Bool := decide (0 ≤ x)
def countM (m : List (List Int)) : Bool := m.all (fun r => r.all nnOk)

set_option maxHeartbeats 400000 in
theorem isCounted_c {w : World} {v : Value} {m : List (List Int)} (h : Tab w v m) :
    Calls Try.prog 105 #[v] w fun e w' => e = .returned (.bool (countM m)) ∧ w = w' := by
  have hlen := h.len
  obtain ⟨a, c, rfl, _, _, hcell⟩ := h.shape
  clear h
  have H0 := Lib.hid (show countM m = countM (m.drop 0) from rfl)
  go_enter Try.func105, Try.ntmps105
  go_wp2
  go_loopg [9] (m.length) (fun g i wr => ∃ (k : Nat), i = .int .i64 k ∧ k + g = m.length ∧ Hid (countM m = countM (m.drop k)) ∧ w = wr)
  case atStart => exact ⟨0, rfl, by omega, H0, rfl⟩
  case round =>
    obtain ⟨k, rfl, hk, H, rfl⟩ := hrel
    by_cases hlt : k < m.length
    · obtain ⟨b, o, rfl, hb, hx0⟩ := hcell (by omega)
      obtain ⟨r, hr, hd⟩ := at_lt hlt
      obtain ⟨u, hu, hru⟩ := hx0 k r hr
      have hrl := hru.len
      obtain ⟨ra, rc, rfl, _, _, hrc⟩ := hru.shape
      have H2 := Lib.hid (show countM m = ((r.drop 0).all nnOk && countM (m.drop (k + 1))) from by rw [H.out, hd]; rfl)
      clear H hr hd hx0 hcell hru H0
      go_wp2
      go_loopg [15] (r.length) (fun g i wr => ∃ (j : Nat), i = .int .i64 j ∧ j + g = r.length ∧ Hid (countM m = ((r.drop j).all nnOk && countM (m.drop (k + 1)))) ∧ w = wr)
      case atStart => exact ⟨0, rfl, by omega, H2, rfl⟩
      case round =>
        obtain ⟨j, rfl, hj, H, rfl⟩ := hrel
        clear H2
        by_cases hlt2 : j < r.length
        · obtain ⟨b2, o2, rfl, hb2, hx2⟩ := hrc (by omega)
          obtain ⟨x, hx, hdx⟩ := at_lt hlt2
          obtain ⟨u2, hu2, rfl⟩ := hx2 j x hx
          have H1 := Lib.hid (show countM m = (nnOk x && (r.drop (j + 1)).all nnOk && countM (m.drop (k + 1))) from by rw [H.out, hdx]; rfl)
          clear H hx hdx hx2 hrc
          by_cases hx1 : x < 0
          · have H3 := Lib.hid (show countM m = false from by rw [H1.out, show nnOk x = false from by unfold nnOk; simp; omega]; rfl)
            clear H1
            go_wp2
            go_ret
            exact ⟨by rw [H3.out]; rfl, rfl⟩
          have H3 := Lib.hid (show countM m = ((r.drop (j + 1)).all nnOk && countM (m.drop (k + 1))) from by rw [H1.out, show nnOk x = true from by unfold nnOk; simp; omega]; rfl)
          clear H1
          go_wp2
          go_roundg (r.length - (j + 1))
          case measure => omega
          case rel => exact ⟨j + 1, by go_num, by omega, H3, rfl⟩
        · have H1 := Lib.hid (show countM m = countM (m.drop (k + 1)) from by rw [H.out, drop_len hlt2]; rfl)
          clear H
          go_wp2
          go_roundg (m.length - (k + 1))
          case measure => omega
          case rel => exact ⟨k + 1, by go_num, by omega, H1, rfl⟩
    · have H1 := Lib.hid (show countM m = true from by rw [H.out, drop_len hlt]; rfl)
      clear H
      go_wp2
      go_ret
      exact ⟨by rw [H1.out]; rfl, rfl⟩
set_option maxHeartbeats 400000 in
theorem l19Rows_c {w : World} {v : Value} {m : List (List Int)} (h : Tab w v m) :
    Calls Try.prog 120 #[v] w fun e w' => e = .returned (.bool (countM m)) ∧ w = w' := by
  have hlen := h.len
  obtain ⟨a, c, rfl, _, _, hcell⟩ := h.shape
  clear h
  have H0 := Lib.hid (show countM m = countM (m.drop 0) from rfl)
  go_enter Try.func120, Try.ntmps120
  go_wp2
  go_loopg [3] (m.length) (fun g i wr => ∃ (k : Nat), i = .int .i64 k ∧ k + g = m.length ∧ Hid (countM m = countM (m.drop k)) ∧ w = wr)
  case atStart => exact ⟨0, rfl, by omega, H0, rfl⟩
  case round =>
    obtain ⟨k, rfl, hk, H, rfl⟩ := hrel
    by_cases hlt : k < m.length
    · obtain ⟨b, o, rfl, hb, hx0⟩ := hcell (by omega)
      obtain ⟨r, hr, hd⟩ := at_lt hlt
      obtain ⟨u, hu, hru⟩ := hx0 k r hr
      have hrl := hru.len
      obtain ⟨ra, rc, rfl, _, _, hrc⟩ := hru.shape
      have H2 := Lib.hid (show countM m = ((r.drop 0).all nnOk && countM (m.drop (k + 1))) from by rw [H.out, hd]; rfl)
      have hi1 : (k : Int) < (m.length : Int) := by omega
      clear H hr hd hx0 hcell hru H0
      go_wp2
      go_loopg [4] (r.length) (fun g i wr => ∃ (j : Nat), i = .int .i64 j ∧ j + g = r.length ∧ Hid (countM m = ((r.drop j).all nnOk && countM (m.drop (k + 1)))) ∧ w = wr)
      case atStart => exact ⟨0, rfl, by omega, H2, rfl⟩
      case round =>
        obtain ⟨j, rfl, hj, H, rfl⟩ := hrel
        clear H2
        by_cases hlt2 : j < r.length
        · obtain ⟨b2, o2, rfl, hb2, hx2⟩ := hrc (by omega)
          obtain ⟨x, hx, hdx⟩ := at_lt hlt2
          obtain ⟨u2, hu2, rfl⟩ := hx2 j x hx
          have H1 := Lib.hid (show countM m = (nnOk x && (r.drop (j + 1)).all nnOk && countM (m.drop (k + 1))) from by rw [H.out, hdx]; rfl)
          clear H hx hdx hx2 hrc
          by_cases hx1 : x < 0
          · have H3 := Lib.hid (show countM m = false from by rw [H1.out, show nnOk x = false from by unfold nnOk; simp; omega]; rfl)
            clear H1
            go_wp2
            go_ret
            exact ⟨by rw [H3.out]; rfl, rfl⟩
          have H3 := Lib.hid (show countM m = ((r.drop (j + 1)).all nnOk && countM (m.drop (k + 1))) from by rw [H1.out, show nnOk x = true from by unfold nnOk; simp; omega]; rfl)
          clear H1
          go_wp2
          go_roundg (r.length - (j + 1))
          case measure => omega
          case rel => exact ⟨j + 1, by go_num, by omega, H3, rfl⟩
        · have H1 := Lib.hid (show countM m = countM (m.drop (k + 1)) from by rw [H.out, drop_len hlt2]; rfl)
          clear H
          go_wp2
          go_roundg (m.length - (k + 1))
          case measure => omega
          case rel => exact ⟨k + 1, by go_num, by omega, H1, rfl⟩
    · have H1 := Lib.hid (show countM m = true from by rw [H.out, drop_len hlt]; rfl)
      clear H
      go_wp2
      go_ret
      exact ⟨by rw [H1.out]; rfl, rfl⟩
end Go.Proofs.Ytlkgkfgpnnahdaa
end
