/-
  Lists of pairs of tables, copied.
-/
import Derived.Test.YtjgiobapdkdhpaaRows
import Derived.Test.YtjgiobapdkdhpaaBase
import Derived.Test.YtjgiobapdkdhpaaStepH
import Derived.Test.YtjgiobapdkdhpaaStps
import Derived.OwnWalk
namespace Go.Sd
open Go.RowKit Go.Deep

/-- 'make([]T, n)', T a struct of two slices; the world is hidden. -/
theorem wpl_makeS {P : Program} {w : World} {ops : Array Oper} {rest : List Oper} {o : Oper} {a : Act} {Q : Exit → Act → World → Prop}
    (hg : o.guard = none) (l c : Operand) (t : TypeId) (hop : o.op = Op.makeSlice t l c)
    (e : TypeId) (bytes : Nat) (ht : P.underlying t = some (.slice e)) (hinfo : (P.info? e).map (fun i => (i.zero, i.size, i.bytes)) = some (some (.agg #[.slice none 0 0, .slice none 0 0]), 2, bytes))
    (n : Nat) (hl : a.eval l = .int .i64 (n : Int)) (hc : a.eval c = .int .i64 (n : Int)) (hbytes : bytes * n ≤ 281474976710656) (h63 : n ≤ 9223372036854775807)
    (hK : ∀ w', w.heap.size < w'.heap.size → (∀ j, j < n * 2 → w'.cell? ⟨w.heap.size, j, none⟩ = some (.slice none 0 0) ∧ w'.frozen? ⟨w.heap.size, j, none⟩ = false) → Below w.heap.size w w' → wpList P ops Q rest (a.put o.dst (.slice (some ⟨w.heap.size, 0, none⟩) n n)) w') :
    wpList P ops Q (o :: rest) a w := by
  obtain ⟨i, hi, hzz⟩ := Option.map_eq_some_iff.1 hinfo
  simp only [Prod.mk.injEq] at hzz
  obtain ⟨hz, hs, hb⟩ := hzz
  refine wpList_make_full w hg l c t hop 0 e i _ 2 ht hi hz hs .i64 .i64 _ _ n hl hc rfl rfl (by rw [hb]; exact hbytes) h63 (Nat.zero_le _) fun w' ho hgr => ?_
  rcases ho.2 with ⟨h, _⟩ | ⟨g, cap, cur, hv, _, hgp, hnc, _, hsz, hcur⟩
  · simp at h
  · simp at hv
    obtain ⟨rfl, rfl⟩ := hv
    have hlt : w.heap.size < w'.heap.size := by
      have := (Array.getElem?_eq_some_iff.1 hgp).1
      exact this
    refine hK w' hlt (fun j hj => ?_) ((Below.refl w.heap.size w).grown hgr (Nat.le_refl _) (by simp))
    have hj2 : cur[j]? = some (.slice none 0 0) := by
      have h1 : (cur.toList.take (n * 2))[j]? = some (.slice none 0 0) := by
        rw [hcur]
        simp [madeCells, Value.cells, hj]
        have h3 : j % 2 = 0 ∨ j % 2 = 1 := by omega
        rcases h3 with h | h <;> rw [h] <;> rfl
      rw [List.getElem?_take, if_pos hj] at h1
      simpa using h1
    constructor
    · simp [World.cell?, hgp, hj2]
    · simp [World.frozen?, hgp]
theorem New.fst_snd {eI eR : TypeId} {lo : Nat} {w : World} {v : Value} {x : Tb × Tb} (h : New (OStep eI eR) lo w v x) : ∃ v1 v2, v = .agg #[v1, v2] ∧ New (OTab eI eR) lo w v1 x.1 ∧ New (OTab eI eR) lo w v2 x.2 := by
  obtain ⟨F, ⟨v1, v2, F1, F2, rfl, h1, h2, rfl⟩, hn, hge⟩ := h
  have hn' := List.nodup_append.1 hn
  exact ⟨v1, v2, rfl, ⟨F1, h1, hn'.1, fun b hb => hge b (List.mem_append_left _ hb)⟩, ⟨F2, h2, hn'.2.1, fun b hb => hge b (List.mem_append_right _ hb)⟩⟩
/-- Cells that may be written. -/
def FreeV (w : World) (B m : Nat) : Prop := ∀ j, j < m → (∃ u, w.cell? ⟨B, j, none⟩ = some u) ∧ w.frozen? ⟨B, j, none⟩ = false
theorem FreeV.keep {w w' : World} {B m lo : Nat} (h : FreeV w B m) (hb : Below lo w w') (hlt : B < lo) : FreeV w' B m := fun j hj =>
  ⟨by obtain ⟨⟨u, hu⟩, _⟩ := h j hj; exact ⟨u, (hb.cell (p := ⟨B, j, none⟩) hlt).trans hu⟩, (hb.frozen (p := ⟨B, j, none⟩) hlt).trans (h j hj).2⟩
theorem FreeV.set {w : World} {B m : Nat} (h : FreeV w B m) (k : Nat) (u : Value) : FreeV (w.setCell ⟨B, k, none⟩ u) B m := fun j hj => by
  obtain ⟨⟨x, hx⟩, hf⟩ := h j hj
  refine ⟨?_, (World.frozen?_setCell _ _ _ _).trans hf⟩
  by_cases e : j = k
  · subst e; exact ⟨u, World.cell?_setCell_same _ _ _ hx⟩
  · exact ⟨x, (World.cell?_setCell_other _ _ _ _ (by simp <;> omega)).trans hx⟩
/-- The first k pairs lie in the block B. -/
def DoneS (eI eR : TypeId) (w : World) (B : Nat) (xs : List (Tb × Tb)) (k : Nat) : Prop :=
  ∀ i x, i < k → xs[i]? = some x → ∃ v1 v2, w.cell? ⟨B, i * 2, none⟩ = some v1 ∧ w.cell? ⟨B, i * 2 + 1, none⟩ = some v2 ∧ New (OTab eI eR) (B + 1) w v1 x.1 ∧ New (OTab eI eR) (B + 1) w v2 x.2
theorem DoneS.keep {eI eR : TypeId} {w w' : World} {B : Nat} {xs : List (Tb × Tb)} {k : Nat} (h : DoneS eI eR w B xs k) (hb : Below w.heap.size w w') (hlt : B < w.heap.size) : DoneS eI eR w' B xs k := fun i x hi hx => by
  obtain ⟨v1, v2, c1, c2, n1, n2⟩ := h i x hi hx
  exact ⟨v1, v2, (hb.cell (p := ⟨B, i * 2, none⟩) hlt).trans c1, (hb.cell (p := ⟨B, i * 2 + 1, none⟩) hlt).trans c2, n1.keep (OTab.kept _ _) hb (Nat.le_refl _), n2.keep (OTab.kept _ _) hb (Nat.le_refl _)⟩
theorem DoneS.next {eI eR : TypeId} {w : World} {B m : Nat} {xs : List (Tb × Tb)} {k : Nat} (h : DoneS eI eR w B xs k) (hfr : FreeV w B m) (hk : k * 2 + 1 < m) {x : Tb × Tb} (hx : xs[k]? = some x) {v1 v2 : Value} (n1 : New (OTab eI eR) (B + 1) w v1 x.1) (n2 : New (OTab eI eR) (B + 1) w v2 x.2) :
    DoneS eI eR ((w.setCell ⟨B, k * 2, none⟩ v1).setCell ⟨B, k * 2 + 1, none⟩ v2) B xs (k + 1) := fun i y hi hy => by
  have low : ∀ {v : Value} {t : Tb}, New (OTab eI eR) (B + 1) w v t → New (OTab eI eR) (B + 1) ((w.setCell ⟨B, k * 2, none⟩ v1).setCell ⟨B, k * 2 + 1, none⟩ v2) v t := fun h => Go.Proofs.Ytjgiobapdkdhpaa.New.setCell_low (OTab.kept _ _).held (Go.Proofs.Ytjgiobapdkdhpaa.New.setCell_low (OTab.kept _ _).held h (by simp) _) (by simp) _
  by_cases e : i = k
  · subst e
    obtain rfl : x = y := by rw [hx] at hy; exact Option.some.inj hy
    obtain ⟨⟨u1, hu1⟩, _⟩ := hfr (i * 2) (by omega)
    obtain ⟨⟨u2, hu2⟩, _⟩ := hfr (i * 2 + 1) hk
    refine ⟨v1, v2, (World.cell?_setCell_other _ _ _ _ (by simp)).trans (World.cell?_setCell_same _ _ _ hu1), World.cell?_setCell_same _ _ _ ((World.cell?_setCell_other _ _ _ _ (by simp)).trans hu2), low n1, low n2⟩
  · obtain ⟨y1, y2, c1, c2, m1, m2⟩ := h i y (by omega) hy
    refine ⟨y1, y2, ?_, ?_, low m1, low m2⟩
    · exact (World.cell?_setCell_other _ _ _ _ (by simp <;> omega)).trans ((World.cell?_setCell_other _ _ _ _ (by simp <;> omega)).trans c1)
    · exact (World.cell?_setCell_other _ _ _ _ (by simp <;> omega)).trans ((World.cell?_setCell_other _ _ _ _ (by simp <;> omega)).trans c2)
end Go.Sd
namespace Go.Proofs.Ytjgiobapdkdhpaa
open Go.RowKit Go.Deep Go.Sd
set_option maxHeartbeats 1000000 in
theorem toStepS_c {w : World} {v : Value} {xs : List (Tb × Tb)} (h : StpsR w v xs) (hsz : xs.length ≤ 1048576) (hsx : ∀ x, x ∈ xs → StpSz x) :
    Calls Try.prog 35 #[v] w fun e w' => ∃ v', e = .returned v' ∧ StpsR w' v' xs ∧ Below w.heap.size w w' := by
  obtain ⟨hlen, a, c, rfl, hc1, hc2, hc3, hcell⟩ := h
  obtain ⟨n, hn⟩ : ∃ n, n = xs.length := ⟨_, rfl⟩
  rw [← hn] at hsz hcell hc1 hlen ⊢
  have Hn := Lib.hid hn
  have Hsx := Lib.hid hsx
  clear hn hsx
  go_enter Try.func35, Try.ntmps35
  go_wp2_with (first
    | (at_make; refine wpl_makeS rfl (.tmp 6) (.tmp 6) 52 rfl 38 48 Try.underlying52 infoS n (by rfl) (by rfl) (by omega) (by omega) ?_; intro w1 hz1 hc1' hb1; have Hz1 := Lib.hid hz1; clear hz1)
    | fail)
  have Hb1 := Lib.hid hb1
  have Hf1 := Lib.hid (show FreeV w1 w.heap.size (n * 2) from fun j hj => ⟨⟨_, (hc1' j hj).1⟩, (hc1' j hj).2⟩)
  clear hb1 hc1'
  go_loopg [4] n (fun g i wr => ∃ (k : Nat), i = .int .i64 k ∧ k + g = n ∧ Hid (FreeV wr w.heap.size (n * 2)) ∧ Hid (DoneS 3 78 wr w.heap.size xs k) ∧ w.heap.size < wr.heap.size ∧ Hid (Below w.heap.size w wr))
  case atStart => exact ⟨0, rfl, by omega, Hf1, Lib.hid (fun i x hi => by omega), by have := Hz1.out; omega, Hb1⟩
  case round =>
    obtain ⟨k, rfl, hk, hfr, hdone, hlt1, hbel⟩ := hrel
    by_cases hlt : k < n
    · obtain ⟨b, o, rfl, hb, hx0⟩ := hcell (by omega)
      obtain ⟨x, hx, _⟩ := at_lt (xs := xs) (k := k) (by have := Hn.out; omega)
      obtain ⟨v1, v2, f0, f1, t1, t2⟩ := hx0 k x hx
      have g0 : wr.cell? ⟨b, o + k * 2, none⟩ = some v1 := (hbel.out.cell (p := ⟨b, o + k * 2, none⟩) hb).trans f0
      have g1 : wr.cell? ⟨b, o + k * 2 + 1, none⟩ = some v2 := (hbel.out.cell (p := ⟨b, o + k * 2 + 1, none⟩) hb).trans f1
      have Hc := Lib.hid (toStep_c (w := wr) (v := .agg #[v1, v2]) (x := x) ⟨v1, v2, rfl, Tab.frame _ _ _ _ t1 hbel.out, Tab.frame _ _ _ _ t2 hbel.out⟩ (Hsx.out x (List.mem_of_getElem? hx)))
      have Hx := Lib.hid hx
      obtain ⟨sa1, sc1, rfl, _, _, _⟩ := t1.shape
      obtain ⟨sa2, sc2, rfl, _, _, _⟩ := t2.shape
      generalize x.1.length = d1 at *
      generalize x.2.length = d2 at *
      have Hlt1 := Lib.hid hlt1
      clear f0 f1 hx0 hcell hx t1 t2 hlt1
      go_wp2_with fail
      refine Hc.out.mono ?_
      rintro e w2 ⟨u, rfl, hnew, hb2⟩
      obtain ⟨u1, u2, rfl, n1, n2⟩ := hnew.fst_snd
      obtain ⟨p1, pn1, pc1, rfl⟩ := n1.slice
      obtain ⟨p2, pn2, pc2, rfl⟩ := n2.slice
      have hfr2 := hfr.out.keep hb2 Hlt1.out
      have hd2 := hdone.out.keep hb2 Hlt1.out
      have hk1 : k * 2 + 1 < n * 2 := by omega
      have Hd := Lib.hid (hd2.next hfr2 hk1 Hx.out (n1.mono (Nat.succ_le_of_lt Hlt1.out)) (n2.mono (Nat.succ_le_of_lt Hlt1.out)))
      have Hfr := Lib.hid ((hfr2.set (k * 2) (.slice p1 pn1 pc1)).set (k * 2 + 1) (.slice p2 pn2 pc2))
      obtain ⟨⟨q1, hq1⟩, hq1f⟩ := hfr2 (k * 2) (by omega)
      obtain ⟨⟨q2, hq2⟩, hq2f⟩ := hfr2 (k * 2 + 1) hk1
      have Hs := Lib.hid (show w.heap.size < w2.heap.size from Nat.lt_of_lt_of_le Hlt1.out hb2.size)
      have Hbf := Lib.hid (((hbel.out.trans (hb2.mono hbel.out.size)).setCell (p := ⟨w.heap.size, k * 2, none⟩) (Nat.le_refl _) (.slice p1 pn1 pc1)).setCell (p := ⟨w.heap.size, k * 2 + 1, none⟩) (Nat.le_refl _) (.slice p2 pn2 pc2))
      have hkn : (k : Int) < (n : Int) := by omega
      clear hfr2 hd2 hnew n1 n2 hb2 hfr hdone hbel
      go_wp2
      go_roundg (n - (k + 1))
      case measure => omega
      case rel => exact ⟨k + 1, by go_num, by omega, Hfr, Hd, by simp; exact Hs.out, Hbf⟩
    · have e : k = n := by omega
      subst e
      have Hr := Lib.hid (show StpsR wr (.slice (some ⟨w.heap.size, 0, none⟩) k k) xs from
        ⟨by rw [← Hn.out]; exact hlen, _, k, by rw [← Hn.out], by rw [← Hn.out]; omega, by omega, by simp, fun _ => ⟨w.heap.size, 0, rfl, hlt1, fun i x hi => by
          obtain ⟨y1, y2, c1, c2, m1, m2⟩ := hdone.out i x (by have := (List.getElem?_eq_some_iff.1 hi).1; have := Hn.out; omega) hi
          rw [Nat.zero_add]
          exact ⟨y1, y2, c1, c2, m1.tab, m2.tab⟩⟩⟩)
      clear hcell
      go_wp2
      go_ret
      exact ⟨_, rfl, Hr.out, hbel.out⟩
end Go.Proofs.Ytjgiobapdkdhpaa
