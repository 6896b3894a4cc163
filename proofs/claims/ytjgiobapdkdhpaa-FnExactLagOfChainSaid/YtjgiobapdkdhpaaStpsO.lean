/-
  Lists of pairs of tables of the call's own: copied, marked.
-/
import Derived.Test.YtjgiobapdkdhpaaRows
import Derived.Test.YtjgiobapdkdhpaaBase
import Derived.Test.YtjgiobapdkdhpaaHarn
import Derived.Test.YtjgiobapdkdhpaaLawKit
import Derived.Test.YtjgiobapdkdhpaaStepH
import Derived.Test.YtjgiobapdkdhpaaStps
import Derived.Test.YtjgiobapdkdhpaaStpsTo
namespace Go.Sd
open Go.RowKit Go.Deep
def StF (eI eR : TypeId) (w : World) (B i : Nat) (x : Tb × Tb) (G : List Nat) : Prop := ∃ v1 v2, w.cell? ⟨B, i * 2, none⟩ = some v1 ∧ w.cell? ⟨B, i * 2 + 1, none⟩ = some v2 ∧ OStep eI eR w (.agg #[v1, v2]) x G
def OStps (eI eR : TypeId) : OwnRel (List (Tb × Tb)) := fun w v xs F => ∃ (B : Nat) (Fs : List (List Nat)), v = .slice (some ⟨B, 0, none⟩) xs.length xs.length ∧ xs.length ≤ 1048576 ∧ B < w.heap.size ∧ Fs.length = xs.length ∧ F = B :: Fs.flatten ∧ ∀ i x G, xs[i]? = some x → Fs[i]? = some G → StF eI eR w B i x G
section
variable {eI eR : TypeId} {w w' : World} {B i : Nat} {x : Tb × Tb} {G : List Nat}
theorem StF.keep (h : StF eI eR w B i x G) (hB : w'.heap[B]? = w.heap[B]?) (hG : ∀ b, b ∈ G → w'.heap[b]? = w.heap[b]?) : StF eI eR w' B i x G := by
  obtain ⟨v1, v2, c1, c2, h⟩ := h
  refine ⟨v1, v2, ?_, ?_, OStep.held.keep _ _ _ _ _ h hG⟩
  · rw [← c1]; simp [World.cell?, hB]
  · rw [← c2]; simp [World.cell?, hB]
theorem OStps.held : Held (OStps eI eR) := by
  refine ⟨?_, ?_⟩
  · rintro w w' v xs F ⟨B, Fs, e, hl, hB, hF, rfl, h⟩ hk
    have eB := hk B (by simp)
    have hB' : B < w'.heap.size := by
      have h3 : (w.heap[B]?).isSome = true := by simp [hB]
      rw [← eB] at h3
      simpa using h3
    exact ⟨B, Fs, e, hl, hB', hF, rfl, fun i x G hx hG => (h i x G hx hG).keep eB fun b hb => hk b (List.mem_cons_of_mem _ (List.mem_flatten_of_mem (List.mem_of_getElem? hG) hb))⟩
  · rintro w v xs F ⟨B, Fs, e, hl, hB, hF, rfl, h⟩ b hb
    rcases List.mem_cons.1 hb with rfl | hb
    · exact hB
    · obtain ⟨G, hG, hb⟩ := List.mem_flatten.1 hb
      obtain ⟨i, hi⟩ := List.getElem?_of_mem hG
      have hi1 : i < Fs.length := (List.getElem?_eq_some_iff.1 hi).1
      obtain ⟨v1, v2, _, _, h1⟩ := h i xs[i] G (List.getElem?_eq_getElem (by omega)) hi
      exact OStep.held.lt _ _ _ _ h1 b hb
theorem OStps.reads {v : Value} {xs : List (Tb × Tb)} {F : List Nat} (h : OStps eI eR w v xs F) : StpsR w v xs := by
  obtain ⟨B, Fs, rfl, hl, hB, hF, rfl, h⟩ := h
  refine ⟨by omega, _, _, rfl, Nat.le_refl _, by omega, by simp, fun h0 => ⟨B, 0, rfl, hB, fun i x hx => ?_⟩⟩
  have hi := (List.getElem?_eq_some_iff.1 hx).1
  obtain ⟨v1, v2, c1, c2, u1, u2, F1, F2, e, t1, t2, _⟩ := h i x Fs[i] hx (List.getElem?_eq_getElem (by omega))
  simp at e
  obtain ⟨rfl, rfl⟩ := e
  rw [Nat.zero_add]
  exact ⟨v1, v2, c1, c2, t1.reads, t2.reads⟩
theorem New.stps {lo : Nat} {v : Value} {xs : List (Tb × Tb)} (h : New (OStps eI eR) lo w v xs) : StpsR w v xs := by obtain ⟨F, h, _⟩ := h; exact h.reads
/-- The first k pairs lie in the block B, with what they own. -/
def DoneO (eI eR : TypeId) (w : World) (B : Nat) (xs : List (Tb × Tb)) (k : Nat) (Fs : List (List Nat)) : Prop :=
  Fs.length = k ∧ Fs.flatten.Nodup ∧ (∀ b, b ∈ Fs.flatten → B < b ∧ b < w.heap.size) ∧ ∀ i x G, xs[i]? = some x → Fs[i]? = some G → StF eI eR w B i x G
theorem DoneO.keep {xs : List (Tb × Tb)} {k : Nat} {Fs : List (List Nat)} (h : DoneO eI eR w B xs k Fs) (hb : Below w.heap.size w w') (hlt : B < w.heap.size) : DoneO eI eR w' B xs k Fs :=
  ⟨h.1, h.2.1, fun b hm => ⟨(h.2.2.1 b hm).1, Nat.lt_of_lt_of_le (h.2.2.1 b hm).2 hb.size⟩, fun i x G hx hG => (h.2.2.2 i x G hx hG).keep (hb.block B hlt) fun b hm => hb.block b (h.2.2.1 b (List.mem_flatten_of_mem (List.mem_of_getElem? hG) hm)).2⟩
theorem DoneO.next {xs : List (Tb × Tb)} {k m : Nat} {Fs : List (List Nat)} (h : DoneO eI eR w B xs k Fs) (hb : Below w.heap.size w w') (hlt : B < w.heap.size) (hfr : FreeV w' B m) (hk : k * 2 + 1 < m) (hx : xs[k]? = some x) {v1 v2 : Value} (hn : New (OStep eI eR) w.heap.size w' (.agg #[v1, v2]) x) :
    ∃ Fs', DoneO eI eR ((w'.setCell ⟨B, k * 2, none⟩ v1).setCell ⟨B, k * 2 + 1, none⟩ v2) B xs (k + 1) Fs' := by
  obtain ⟨G, hG, hGn, hGe⟩ := hn
  have hk' := h.keep hb hlt
  have hGlt := OStep.held.lt _ _ _ _ hG
  have st : ∀ b, b ≠ B → ((w'.setCell ⟨B, k * 2, none⟩ v1).setCell ⟨B, k * 2 + 1, none⟩ v2).heap[b]? = w'.heap[b]? := fun b hb' => (Below.heap_setCell _ _ _ _ hb').trans (Below.heap_setCell _ _ _ _ hb')
  refine ⟨Fs ++ [G], by simp [h.1], ?_, ?_, ?_⟩
  · simp only [List.flatten_append, List.flatten_cons, List.flatten_nil, List.append_nil]
    refine List.nodup_append.2 ⟨h.2.1, hGn, fun a ha b hb' e => ?_⟩
    subst e
    have := (h.2.2.1 a ha).2
    have := hGe a hb'
    omega
  · intro b hb'
    simp only [List.flatten_append, List.flatten_cons, List.flatten_nil, List.append_nil] at hb'
    simp only [World.size_setCell]
    rcases List.mem_append.1 hb' with hb' | hb'
    · exact hk'.2.2.1 b hb'
    · exact ⟨Nat.lt_of_lt_of_le hlt (hGe b hb'), hGlt b hb'⟩
  · intro i y H hy hH
    by_cases e : i = k
    · subst e
      rw [List.getElem?_append_right (by rw [h.1]; exact Nat.le_refl _), h.1] at hH
      simp at hH
      subst hH
      obtain rfl : x = y := by rw [hx] at hy; exact Option.some.inj hy
      obtain ⟨⟨u1, hu1⟩, _⟩ := hfr (i * 2) (by omega)
      obtain ⟨⟨u2, hu2⟩, _⟩ := hfr (i * 2 + 1) hk
      exact ⟨v1, v2, (World.cell?_setCell_other _ _ _ _ (by simp)).trans (World.cell?_setCell_same _ _ _ hu1), World.cell?_setCell_same _ _ _ ((World.cell?_setCell_other _ _ _ _ (by simp)).trans hu2),
        OStep.held.keep _ _ _ _ _ hG fun b hb' => st b (by have := hGe b hb'; omega)⟩
    · have hi : i < k := by
        have := (List.getElem?_eq_some_iff.1 hH).1
        simp [h.1] at this; omega
      rw [List.getElem?_append_left (by rw [h.1]; exact hi)] at hH
      obtain ⟨y1, y2, c1, c2, hs⟩ := hk'.2.2.2 i y H hy hH
      refine ⟨y1, y2, (World.cell?_setCell_other _ _ _ _ (by simp <;> omega)).trans ((World.cell?_setCell_other _ _ _ _ (by simp <;> omega)).trans c1), (World.cell?_setCell_other _ _ _ _ (by simp <;> omega)).trans ((World.cell?_setCell_other _ _ _ _ (by simp <;> omega)).trans c2), OStep.held.keep _ _ _ _ _ hs fun b hb' => st b ?_⟩
      have := (h.2.2.1 b (List.mem_flatten_of_mem (List.mem_of_getElem? hH) hb')).1
      omega
theorem flatten_apart {Fs : List (List Nat)} (hn : Fs.flatten.Nodup) {i j : Nat} {G H : List Nat} (hi : Fs[i]? = some G) (hj : Fs[j]? = some H) (hij : i ≠ j) {b : Nat} (hb : b ∈ G) : b ∉ H := by
  intro hb'
  have hp := (nodup_flatten.1 hn).2
  have h1 := (List.getElem?_eq_some_iff.1 hi)
  have h2 := (List.getElem?_eq_some_iff.1 hj)
  rcases Nat.lt_or_gt_of_ne hij with h | h
  · have := List.pairwise_iff_getElem.1 hp i j h1.1 h2.1 h
    exact this b (by rw [h1.2]; exact hb) b (by rw [h2.2]; exact hb') rfl
  · have := List.pairwise_iff_getElem.1 hp j i h2.1 h1.1 h
    exact this b (by rw [h2.2]; exact hb') b (by rw [h1.2]; exact hb) rfl
end
end Go.Sd
namespace Go.Proofs.Ytjgiobapdkdhpaa
open Go.RowKit Go.Deep Go.Sd
set_option maxHeartbeats 1000000 in
theorem toStepS_o {w : World} {v : Value} {xs : List (Tb × Tb)} (h : StpsR w v xs) (hsz : xs.length ≤ 1048576) (hsx : ∀ x, x ∈ xs → StpSz x) :
    Calls Try.prog 35 #[v] w fun e w' => ∃ v', e = .returned v' ∧ New (OStps 3 78) w.heap.size w' v' xs ∧ Below w.heap.size w w' := by
  obtain ⟨hlen, a, c, rfl, hc1, hc2, hc3, hcell⟩ := h
  obtain ⟨n, hn⟩ : ∃ n, n = xs.length := ⟨_, rfl⟩
  rw [← hn] at hsz hcell hc1 hlen ⊢
  have Hn := Lib.hid hn
  have Hsx := Lib.hid hsx
  clear hn hsx
  go_enter Try.func35, Try.ntmps35
  go_wp2_with (first
    | (at_make; refine wpl_makeS rfl (.tmp 6) (.tmp 6) 52 rfl 38 48 Try.underlying52 infoS n (by rfl) (by rfl) (by omega) (by omega) ?_; intro w1 hz1 hc1' hb1; have Hz1 := Lib.hid hz1; clear hz1)
    | fail)
  have Hb1 := Lib.hid hb1
  have Hf1 := Lib.hid (show FreeV w1 w.heap.size (n * 2) from fun j hj => ⟨⟨_, (hc1' j hj).1⟩, (hc1' j hj).2⟩)
  clear hb1 hc1'
  go_loopg [4] n (fun g i wr => ∃ (k : Nat), i = .int .i64 k ∧ k + g = n ∧ Hid (FreeV wr w.heap.size (n * 2)) ∧ Hid (∃ Fs, DoneO 3 78 wr w.heap.size xs k Fs) ∧ w.heap.size < wr.heap.size ∧ Hid (Below w.heap.size w wr))
  case atStart => exact ⟨0, rfl, by omega, Hf1, Lib.hid ⟨[], rfl, by simp, by simp, fun i x G _ hG => by simp at hG⟩, by have := Hz1.out; omega, Hb1⟩
  case round =>
    obtain ⟨k, rfl, hk, hfr, hdone, hlt1, hbel⟩ := hrel
    by_cases hlt : k < n
    · obtain ⟨b, o, rfl, hb, hx0⟩ := hcell (by omega)
      obtain ⟨x, hx, _⟩ := at_lt (xs := xs) (k := k) (by have := Hn.out; omega)
      obtain ⟨v1, v2, f0, f1, t1, t2⟩ := hx0 k x hx
      have g0 : wr.cell? ⟨b, o + k * 2, none⟩ = some v1 := (hbel.out.cell (p := ⟨b, o + k * 2, none⟩) hb).trans f0
      have g1 : wr.cell? ⟨b, o + k * 2 + 1, none⟩ = some v2 := (hbel.out.cell (p := ⟨b, o + k * 2 + 1, none⟩) hb).trans f1
      have Hc := Lib.hid (toStep_c (w := wr) (v := .agg #[v1, v2]) (x := x) ⟨v1, v2, rfl, Tab.frame _ _ _ _ t1 hbel.out, Tab.frame _ _ _ _ t2 hbel.out⟩ (Hsx.out x (List.mem_of_getElem? hx)))
      have Hx := Lib.hid hx
      obtain ⟨sa1, sc1, rfl, _, _, _⟩ := t1.shape
      obtain ⟨sa2, sc2, rfl, _, _, _⟩ := t2.shape
      generalize x.1.length = d1 at *
      generalize x.2.length = d2 at *
      have Hlt1 := Lib.hid hlt1
      clear f0 f1 hx0 hcell hx t1 t2 hlt1
      go_wp2_with fail
      refine Hc.out.mono ?_
      rintro e w2 ⟨u, rfl, hnew, hb2⟩
      have Hnw := Lib.hid hnew
      obtain ⟨u1, u2, rfl, n1, n2⟩ := hnew.fst_snd
      obtain ⟨p1, pn1, pc1, rfl⟩ := n1.slice
      obtain ⟨p2, pn2, pc2, rfl⟩ := n2.slice
      have hfr2 := hfr.out.keep hb2 Hlt1.out
      obtain ⟨Fs, hFs⟩ := hdone.out
      have hk1 : k * 2 + 1 < n * 2 := by omega
      have Hd := Lib.hid (hFs.next hb2 Hlt1.out hfr2 hk1 Hx.out Hnw.out)
      have Hfr := Lib.hid ((hfr2.set (k * 2) (.slice p1 pn1 pc1)).set (k * 2 + 1) (.slice p2 pn2 pc2))
      obtain ⟨⟨q1, hq1⟩, hq1f⟩ := hfr2 (k * 2) (by omega)
      obtain ⟨⟨q2, hq2⟩, hq2f⟩ := hfr2 (k * 2 + 1) hk1
      have Hs := Lib.hid (show w.heap.size < w2.heap.size from Nat.lt_of_lt_of_le Hlt1.out hb2.size)
      have Hbf := Lib.hid (((hbel.out.trans (hb2.mono hbel.out.size)).setCell (p := ⟨w.heap.size, k * 2, none⟩) (Nat.le_refl _) (.slice p1 pn1 pc1)).setCell (p := ⟨w.heap.size, k * 2 + 1, none⟩) (Nat.le_refl _) (.slice p2 pn2 pc2))
      have hkn : (k : Int) < (n : Int) := by omega
      clear hfr2 hFs Hnw hnew n1 n2 hb2 hfr hdone hbel
      go_wp2
      go_roundg (n - (k + 1))
      case measure => omega
      case rel => exact ⟨k + 1, by go_num, by omega, Hfr, Hd, by simp; exact Hs.out, Hbf⟩
    · have e : k = n := by omega
      subst e
      have Hr := Lib.hid (show New (OStps 3 78) w.heap.size wr (.slice (some ⟨w.heap.size, 0, none⟩) k k) xs from by
        obtain ⟨Fs, hF1, hF2, hF3, hF4⟩ := hdone.out
        refine ⟨w.heap.size :: Fs.flatten, ⟨w.heap.size, Fs, by rw [← Hn.out], by rw [← Hn.out]; exact hsz, hlt1, by rw [hF1, ← Hn.out], rfl, hF4⟩, List.nodup_cons.2 ⟨fun hm => by have := (hF3 _ hm).1; omega, hF2⟩, fun b hb => ?_⟩
        rcases List.mem_cons.1 hb with rfl | hb
        · exact Nat.le_refl _
        · have := (hF3 b hb).1; omega)
      clear hcell
      go_wp2
      go_ret
      exact ⟨_, rfl, Hr.out, hbel.out⟩
def cntStps : List (Tb × Tb) → Int
  | [] => 0
  | x :: xs => cntStp x + cntStps xs
theorem cntStps_nn (m : List (Tb × Tb)) : 0 ≤ cntStps m := by
  induction m with
  | nil => simp [cntStps]
  | cons r rs ih => have := cntStp_nn r; unfold cntStps; omega
theorem cntStps_take (m : List (Tb × Tb)) (i : Nat) : 0 ≤ cntStps (m.take i) ∧ cntStps (m.take i) ≤ cntStps m := by
  induction m generalizing i with
  | nil => simp [cntStps]
  | cons r rs ih =>
    have := cntStp_nn r
    cases i with
    | zero => simp [cntStps]; have := cntStps_nn rs; omega
    | succ i => simp only [List.take_succ_cons, cntStps]; have := ih i; omega
theorem cntStps_succ (m : List (Tb × Tb)) (i : Nat) (x : Tb × Tb) (h : m[i]? = some x) : cntStps (m.take (i + 1)) = cntStps (m.take i) + cntStp x := by
  induction m generalizing i with
  | nil => simp at h
  | cons r rs ih =>
    cases i with
    | zero => simp at h; subst h; simp [cntStps]
    | succ i =>
      have := ih i (by simpa using h)
      simp only [List.take_succ_cons, cntStps]
      omega
theorem cntStps_bd {m : List (Tb × Tb)} (h : m.length ≤ 1048576) (hr : ∀ x, x ∈ m → StpSz x) : cntStps m ≤ 2305843009213693952 := by
  have key : ∀ m : List (Tb × Tb), (∀ x, x ∈ m → StpSz x) → cntStps m ≤ (m.length : Int) * 2199023255552 := by
    intro m
    induction m with
    | nil => intro _; simp [cntStps]
    | cons x m ih =>
      intro hm
      have h1 := ih fun y hy => hm y (by simp [hy])
      have h2 := hm x (by simp)
      have e1 := cntSS_bd (p := 1048576) (r := 1048576) h2.1.1 h2.1.2
      have e2 := cntSS_bd (p := 1048576) (r := 1048576) h2.2.1 h2.2.2
      simp only [cntStps, List.length_cons, cntStp]
      omega
  have := key m hr
  omega
set_option maxHeartbeats 1000000 in
theorem markStepS_in {lo hi : Nat} {w : World} {v : Value} {xs : List (Tb × Tb)} {k0 : Int} (h : NewIn (OStps 3 78) lo hi w v xs) (h0 : 0 ≤ k0) (h1 : k0 + cntStps xs ≤ 4611686018427387904) :
    Calls Try.prog 40 #[v, .int .i64 k0] w fun e w' => e = .returned (.int .i64 (k0 + cntStps xs)) ∧ True ∧ OffIn lo hi w w' := by
  obtain ⟨F, ⟨B, Fs, rfl, hl, hB, hFl, rfl, hst⟩, hn, hin⟩ := h
  obtain ⟨n, hnn⟩ : ∃ n, n = xs.length := ⟨_, rfl⟩
  rw [← hnn] at hl hFl ⊢
  have Hn := Lib.hid hnn
  have HF := Lib.hid hFl
  have H1 := Lib.hid h1
  have Hin := Lib.hid hin
  obtain ⟨hBn, hnd⟩ := List.nodup_cons.1 hn
  have Hnd := Lib.hid hnd
  have HBn := Lib.hid hBn
  have Hst := Lib.hid hst
  clear hnn h1 hin hn hst hnd hBn hFl
  go_enter Try.func40, Try.ntmps40
  go_wp2
  go_loopg [1, 5] n (fun g x i wr => ∃ (k : Nat) (j : Int), i = .int .i64 k ∧ x = .int .i64 j ∧ Hid (j = k0 + cntStps (xs.take k)) ∧ k + g = n ∧ Hid (∀ i x G, k ≤ i → xs[i]? = some x → Fs[i]? = some G → StF 3 78 wr B i x G) ∧ Hid (Off Fs.flatten w wr))
  case atStart => exact ⟨0, k0, rfl, rfl, Lib.hid (by simp [cntStps]), by omega, Lib.hid (fun i x G _ => Hst.out i x G), Lib.hid (Off.refl _ _)⟩
  case round =>
    obtain ⟨k, j, rfl, rfl, Hj, hk, Hs, hoff⟩ := hrel
    by_cases hlt : k < n
    · obtain ⟨x, hx, _⟩ := at_lt (xs := xs) (k := k) (by have := Hn.out; omega)
      obtain ⟨G, hG, _⟩ := at_lt (xs := Fs) (k := k) (by have := HF.out; omega)
      obtain ⟨v1, v2, c1, c2, u1, u2, F1, F2, e, t1, t2, eG⟩ := Hs.out k x G (Nat.le_refl _) hx hG
      simp only [Value.agg.injEq, Array.mk.injEq, List.cons.injEq, and_true] at e
      obtain ⟨rfl, rfl⟩ := e
      have hGm : ∀ b, b ∈ G → b ∈ Fs.flatten := fun b hb => List.mem_flatten_of_mem (List.mem_of_getElem? hG) hb
      have hGn : G.Nodup := (nodup_flatten.1 Hnd.out).1 G (List.mem_of_getElem? hG)
      rw [eG] at hGn
      obtain ⟨hn1, hn2, hd⟩ := List.nodup_append.1 hGn
      have ht := cntStps_take xs k
      have ht1 := cntStps_take xs (k + 1)
      have hs1 := cntStps_succ xs k x hx
      have hc1 := cntSS_nn x.1
      have hc2 := cntSS_nn x.2
      have hcs : cntStp x = cntSS x.1 + cntSS x.2 := rfl
      have hj1 := Hj.out
      have hj2 := H1.out
      have M1 := Lib.hid (markIntSS_c (k0 := j) t1 hn1 (by omega) (by omega))
      have M2 := Lib.hid (fun w1 (ho : Off F1 wr w1) => markIntSS_c (k0 := j + cntSS x.1) ((OTab.kept 3 78).keep _ w1 _ _ _ t2 fun b hb => ho.block b ((OTab.kept _ _).lt _ _ _ _ t2 b hb) fun hb1 => hd b hb1 b hb rfl) hn2 (by omega) (by omega))
      have hm1 : ∀ b, b ∈ F1 → b ∈ Fs.flatten := fun b hb => hGm b (by rw [eG]; exact List.mem_append_left _ hb)
      have hm2 : ∀ b, b ∈ F2 → b ∈ Fs.flatten := fun b hb => hGm b (by rw [eG]; exact List.mem_append_right _ hb)
      have hB1 : B ∉ F1 := fun hb => HBn.out (hm1 B hb)
      have hBr : B < wr.heap.size := Nat.lt_of_lt_of_le hB hoff.out.size
      have C2 := Lib.hid (fun w1 (ho : Off F1 wr w1) => (show w1.cell? ⟨B, k * 2 + 1, none⟩ = some v2 from by rw [← c2]; simp only [World.cell?, ho.block B hBr hB1]))
      have Hnx := Lib.hid (fun w2 (ho : Off G wr w2) => (show ∀ i x G, k + 1 ≤ i → xs[i]? = some x → Fs[i]? = some G → StF 3 78 w2 B i x G from fun i y H hi hy hH => by
        have hs := Hs.out i y H (by omega) hy hH
        have hsl : ∀ b, b ∈ H → b < wr.heap.size := by
          obtain ⟨z1, z2, _, _, h⟩ := hs
          exact OStep.held.lt _ _ _ _ h
        exact hs.keep (ho.block B hBr (fun hb => HBn.out (hGm B hb))) fun b hb => ho.block b (hsl b hb) (flatten_apart Hnd.out hH hG (by omega) hb)))
      have Hoff := Lib.hid (fun w1 w2 (o1 : Off F1 wr w1) (o2 : Off F2 w1 w2) => (show Off G wr w2 from by rw [eG]; exact (o1.mono fun b hb => List.mem_append_left _ hb).trans (o2.mono fun b hb => List.mem_append_right _ hb)))
      have HGm := Lib.hid hGm
      have Hs1 := Lib.hid hs1
      have Hcs := Lib.hid hcs
      obtain ⟨p1, pn1, pc1, rfl⟩ : ∃ a n c, v1 = .slice a n c := by obtain ⟨a, c, e, _⟩ := t1.reads.shape; exact ⟨_, _, _, e⟩
      obtain ⟨p2, pn2, pc2, rfl⟩ : ∃ a n c, v2 = .slice a n c := by obtain ⟨a, c, e, _⟩ := t2.reads.shape; exact ⟨_, _, _, e⟩
      have hjj : 0 ≤ j ∧ j + cntSS x.1 + cntSS x.2 ≤ 4611686018427387904 := by omega
      obtain ⟨hjj1, hjj2⟩ := hjj
      have hkn : (k : Int) < (n : Int) := by omega
      clear c2 t1 t2 eG hGm hGn hn1 hn2 hd ht ht1 hs1 hcs hj1 hj2 hm1 hm2 hB1 hx hG
      generalize cntSS x.1 = q1 at *
      generalize cntSS x.2 = q2 at *
      go_wp2_with fail
      refine M1.out.mono ?_
      rintro e w1 ⟨rfl, _, o1⟩
      have M3 := Lib.hid (M2.out _ o1)
      have c2 := C2.out _ o1
      have O1 := Lib.hid o1
      have hB1' : B < w1.heap.size := Nat.lt_of_lt_of_le hBr o1.size
      clear o1 M1 M2 C2 c1
      go_wp2_with fail
      refine M3.out.mono ?_
      rintro e w2 ⟨rfl, _, o2⟩
      have O2 := Lib.hid (Hoff.out _ _ O1.out o2)
      clear o2 M3 c2
      go_wp2
      go_roundg (n - (k + 1))
      case measure => omega
      case rel => exact ⟨k + 1, j + q1 + q2, by go_num, rfl, Lib.hid (by rw [Hs1.out, Hj.out, Hcs.out]; omega), by omega, Lib.hid (Hnx.out _ O2.out), Lib.hid (hoff.out.trans (O2.out.mono HGm.out))⟩
    · have e : k = n := by omega
      subst e
      rw [List.take_of_length_le (by have := Hn.out; omega)] at Hj
      have HO := Lib.hid (show OffIn lo hi w wr from (hoff.out.mono (F' := B :: Fs.flatten) fun b hb => List.mem_cons_of_mem _ hb).inn Hin.out)
      clear hoff Hs
      go_wp2
      go_ret
      exact ⟨by rw [← Hj.out]; rfl, trivial, HO.out⟩
end Go.Proofs.Ytjgiobapdkdhpaa
