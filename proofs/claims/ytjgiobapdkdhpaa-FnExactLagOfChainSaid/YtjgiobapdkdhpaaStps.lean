/-
  Lists of pairs of tables: how they read; the laws' helpers on them.
-/
import Derived.Test.YtjgiobapdkdhpaaRows
import Derived.Test.YtjgiobapdkdhpaaBase
import Derived.Test.YtjgiobapdkdhpaaHarn
import Derived.Test.YtjgiobapdkdhpaaLawKit
import Derived.Test.YtjgiobapdkdhpaaStepH
import Derived.Test.YtjgiobapdkdhpaaLab
import Derived.OwnWalk
import Derived.Deep.RegionHeld3
import Derived.Deep.DeepCutAuto
namespace Go.Sd
open Go.RowKit Go.Deep Go.Joins Go.ChangeShapes Go.WideShapes Go.ChangeAt

/-- v is a slice of pairs of tables. -/
def StpsR (w : World) (v : Value) (xs : List (Tb × Tb)) : Prop :=
  xs.length ≤ 9223372036854775807 ∧ ∃ a c, v = .slice a xs.length c ∧ xs.length ≤ c ∧ c ≤ 9223372036854775807 ∧ (a = none → c = 0) ∧
    (0 < xs.length → ∃ b o, a = some ⟨b, o, none⟩ ∧ b < w.heap.size ∧ ∀ i x, xs[i]? = some x → ∃ v1 v2, w.cell? ⟨b, o + i * 2, none⟩ = some v1 ∧ w.cell? ⟨b, o + i * 2 + 1, none⟩ = some v2 ∧ Tab w v1 x.1 ∧ Tab w v2 x.2)
theorem StpsR.frame : Framed StpsR := by
  intro w w' v xs h hb
  obtain ⟨h1, a, c, rfl, h2, h3, h4, h5⟩ := h
  refine ⟨h1, a, c, rfl, h2, h3, h4, fun h0 => ?_⟩
  obtain ⟨b, o, rfl, hlt, hx⟩ := h5 h0
  refine ⟨b, o, rfl, Nat.lt_of_lt_of_le hlt hb.size, fun i x hi => ?_⟩
  obtain ⟨v1, v2, c0, c1, t1, t2⟩ := hx i x hi
  exact ⟨v1, v2, (hb.cell (p := ⟨b, o + i * 2, none⟩) hlt).trans c0, (hb.cell (p := ⟨b, o + i * 2 + 1, none⟩) hlt).trans c1, Tab.frame _ _ _ _ t1 hb, Tab.frame _ _ _ _ t2 hb⟩

section
variable {H : Type} {enc : TypeId × Value → H} {P : Program} {W : World} {base : Nat}
theorem open_Stps_cells {t e r s q : TypeId} {f0 f1 : Field} (ht : P.underlying t = some (.slice e)) (he : P.underlying e = some (.struct #[f0, f1])) (hr : P.underlying r = some (.slice s)) (hs : P.underlying s = some (.slice q)) (hq : P.underlying q = some (.int .i64)) (e0 : f0.type = r) (e1 : f1.type = r)
    (o0 : f0.offset = 0) (o1 : f1.offset = 1) (ce : P.cellsOf e = 2) (cr : P.cellsOf r = 1) (cs : P.cellsOf s = 1) (cq : P.cellsOf q = 1) {v : Value} {fuel : Nat} {x : DataW H × List MemPlace}
    (h : DataW.trod enc P W base (fun _ => true) true fuel t [v] = some x) : ∃ xs, StpsR W v xs := by
  rcases open_slice ht h with ⟨hcs, _⟩ | ⟨a, len, cap, m, n, D, Pl, hcs, hb, hl, hm, hmm, _, hx⟩
  · simp at hcs
    subst hcs
    exact ⟨[], by simp, none, 0, rfl, by simp, by simp, by simp, by simp⟩
  · simp at hcs
    subst hcs
    simp only [if_true] at hmm
    obtain rfl : m = cap := hmm
    have each : ∀ i, i < m → ∃ y : (Value × Value) × (Tb × Tb), W.cell? (a.add (i * 2)) = some y.1.1 ∧ W.cell? (a.add (i * 2 + 1)) = some y.1.2 ∧ Tab W y.1.1 y.2.1 ∧ Tab W y.1.2 y.2.2 := by
      intro i hi
      obtain ⟨cs', h1, h2⟩ := hx i hi
      rw [ce] at h1
      obtain ⟨_, hlen, hcell⟩ := World.cells?_some h1
      obtain ⟨xs, k, hk, hxy, _, hxl, hf⟩ := DataW.trod_struct he h2
      match xs, hxl, cs', hlen with
      | [y0, y1], _, [v0, v1], _ =>
        have g0 := hf 0 f0 rfl
        have g1 := hf 1 f1 rfl
        rw [e0] at g0
        rw [e1] at g1
        simp [o0, o1, cr] at g0 g1
        obtain ⟨a0, z0, _⟩ := open_Tab_any hr hs hq cs cq g0
        obtain ⟨a1, z1, _⟩ := open_Tab_any hr hs hq cs cq g1
        have c0 := hcell 0 (by omega)
        have c1 := hcell 1 (by omega)
        rw [add_add] at c0 c1
        exact ⟨((v0, v1), (a0, a1)), by simpa using c0, by simpa using c1, z0, z1⟩
    obtain ⟨q', hqq⟩ := choose_lt each
    have hm' : m ≤ 9223372036854775807 := hm
    refine ⟨(List.range len).map (fun i => (q' i).2), by simp; omega, some a, m, by simp, by simp; exact hl, hm', by simp, fun h0 => ?_⟩
    simp at h0
    obtain ⟨b, o, sp⟩ := a
    have h1 := (hqq 0 (by omega)).1
    have hs : sp = none := by simpa [Addr.add] using World.cell?_spot h1
    subst hs
    refine ⟨b, o, rfl, World.block_lt_of_cell? W ⟨b, o, none⟩ (by simpa [Addr.add] using h1), fun i x hi => ?_⟩
    have hi2 : i < len := by simpa using (List.getElem?_eq_some_iff.1 hi).1
    rw [List.getElem?_map, List.getElem?_range hi2] at hi
    simp at hi
    subst hi
    have h3 := hqq i (by omega)
    rw [add_plain, add_plain] at h3
    exact ⟨(q' i).1.1, (q' i).1.2, h3⟩
theorem open_Stps {t e r s q : TypeId} {f0 f1 : Field} (ht : P.underlying t = some (.slice e)) (he : P.underlying e = some (.struct #[f0, f1])) (hr : P.underlying r = some (.slice s)) (hs : P.underlying s = some (.slice q)) (hq : P.underlying q = some (.int .i64)) (e0 : f0.type = r) (e1 : f1.type = r)
    (o0 : f0.offset = 0) (o1 : f1.offset = 1) (ce : P.cellsOf e = 2) (cr : P.cellsOf r = 1) (cs : P.cellsOf s = 1) (cq : P.cellsOf q = 1) {v : Value} {d : DataW H} {p : List MemPlace}
    (hv : Value.okWide P W .any base t v) (h : DataW.Trod enc P W 0 (fun _ => true) true t v d p) : ∃ xs, StpsR W v xs ∧ True := by
  obtain ⟨a, len, cap, rfl⟩ := okWide_slice ht hv
  obtain ⟨fuel, hf⟩ := h
  obtain ⟨xs, hxs⟩ := open_Stps_cells ht he hr hs hq e0 e1 o0 o1 ce cr cs cq (by simpa [Value.cells] using hf)
  exact ⟨xs, hxs, trivial⟩
end
end Go.Sd
namespace Go.Proofs.Ytjgiobapdkdhpaa
open Go.RowKit Go.Deep Go.Sd

theorem infoS : (Try.prog.info? 38).map (fun i => (i.zero, i.size, i.bytes)) = some (some (.agg #[.slice none 0 0, .slice none 0 0]), 2, 48) := by kernel_rfl
def szLoopS : List (Tb × Tb) → Int → Int
  | [], l => l
  | x :: xs, l => if szStp x l < 0 then -1 else szLoopS xs (szStp x l)
def szStps (xs : List (Tb × Tb)) (l : Int) : Int := if l - xs.length < 0 then -1 else szLoopS xs (l - xs.length)
theorem szLoopS_bd : ∀ (xs : List (Tb × Tb)) (l : Int), 0 ≤ l → l ≤ 1048576 → -1 ≤ szLoopS xs l ∧ szLoopS xs l ≤ l ∧ (0 ≤ szLoopS xs l → ∀ x, x ∈ xs → StpSz x)
  | [], l, h, _ => ⟨by unfold szLoopS; omega, by unfold szLoopS; omega, fun _ t ht => by cases ht⟩
  | x :: xs, l, h, hl => by
    have h1 := szStp_bd x l h
    unfold szLoopS
    by_cases hn : szStp x l < 0
    · rw [if_pos hn]; exact ⟨by omega, by omega, fun h0 => by omega⟩
    · rw [if_neg hn]
      have h2 := szLoopS_bd xs (szStp x l) (by omega) (by omega)
      refine ⟨h2.1, by omega, fun h0 u hu => ?_⟩
      rcases List.mem_cons.1 hu with rfl | hu
      · exact StpSz.mk' u (cntStp_le u l h (by omega)) (by omega) hl
      · exact h2.2.2 h0 u hu
theorem szStps_bd (xs : List (Tb × Tb)) (l : Int) (h : 0 ≤ l) (hl : l ≤ 1048576) : -1 ≤ szStps xs l ∧ szStps xs l ≤ l ∧ (0 ≤ szStps xs l → (xs.length : Int) ≤ l ∧ ∀ x, x ∈ xs → StpSz x) := by
  unfold szStps
  by_cases hn : l - xs.length < 0
  · rw [if_pos hn]; exact ⟨by omega, by omega, fun h0 => by omega⟩
  · rw [if_neg hn]
    have h2 := szLoopS_bd xs (l - xs.length) (by omega) (by omega)
    exact ⟨h2.1, by omega, fun h0 => ⟨by omega, h2.2.2 h0⟩⟩
set_option maxHeartbeats 1000000 in
theorem szStepS_c {w : World} {v : Value} {m : List (Tb × Tb)} {l : Int} (h : StpsR w v m) (h0 : 0 ≤ l) (h1 : l ≤ 1048576) :
    Calls Try.prog 32 #[v, .int .i64 l] w fun e w' => e = .returned (.int .i64 (szStps m l)) ∧ Below w.heap.size w w' := by
  obtain ⟨hlen, a, c, rfl, hc1, hc2, hc3, hcell⟩ := h
  by_cases ht : l - m.length < 0
  · have H := Lib.hid (show szStps m l = _ from by unfold szStps; rw [if_pos ht])
    clear hcell
    go_enter Try.func32, Try.ntmps32
    go_wp2
    go_ret
    exact ⟨by rw [H.out]; rfl, Below.refl _ _⟩
  · have H0 := Lib.hid (show szStps m l = szLoopS (m.drop 0) (l - m.length) from by unfold szStps; rw [if_neg ht]; rfl)
    go_enter Try.func32, Try.ntmps32
    go_wp2
    go_loopg [1, 5] (m.length) (fun g x i wr => ∃ (k : Nat) (l' : Int), i = .int .i64 k ∧ x = .int .i64 l' ∧ k + g = m.length ∧ 0 ≤ l' ∧ l' ≤ 1048576 ∧ Hid (szStps m l = szLoopS (m.drop k) l') ∧ Hid (Below w.heap.size w wr))
    case atStart => exact ⟨0, _, rfl, rfl, by omega, by omega, by omega, H0, Lib.hid (Below.refl _ _)⟩
    case round =>
      obtain ⟨k, l', rfl, rfl, hk, h2, h3, H, hbel⟩ := hrel
      by_cases hlt : k < m.length
      · obtain ⟨b, o, rfl, hb, hx0⟩ := hcell (by omega)
        obtain ⟨x, hx, hd⟩ := at_lt hlt
        obtain ⟨v1, v2, f0, f1, t1, t2⟩ := hx0 k x hx
        have g0 : wr.cell? ⟨b, o + k * 2, none⟩ = some v1 := (hbel.out.cell (p := ⟨b, o + k * 2, none⟩) hb).trans f0
        have g1 : wr.cell? ⟨b, o + k * 2 + 1, none⟩ = some v2 := (hbel.out.cell (p := ⟨b, o + k * 2 + 1, none⟩) hb).trans f1
        have H1 := Lib.hid (show szStps m l = if szStp x l' < 0 then -1 else szLoopS (m.drop (k + 1)) (szStp x l') from by rw [H.out, hd]; rfl)
        have hbd := szStp_bd x l' h2
        have hcon := szStep_c (w := wr) (v := .agg #[v1, v2]) (x := x) (l := l') ⟨v1, v2, rfl, Tab.frame _ _ _ _ t1 hbel.out, Tab.frame _ _ _ _ t2 hbel.out⟩ h2 h3
        generalize szStp x l' = s at H1 hbd hcon
        have Hcon := Lib.hid hcon
        obtain ⟨sa, sc, rfl, _, _, _⟩ := t1.shape
        obtain ⟨sa2, sc2, rfl, _, _, _⟩ := t2.shape
        obtain ⟨hbd1, hbd2, _⟩ := hbd
        clear H hd hx hx0 hcell H0 f0 f1 t1 t2 hcon
        by_cases h4 : s < 0
        · have HF := Lib.hid (show szStps m l = -1 from by rw [H1.out, if_pos h4])
          have HB := Lib.hid (fun w2 (hb2 : Below wr.heap.size wr w2) => hbel.out.trans (hb2.mono hbel.out.size))
          clear H1
          go_wp2_with fail
          refine Hcon.out.mono ?_
          rintro e w2 ⟨rfl, hb2⟩
          have HZ := HB.out _ hb2
          clear hb2
          go_wp2
          go_ret
          exact ⟨by rw [HF.out]; rfl, HZ⟩
        · have HF := Lib.hid (show szStps m l = szLoopS (m.drop (k + 1)) s from by rw [H1.out, if_neg h4])
          have HB := Lib.hid (fun w2 (hb2 : Below wr.heap.size wr w2) => hbel.out.trans (hb2.mono hbel.out.size))
          clear H1
          go_wp2_with fail
          refine Hcon.out.mono ?_
          rintro e w2 ⟨rfl, hb2⟩
          have HZ := Lib.hid (HB.out _ hb2)
          clear hb2
          go_wp2
          go_roundg (m.length - (k + 1))
          case measure => omega
          case rel => exact ⟨k + 1, s, by go_num, rfl, by omega, by omega, by omega, HF, HZ⟩
      · have H1 := Lib.hid (show szStps m l = l' from by rw [H.out, drop_len hlt]; rfl)
        clear H hcell
        go_wp2
        go_ret
        exact ⟨by rw [H1.out]; rfl, hbel.out⟩
set_option maxHeartbeats 1000000 in
theorem eqStepS_same {w : World} {v1 v2 : Value} {xs : List (Tb × Tb)} (h1 : StpsR w v1 xs) (h2 : StpsR w v2 xs) :
    Calls Try.prog 38 #[v1, v2] w fun e w' => e = .returned (.bool true) ∧ Below w.heap.size w w' := by
  obtain ⟨hlen, a1, c1, rfl, _, _, _, hc1⟩ := h1
  obtain ⟨_, a2, c2, rfl, _, _, _, hc2⟩ := h2
  have hl1 : ((xs.length : Int) != xs.length) = false := by simp
  obtain ⟨n, hn⟩ : ∃ n, n = xs.length := ⟨_, rfl⟩
  rw [← hn] at hl1 hc1 hc2 hlen ⊢
  have Hn := Lib.hid hn
  clear hn
  go_enter Try.func38, Try.ntmps38
  go_wp2
  go_loopg [5] n (fun g i wr => ∃ (k : Nat), i = .int .i64 k ∧ k + g = n ∧ Hid (Below w.heap.size w wr))
  case atStart => exact ⟨0, rfl, by omega, Lib.hid (Below.refl _ _)⟩
  case round =>
    obtain ⟨k, rfl, hk, hbel⟩ := hrel
    by_cases hlt : k < n
    · obtain ⟨b1, o1, rfl, hb1, hx1⟩ := hc1 (by omega)
      obtain ⟨b2, o2, rfl, hb2, hx2⟩ := hc2 (by omega)
      obtain ⟨x, hx, _⟩ := at_lt (xs := xs) (k := k) (by have := Hn.out; omega)
      obtain ⟨p1, p2, f0, f1, t1, t2⟩ := hx1 k x hx
      obtain ⟨q1, q2, g0, g1, s1, s2⟩ := hx2 k x hx
      have hF : wr.cell? ⟨b1, o1 + k * 2, none⟩ = some p1 ∧ wr.cell? ⟨b1, o1 + k * 2 + 1, none⟩ = some p2 ∧ wr.cell? ⟨b2, o2 + k * 2, none⟩ = some q1 ∧ wr.cell? ⟨b2, o2 + k * 2 + 1, none⟩ = some q2 :=
        ⟨(hbel.out.cell (p := ⟨b1, o1 + k * 2, none⟩) hb1).trans f0, (hbel.out.cell (p := ⟨b1, o1 + k * 2 + 1, none⟩) hb1).trans f1, (hbel.out.cell (p := ⟨b2, o2 + k * 2, none⟩) hb2).trans g0, (hbel.out.cell (p := ⟨b2, o2 + k * 2 + 1, none⟩) hb2).trans g1⟩
      have hbw := hbel.out
      have hz := hbw.size
      have hl1' : b1 < wr.heap.size := by omega
      have hl2' : b2 < wr.heap.size := by omega
      have hi1 : (k : Int) < (n : Int) := by omega
      have HS := Lib.hid (fun (wz : World) (hb3 : Below wr.heap.size wr wz) => (show wz.cell? ⟨b1, o1 + k * 2, none⟩ = some p1 ∧ wz.cell? ⟨b1, o1 + k * 2 + 1, none⟩ = some p2 ∧ wz.cell? ⟨b2, o2 + k * 2, none⟩ = some q1 ∧ wz.cell? ⟨b2, o2 + k * 2 + 1, none⟩ = some q2 from ⟨(hb3.cell (p := ⟨b1, o1 + k * 2, none⟩) hl1').trans hF.1, (hb3.cell (p := ⟨b1, o1 + k * 2 + 1, none⟩) hl1').trans hF.2.1, (hb3.cell (p := ⟨b2, o2 + k * 2, none⟩) hl2').trans hF.2.2.1, (hb3.cell (p := ⟨b2, o2 + k * 2 + 1, none⟩) hl2').trans hF.2.2.2⟩))
      have B1 := (Below.refl wr.heap.size wr).drew
      have HC := Lib.hid (eqStep_same (w := wr.drew) (v1 := .agg #[p1, p2]) (v2 := .agg #[q1, q2]) (x := x) ⟨p1, p2, rfl, Tab.frame _ _ _ _ t1 hbw.drew, Tab.frame _ _ _ _ t2 hbw.drew⟩ ⟨q1, q2, rfl, Tab.frame _ _ _ _ s1 hbw.drew, Tab.frame _ _ _ _ s2 hbw.drew⟩)
      obtain ⟨sa1, sc1, rfl, _, _, _⟩ := t1.shape
      obtain ⟨sa2, sc2, rfl, _, _, _⟩ := t2.shape
      obtain ⟨sa3, sc3, rfl, _, _, _⟩ := s1.shape
      obtain ⟨sa4, sc4, rfl, _, _, _⟩ := s2.shape
      generalize x.1.length = d1 at *
      generalize x.2.length = d2 at *
      have hSd : wr.drew.cell? ⟨b1, o1 + k * 2, none⟩ = some (.slice sa1 d1 sc1) ∧ wr.drew.cell? ⟨b1, o1 + k * 2 + 1, none⟩ = some (.slice sa2 d2 sc2) ∧ wr.drew.cell? ⟨b2, o2 + k * 2, none⟩ = some (.slice sa3 d1 sc3) ∧ wr.drew.cell? ⟨b2, o2 + k * 2 + 1, none⟩ = some (.slice sa4 d2 sc4) := hF
      clear f0 f1 g0 g1 hx1 hx2 hc1 hc2 hx hbw t1 t2 s1 s2
      go_wp2
      go_region_held3 (fun w' => w'.cell? ⟨b1, o1 + k * 2, none⟩ = some (.slice sa1 d1 sc1) ∧ w'.cell? ⟨b1, o1 + k * 2 + 1, none⟩ = some (.slice sa2 d2 sc2) ∧ w'.cell? ⟨b2, o2 + k * 2, none⟩ = some (.slice sa3 d1 sc3) ∧ w'.cell? ⟨b2, o2 + k * 2 + 1, none⟩ = some (.slice sa4 d2 sc4))
        (first | with_reducible exact hS1 | with_reducible exact hSd | with_reducible exact hF | go_keep)
        ((first
          | (go_at_call 26; (with_reducible refine HC.out.mono ?_); rintro e w2 ⟨rfl, hb⟩; have B2 := B1.trans (hb.mono B1.size); have hS1 := HS.out _ B2; clear hb)
          | fail))
      have HZ := Lib.hid (hbel.out.trans (B2.mono hbel.out.size))
      clear B1 B2
      go_wp2
      go_roundg (n - (k + 1))
      case measure => omega
      case rel => exact ⟨k + 1, by go_num, by omega, HZ⟩
    · have e : k = n := by omega
      subst e
      clear hc1 hc2
      go_wp2
      go_ret
      exact ⟨rfl, hbel.out⟩
end Go.Proofs.Ytjgiobapdkdhpaa
