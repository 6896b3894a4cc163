/-
  Texts of this claim joined: laws for its walks, contracts of the functions that the law reaches.
-/
import Derived.Test.YtlkgkfgpnnahdaaGreatRows
import Derived.Test.YtlkgkfgpnnahdaaGreatFnStepsM1
import Derived.Test.YtlkgkfgpnnahdaaGreatFnStepsM3
import Derived.StillTailTactics
import Derived.WalkSpells
section
/-
  Tables of zeros, the reference's and the program's; copies of tables.
-/
namespace Go.Proofs.YtlkgkfgpnnahdaaGreat
open Go.RowKit Go.Deep Go.Sd

theorem replicate_snoc {α : Type} (k : Nat) (x : α) : List.replicate k x ++ [x] = List.replicate (k + 1) x := by
  rw [List.replicate_succ']

set_option maxHeartbeats 400000 in
theorem l4Zero_c {w : World} {p r : Nat} (hp : p ≤ 1048576) (hr : r ≤ 1048576) :
    Calls Tryz.prog 69 #[.int .i64 p, .int .i64 r] w (Makes (OTab 3 46) w (List.replicate p (List.replicate r 0))) := by
  have hmk := run_make_row' (P := Tryz.prog) 46 3 (.int .i64 0) 8 Tryz.underlying46 infoI rfl .i64 .i64 r (by omega) (by omega)
  go_enter Tryz.func69, Tryz.ntmps69
  go_wp2
  go_loopg [5, 6] p (fun g v i wr => ∃ (k : Nat), i = .int .i64 k ∧ k + g = p ∧ New (OTab 3 46) w.heap.size wr v (List.replicate k (List.replicate r 0)) ∧ Below w.heap.size w wr)
  case atStart => exact ⟨0, rfl, by omega, New.empty w (Nat.le_refl _), (Below.refl _ _).alloc (Nat.le_refl _) _⟩
  case round =>
    obtain ⟨k, rfl, hk, hnew, hbel⟩ := hrel
    by_cases hlt : k < p
    · have hle := hbel.size
      have Hn := Lib.hid hnew
      have Hb := Lib.hid hbel
      have Hr := Lib.hid (show New (OInts 3) wr.heap.size ((wr.alloc (.cells (madeCells #[.int .i64 0] r) 3)).alloc (.cells #[.slice (some ⟨wr.heap.size, 0, none⟩) r r] 46)) (.slice (some ⟨wr.heap.size, 0, none⟩) r r) (List.replicate r 0) from
        New.keep (OInts.kept _) (New.made 3 wr (.int .i64 0) 0 r (Nat.le_refl _) (by omega) OIntR.zero) ((Below.refl _ _).alloc (Nat.le_refl _) _) (Nat.le_refl _))
      clear hnew hbel
      go_wp2_with (at_builtin; refine wpl_push (w0 := wr) (lo := w.heap.size) (OInts.kept _) rfl (.tmp 13) (.tmp 16) 24 rfl 46 (.slice none 0 0) 24 Tryz.underlying24 infoR rfl Hn.out hle (((Below.refl _ _).alloc (Nat.le_refl _) _).alloc (by simp) _) Hr.out (bb := wr.heap.size + 1) (c := 1) (by simp) rfl rfl (by simp; omega) (by simp; omega) ?_; intro v1 w1 hn1 _ _ hb1)
      go_roundg (p - (k + 1))
      case measure => omega
      case rel => exact ⟨k + 1, by go_num, by omega, by rw [← replicate_snoc]; exact hn1, Hb.out.trans hb1⟩
    · have e : k = p := by omega
      subst e
      clear hmk
      go_wp2
      go_ret
      exact ⟨_, rfl, hnew, hbel⟩
set_option maxHeartbeats 400000 in
theorem copied_c {w : World} {v : Value} {m : List (List Int)} (h : Tab w v m) (hp : m.length ≤ 1048576) (hr : ∀ r, r ∈ m → r.length ≤ 1048576) :
    Calls Tryz.prog 59 #[v] w (Makes (OTab 3 46) w m) := by
  obtain ⟨a, c, rfl, _, _, hcell⟩ := h.shape
  have Hsr := Lib.hid hr
  clear h hr
  go_enter Tryz.func59, Tryz.ntmps59
  go_wp2
  go_loopg [3, 9] (m.length) (fun g x i wr => ∃ (k : Nat), i = .int .i64 k ∧ k + g = m.length ∧ New (OTab 3 46) w.heap.size wr x (m.take k) ∧ Below w.heap.size w wr)
  case atStart => exact ⟨0, rfl, by omega, New.empty w (Nat.le_refl _), (Below.refl _ _).alloc (Nat.le_refl _) _⟩
  case round =>
    obtain ⟨k, rfl, hk, hnew, hbel⟩ := hrel
    by_cases hlt : k < m.length
    · obtain ⟨b, o, rfl, hb, hx0⟩ := hcell (by omega)
      obtain ⟨r, hr, _⟩ := at_lt hlt
      obtain ⟨u, hu, hru⟩ := hx0 k r hr
      have hrl := Hsr.out r (List.mem_of_getElem? hr)
      have hle := hbel.size
      have hu1 : wr.cell? ⟨b, o + k, none⟩ = some u := (hbel.cell (p := ⟨b, o + k, none⟩) hb).trans hu
      have hbr : b < wr.heap.size := by omega
      have hku : (m.take k).length = k := by simp; omega
      have Hk := Lib.hid hku
      have Hn := Lib.hid hnew
      have Hb := Lib.hid hbel
      have Hx := Lib.hid hr
      have Hsrc := Lib.hid (show SlOf (ValR (Value.int .i64)) (wr.alloc (.cells #[] 3)) u r from Ints.frame _ _ _ _ (Ints.frame _ _ _ _ hru hbel) ((Below.refl _ _).alloc (Nat.le_refl _) _))
      obtain ⟨ra, rc, rfl, _, _, _⟩ := hru.shape
      clear hnew hbel hru hr hu hx0 hcell hku
      go_wp2_with (first
        | (at_builtin; refine wpl_append_vals (f := Value.int .i64) (fun _ => rfl) rfl (.tmp 14) (.tmp 15) 46 rfl 3 (.int .i64 0) 8 Tryz.underlying46 infoI rfl (New.empty (R := OValR (Value.int .i64)) (lo := wr.heap.size) wr (Nat.le_refl _)) (by simp) Hsrc.out rfl rfl (by simp; omega) (by simp; omega) ?_; intro v1 w1 hn1 _ _ hb1; obtain ⟨xa, xn, xc, rfl⟩ := hn1.slice; have Hn1 := Lib.hid hn1; have Hb1 := Lib.hid (((Below.refl wr.heap.size wr).alloc (Nat.le_refl _) _).trans hb1); clear hn1 hb1)
        | (at_builtin; refine wpl_push (w0 := wr) (lo := w.heap.size) (y := r) (OInts.kept _) rfl (.tmp 13) (.tmp 17) 24 rfl 46 (.slice none 0 0) 24 Tryz.underlying24 infoR rfl Hn.out hle (Hb1.out.alloc Hb1.out.size _) (New.keep (OInts.kept _) (B := w1.heap.size) Hn1.out ((Below.refl _ _).alloc (Nat.le_refl _) _) (Nat.le_refl _)) (bb := w1.heap.size) (c := 1) (by simp) rfl rfl (by rw [Hk.out]; omega) (by rw [Hk.out]; omega) ?_; intro v2 w2 hn2 _ _ hb2; have Hn2 := Lib.hid hn2; have Hb2 := Lib.hid hb2; clear hn2 hb2))
      go_roundg (m.length - (k + 1))
      case measure => omega
      case rel => exact ⟨k + 1, by go_num, by omega, by rw [← take_snoc' Hx.out]; exact Hn2.out, Hb.out.trans Hb2.out⟩
    · have e : m.take k = m := List.take_of_length_le (by omega)
      rw [e] at hnew
      clear hcell e
      go_wp2
      go_ret
      exact ⟨_, rfl, hnew, hbel⟩
set_option maxHeartbeats 400000 in
theorem l4Copy_c {w : World} {v : Value} {m : List (List Int)} (h : Tab w v m) (hp : m.length ≤ 1048576) (hr : ∀ r, r ∈ m → r.length ≤ 1048576) :
    Calls Tryz.prog 60 #[v] w (Makes (OTab 3 46) w m) := by
  obtain ⟨a, c, rfl, _, _, hcell⟩ := h.shape
  have Hsr := Lib.hid hr
  clear h hr
  go_enter Tryz.func60, Tryz.ntmps60
  go_wp2
  go_loopg [3, 4] (m.length) (fun g x i wr => ∃ (k : Nat), i = .int .i64 k ∧ k + g = m.length ∧ New (OTab 3 46) w.heap.size wr x (m.take k) ∧ Below w.heap.size w wr)
  case atStart => exact ⟨0, rfl, by omega, New.empty w (Nat.le_refl _), (Below.refl _ _).alloc (Nat.le_refl _) _⟩
  case round =>
    obtain ⟨k, rfl, hk, hnew, hbel⟩ := hrel
    by_cases hlt : k < m.length
    · obtain ⟨b, o, rfl, hb, hx0⟩ := hcell (by omega)
      obtain ⟨r, hr, _⟩ := at_lt hlt
      obtain ⟨u, hu, hru⟩ := hx0 k r hr
      have hrl := Hsr.out r (List.mem_of_getElem? hr)
      have hle := hbel.size
      have hu1 : wr.cell? ⟨b, o + k, none⟩ = some u := (hbel.cell (p := ⟨b, o + k, none⟩) hb).trans hu
      have hbr : b < wr.heap.size := by omega
      have hku : (m.take k).length = k := by simp; omega
      have Hk := Lib.hid hku
      have Hn := Lib.hid hnew
      have Hb := Lib.hid hbel
      have Hx := Lib.hid hr
      have Hsrc := Lib.hid (show SlOf (ValR (Value.int .i64)) (wr.alloc (.cells #[] 3)) u r from Ints.frame _ _ _ _ (Ints.frame _ _ _ _ hru hbel) ((Below.refl _ _).alloc (Nat.le_refl _) _))
      obtain ⟨ra, rc, rfl, _, _, _⟩ := hru.shape
      clear hnew hbel hru hr hu hx0 hcell hku
      go_wp2_with (first
        | (at_builtin; refine wpl_append_vals (f := Value.int .i64) (fun _ => rfl) rfl (.tmp 13) (.tmp 17) 46 rfl 3 (.int .i64 0) 8 Tryz.underlying46 infoI rfl (New.empty (R := OValR (Value.int .i64)) (lo := wr.heap.size) wr (Nat.le_refl _)) (by simp) Hsrc.out rfl rfl (by simp; omega) (by simp; omega) ?_; intro v1 w1 hn1 _ _ hb1; obtain ⟨xa, xn, xc, rfl⟩ := hn1.slice; have Hn1 := Lib.hid hn1; have Hb1 := Lib.hid (((Below.refl wr.heap.size wr).alloc (Nat.le_refl _) _).trans hb1); clear hn1 hb1)
        | (at_builtin; refine wpl_push (w0 := wr) (lo := w.heap.size) (y := r) (OInts.kept _) rfl (.tmp 12) (.tmp 19) 24 rfl 46 (.slice none 0 0) 24 Tryz.underlying24 infoR rfl Hn.out hle (Hb1.out.alloc Hb1.out.size _) (New.keep (OInts.kept _) (B := w1.heap.size) Hn1.out ((Below.refl _ _).alloc (Nat.le_refl _) _) (Nat.le_refl _)) (bb := w1.heap.size) (c := 1) (by simp) rfl rfl (by rw [Hk.out]; omega) (by rw [Hk.out]; omega) ?_; intro v2 w2 hn2 _ _ hb2; have Hn2 := Lib.hid hn2; have Hb2 := Lib.hid hb2; clear hn2 hb2))
      go_roundg (m.length - (k + 1))
      case measure => omega
      case rel => exact ⟨k + 1, by go_num, by omega, by rw [← take_snoc' Hx.out]; exact Hn2.out, Hb.out.trans Hb2.out⟩
    · have e : m.take k = m := List.take_of_length_le (by omega)
      rw [e] at hnew
      clear hcell e
      go_wp2
      go_ret
      exact ⟨_, rfl, hnew, hbel⟩
end Go.Proofs.YtlkgkfgpnnahdaaGreat
end

section
/-
  Products of tables, the program's and the reference's.
-/
namespace Go.Proofs.YtlkgkfgpnnahdaaGreat
open Go.RowKit Go.Deep Go.Sd

set_option maxHeartbeats 2000000 in
theorem times_c {w : World} {va vb : Value} {a b : List (List Int)} {p q r : Nat} (h1 : Tab w va a) (h2 : Tab w vb b) (hap : a.length = p) (har : ∀ x, x ∈ a → x.length = q) (hbp : b.length = q) (hbr : ∀ x, x ∈ b → x.length = r)
    (hp0 : 0 < p) (hq0 : 0 < q) (hr0 : 0 < r) (hp : p ≤ 9) (hq : q ≤ 9) (hr : r ≤ 9) (ba : Bd 1000000 a) (bb : Bd 1000000 b) :
    Calls Tryz.prog 112 #[va, vb] w (Makes (OTab 3 46) w (prodT a b p q r)) := by
  obtain ⟨ab, ao, ac, rfl, hab, hae⟩ := h1.entAt hap har hp0
  obtain ⟨bb', bo, bc, rfl, hbb, hbe⟩ := h2.entAt hbp hbr hq0
  have Hd := Lib.hid (fun i j (hi : i < p) (hj : j < r) => dotU_bd ba bb hap har hbp hbr hi hj)
  have Hm := Lib.hid (fun i j k (hi : i < p) (hj : j < r) (hk : k < q) => mul_bd (ba.ent har (by omega : i < a.length) hk) (bb.ent hbr (by omega : k < b.length) hj))
  have hmk := run_make_row' (P := Tryz.prog) 46 3 (.int .i64 0) 8 Tryz.underlying46 infoI rfl .i64 .i64 r (by omega) (by omega)
  clear h1 h2 hap har hbp hbr ba bb
  go_enter Tryz.func112, Tryz.ntmps112
  go_wp2
  go_loopg [5, 16] p (fun g v ii wr => ∃ (i : Nat), ii = .int .i64 i ∧ i + g = p ∧ New (OTab 3 46) w.heap.size wr v ((prodT a b p q r).take i) ∧ Below w.heap.size w wr)
  case atStart => exact ⟨0, rfl, by omega, New.empty w (Nat.le_refl _), (Below.refl _ _).alloc (Nat.le_refl _) _⟩
  case round =>
    obtain ⟨i, rfl, hi, hnew, hbel⟩ := hrel
    obtain ⟨wo, rfl⟩ : ∃ wo : World, wo = wr := ⟨_, rfl⟩
    by_cases hlt : i < p
    · have hle := hbel.size
      have hae1 := hae.frame hab hbel
      have hbe1 := hbe.frame hbb hbel
      obtain ⟨rb, ro, rc, hA1, hrb, _, hA2⟩ := hae1.at hlt hq0
      obtain ⟨zb, zo, zc, hB1, hzb, _, _⟩ := hbe1.at hq0 hr0
      have hab' : ab < wo.heap.size := by omega
      have hbb'' : bb' < wo.heap.size := by omega
      have hB1' : wo.cell? ⟨bb', bo, none⟩ = some (.slice (some ⟨zb, zo, none⟩) r zc) := hB1
      have Hn := Lib.hid hnew
      have Hb := Lib.hid hbel
      have hku : ((prodT a b p q r).take i).length = i := by unfold prodT; rw [List.length_take, tabOf_len]; omega
      have Hk := Lib.hid hku
      clear hnew hbel hae hbe hae1 hku hB1
      go_wp2
      go_loopg [27] q (fun g kk wi => ∃ (k : Nat), kk = .int .i64 k ∧ k + g = q ∧ New (OInts 3) wo.heap.size wi (.slice (some ⟨wo.heap.size, 0, none⟩) r r) (lineF a b i r k 0) ∧ Below wo.heap.size wo wi)
      case atStart => exact ⟨0, rfl, by omega, by rw [lineF_start]; exact New.made 3 wo (.int .i64 0) 0 r (Nat.le_refl _) (by omega) OIntR.zero, (Below.refl _ _).alloc (Nat.le_refl _) _⟩
      case round =>
        obtain ⟨k, rfl, hk, hnew, hbel⟩ := hrel
        obtain ⟨wi, rfl⟩ : ∃ wi : World, wi = wr := ⟨_, rfl⟩
        by_cases hlt2 : k < q
        · have hrule := hbel.rule
          have hA3 := hA2 k hlt2
          obtain ⟨sb, so, sc, hS1, hsb, _, hS2⟩ := hbe1.at hlt2 hr0
          have Hb2 := Lib.hid hbel
          have hi1 : (k : Int) < (q : Int) := by omega
          clear hA2 hbe1 hbel
          go_wp2
          go_loopg [37] r (fun g jj wj => ∃ (j : Nat), jj = .int .i64 j ∧ j + g = r ∧ New (OInts 3) wo.heap.size wj (.slice (some ⟨wo.heap.size, 0, none⟩) r r) (lineF a b i r k j) ∧ Below wo.heap.size wo wj)
          case atStart => exact ⟨0, rfl, by omega, hnew, Hb2.out⟩
          case round =>
            obtain ⟨j, rfl, hj, hnew3, hbel3⟩ := hrel
            clear hnew hrule
            by_cases hlt3 : j < r
            · have hrule := hbel3.rule
              have hS3 := hS2 j hlt3
              obtain ⟨b', c', hv, _, _, hlt', hcl, hfr, hst⟩ := hnew3.int_at (lineF_at hlt3)
              obtain rfl : b' = wo.heap.size := by simp at hv; exact hv.1.symm
              have Hst := Lib.hid (by have := hst (dotU a b i j (k + 1)); rw [lineF_set] at this; exact this)
              have hd1 := Hd.out i j hlt hlt3 k (by omega)
              have hm1 := Hm.out i j k hlt hlt3 hlt2
              have hd2 : dotU a b i j (k + 1) = dotU a b i j k + ent a i k * ent b k j := rfl
              obtain ⟨hd3, hd4⟩ := hd1
              obtain ⟨hm3, hm4⟩ := hm1
              have hk9 : (k : Int) ≤ 9 := by omega
              have Hb3 := Lib.hid (hbel3.setCell (p := ⟨wo.heap.size, j, none⟩) (Nat.le_refl _) (.int .i64 (dotU a b i j (k + 1))))
              rw [hd2] at Hst Hb3
              generalize dotU a b i j k = D at *
              generalize ent a i k = X at *
              generalize ent b k j = Y at *
              clear hv hst hnew3 hS2 hbel3 hd2
              go_wp2
              go_roundg (r - (j + 1))
              case measure => omega
              case rel => exact ⟨j + 1, by go_num, by omega, Hst.out, Hb3.out⟩
            · have e : j = r := by omega
              subst e
              rw [lineF_end] at hnew3
              go_wp2
              go_roundg (q - (k + 1))
              case measure => omega
              case rel => exact ⟨k + 1, by go_num, by omega, hnew3, hbel3⟩
        · have e : k = q := by omega
          subst e
          rw [lineF_full] at hnew
          have Hr := Lib.hid hnew
          have Hb2 := Lib.hid hbel
          have hle2 := hbel.size
          clear hnew hbel hA2 hbe1 hmk
          go_wp2_with (at_builtin; refine wpl_push (w0 := wo) (lo := w.heap.size) (OInts.kept _) rfl (.tmp 53) (.tmp 55) 24 rfl 46 (.slice none 0 0) 24 Tryz.underlying24 infoR rfl Hn.out hle (Hb2.out.alloc hle2 _) (New.keep (OInts.kept _) Hr.out ((Below.refl wi.heap.size _).alloc (Nat.le_refl _) _) (Nat.le_refl _)) (bb := wi.heap.size) (c := 1) (by simp) rfl rfl (by rw [Hk.out]; omega) (by rw [Hk.out]; omega) ?_; intro v1 w1 hn1 _ _ hb1)
          go_roundg (p - (i + 1))
          case measure => omega
          case rel => exact ⟨i + 1, by go_num, by omega, by unfold prodT at hn1 ⊢; rw [← tabOf_take hlt]; exact hn1, Hb.out.trans hb1⟩
    · have e : i = p := by omega
      subst e
      rw [show (prodT a b i q r).take i = prodT a b i q r from tabOf_full] at hnew
      clear hae hbe hmk
      go_wp2
      go_ret
      exact ⟨_, rfl, hnew, hbel⟩

set_option maxHeartbeats 2000000 in
set_option maxRecDepth 100000 in
theorem l4Times_c {w : World} {va vb : Value} {a b : List (List Int)} {p q r : Nat} (h1 : Tab w va a) (h2 : Tab w vb b) (hap : a.length = p) (har : ∀ x, x ∈ a → x.length = q) (hbp : b.length = q) (hbr : ∀ x, x ∈ b → x.length = r)
    (hp0 : 0 < p) (hq0 : 0 < q) (hr0 : 0 < r) (hp : p ≤ 9) (hq : q ≤ 9) (hr : r ≤ 9) (ba : Bd 1000000 a) (bb : Bd 1000000 b) :
    Calls Tryz.prog 40 #[va, vb, .int .i64 r] w (Makes (OTab 3 46) w (prodT a b p q r)) := by
  obtain ⟨ab, ao, ac, rfl, hab, hae⟩ := h1.entAt hap har hp0
  obtain ⟨bb', bo, bc, rfl, hbb, hbe⟩ := h2.entAt hbp hbr hq0
  have Hd := Lib.hid (fun i j (hi : i < p) (hj : j < r) => dotU_bd ba bb hap har hbp hbr hi hj)
  have Hm := Lib.hid (fun i j k (hi : i < p) (hj : j < r) (hk : k < q) => mul_bd (ba.ent har (by omega : i < a.length) hk) (bb.ent hbr (by omega : k < b.length) hj))
  have Hz := Lib.hid (l4Zero_c (w := w) (p := p) (r := r) (by omega) (by omega))
  clear h1 h2 hap har hbp hbr ba bb
  go_enter Tryz.func40, Tryz.ntmps40
  go_wp2_with fail
  refine Hz.out.mono ?_
  rintro e w1 ⟨v1, rfl, hn1, hb1⟩
  rw [← prodF_start a b p q r] at hn1
  obtain ⟨gb, gc, _, _, rfl, _, hgb, hgb2, _⟩ := hn1.tab_at (prodF_row hp0) (prodF_at hr0)
  rw [show (prodF a b p q r 0 0 0).length = p from tabOf_len _ _ _] at hn1 ⊢
  have Hn1 := Lib.hid hn1
  have Hb1 := Lib.hid hb1
  clear hn1 hb1 Hz
  go_wp2
  go_loopg [8] p (fun g ii wr => ∃ (i : Nat), ii = .int .i64 i ∧ i + g = p ∧ New (OTab 3 46) w.heap.size wr (.slice (some ⟨gb, 0, none⟩) p gc) (prodF a b p q r i 0 0) ∧ Below w.heap.size w wr)
  case atStart => exact ⟨0, rfl, by omega, Hn1.out, Hb1.out⟩
  case round =>
    obtain ⟨i, rfl, hi, hnew, hbel⟩ := hrel
    have Hn := Lib.hid hnew
    have Hb := Lib.hid hbel
    clear hnew hbel
    by_cases hlt : i < p
    · go_wp2
      go_loopg [9] r (fun g jj wr => ∃ (j : Nat), jj = .int .i64 j ∧ j + g = r ∧ New (OTab 3 46) w.heap.size wr (.slice (some ⟨gb, 0, none⟩) p gc) (prodF a b p q r i j 0) ∧ Below w.heap.size w wr)
      case atStart => exact ⟨0, rfl, by omega, Hn.out, Hb.out⟩
      case round =>
        clear Hn Hb
        obtain ⟨j, rfl, hj, hnew, hbel⟩ := hrel
        have Hn := Lib.hid hnew
        have Hb := Lib.hid hbel
        clear hnew hbel
        by_cases hlt2 : j < r
        · go_wp2
          go_loopg [10] q (fun g kk wr => ∃ (k : Nat), kk = .int .i64 k ∧ k + g = q ∧ New (OTab 3 46) w.heap.size wr (.slice (some ⟨gb, 0, none⟩) p gc) (prodF a b p q r i j k) ∧ Below w.heap.size w wr)
          case atStart => exact ⟨0, rfl, by omega, Hn.out, Hb.out⟩
          case round =>
            clear Hn Hb
            obtain ⟨k, rfl, hk, hnew, hbel⟩ := hrel
            by_cases hlt3 : k < q
            · obtain ⟨rb, ro, rc, hA1, hrb, _, hA2⟩ := hae.at hlt hq0
              obtain ⟨zb, zo, zc, hB1, hzb, _, hB2⟩ := hbe.at hlt3 hr0
              have hA3 := hA2 k hlt3
              have hB3 := hB2 j hlt2
              obtain ⟨b', c', sb, sc, hv, _, _, _, hcl1, _, hsb, _, hcl2, hfr, hst⟩ := hnew.tab_at (prodF_row hlt) (prodF_at hlt2)
              obtain rfl : b' = gb := by simp at hv; exact hv.1.symm
              rw [rowOf_len] at hcl1
              have Hst := Lib.hid (by have := hst (dotU a b i j (k + 1)); rw [prodF_set] at this; exact this)
              have hd1 := Hd.out i j hlt hlt2 k (by omega)
              have hm1 := Hm.out i j k hlt hlt2 hlt3
              have hd2 : dotU a b i j (k + 1) = dotU a b i j k + ent a i k * ent b k j := rfl
              obtain ⟨hd3, hd4⟩ := hd1
              obtain ⟨hm3, hm4⟩ := hm1
              have hk9 : (k : Int) ≤ 9 := by omega
              have Hb3 := Lib.hid (hbel.setCell (p := ⟨sb, j, none⟩) hsb (.int .i64 (dotU a b i j (k + 1))))
              have hrule := hbel.rule
              rw [hd2] at Hst Hb3
              have hi1 : (i : Int) < (p : Int) := by omega
              have hi2 : (j : Int) < (r : Int) := by omega
              have hi3 : (k : Int) < (q : Int) := by omega
              generalize dotU a b i j k = D at *
              generalize ent a i k = X at *
              generalize ent b k j = Y at *
              clear hv hst hnew hA2 hB2 hbel hd2
              go_wp2
              go_still_tail 29, (by kernel_rfl)
              go_wp2
              go_roundg (q - (k + 1))
              case measure => omega
              case rel => exact ⟨k + 1, by go_num, by omega, New.heap (OTab.kept _ _) Hst.out rfl, Hb3.out.drew⟩
            · have e : k = q := by omega
              subst e
              rw [prodF_nextj] at hnew
              go_wp2
              go_roundg (r - (j + 1))
              case measure => omega
              case rel => exact ⟨j + 1, by go_num, by omega, hnew, hbel⟩
        · have e : j = r := by omega
          subst e
          have Hn2 := Hn.out
          rw [prodF_nexti] at Hn2
          have Hn3 := Lib.hid Hn2
          clear Hn2
          go_wp2
          go_roundg (p - (i + 1))
          case measure => omega
          case rel => exact ⟨i + 1, by go_num, by omega, Hn3.out, Hb.out⟩
    · have e : i = p := by omega
      subst e
      have Hn2 := Hn.out
      rw [prodF_end] at Hn2
      have Hn3 := Lib.hid Hn2
      clear Hn2
      go_wp2
      go_ret
      exact ⟨_, rfl, Hn3.out, Hb.out⟩
end Go.Proofs.YtlkgkfgpnnahdaaGreat
end

section
/-
  Products, powers and traces of matrices, the program's and the reference's.
-/
namespace Go.Proofs.YtlkgkfgpnnahdaaGreat
open Go.RowKit Go.Deep Go.Sd

def mulOk (a b : List (List Int)) : Bool := isMat a && isMat b && decide (a.length = b.length) && isMat (prodT a b a.length a.length a.length)
def mulV (a b : List (List Int)) : List (List Int) := if mulOk a b = true then prodT a b a.length a.length a.length else []
def unitF (n k : Nat) : List (List Int) := tabOf n n (fun i j => if i = j ∧ i < k then 1 else 0)
def unitT (n : Nat) : List (List Int) := unitF n n
/-- What is left of a power: k factors. -/
def powR (m : List (List Int)) : Nat → List (List Int) → List (List Int) × Bool
  | 0, o => (o, true)
  | k + 1, o => if mulOk o m = true then powR m k (mulV o m) else ([], false)
def pwOk (m : List (List Int)) (n : Int) : Bool := isMat m && decide (0 ≤ n ∧ n ≤ 30) && (powR m n.toNat (unitT m.length)).2
def pwV (m : List (List Int)) (n : Int) : List (List Int) := if pwOk m n = true then (powR m n.toNat (unitT m.length)).1 else []
/-- The first k numbers of the diagonal, added up. -/
def trF (m : List (List Int)) : Nat → Int
  | 0 => 0
  | k + 1 => trF m k + ent m k k
def closedM (m : List (List Int)) (n : Int) : Int := if 1 ≤ n ∧ pwOk m n = true then trF (pwV m n) (pwV m n).length else -1

theorem isMat_bd {m : List (List Int)} (h : isMat m = true) : ∀ r, r ∈ m → ∀ x, x ∈ r → 0 ≤ x ∧ x ≤ 1000000 := by
  unfold isMat at h
  simp only [Bool.and_eq_true, decide_eq_true_eq, List.all_eq_true] at h
  intro r hr x hx
  have := h.2 r hr
  unfold rowOk at this
  simp at this
  have := this.2 x hx
  unfold entOk at this
  simpa using this
theorem isMat_Bd {m : List (List Int)} (h : isMat m = true) : Bd 1000000 m := fun r hr x hx => by have := isMat_bd h r hr x hx; omega
theorem isMat_mk {n : Nat} {f : Nat → Nat → Int} (h1 : 1 ≤ n) (h2 : n ≤ 9) (h : ∀ i, i < n → ∀ j, j < n → 0 ≤ f i j ∧ f i j ≤ 1000000) : isMat (tabOf n n f) = true := by
  unfold isMat
  simp only [Bool.and_eq_true, decide_eq_true_eq, List.all_eq_true, tabOf_len]
  refine ⟨⟨h1, h2⟩, fun r hr => ?_⟩
  obtain ⟨i, hi, rfl⟩ := List.mem_map.1 hr
  unfold rowOk
  simp only [rowOf_len, Bool.and_eq_true, decide_eq_true_eq, List.all_eq_true, true_and]
  intro x hx
  obtain ⟨j, hj, rfl⟩ := List.mem_map.1 hx
  unfold entOk
  simp
  exact h i (List.mem_range.1 hi) j (List.mem_range.1 hj)
theorem unit_isMat {n : Nat} (h1 : 1 ≤ n) (h2 : n ≤ 9) : isMat (unitT n) = true := isMat_mk h1 h2 fun i _ j _ => by split <;> omega
theorem mulV_isMat {a b : List (List Int)} (h : mulOk a b = true) : isMat (mulV a b) = true ∧ (mulV a b).length = a.length := by
  have e : mulV a b = prodT a b a.length a.length a.length := by unfold mulV; rw [if_pos h]
  rw [e]
  unfold mulOk at h
  simp only [Bool.and_eq_true] at h
  exact ⟨h.2, tabOf_len _ _ _⟩
theorem powR_isMat {m : List (List Int)} : ∀ (k : Nat) (o : List (List Int)), isMat o = true → (powR m k o).2 = true → isMat (powR m k o).1 = true := by
  intro k
  induction k with
  | zero => intro o h _; exact h
  | succ k ih =>
    intro o h h2
    unfold powR at h2 ⊢
    by_cases hm : mulOk o m = true
    · rw [if_pos hm] at h2 ⊢
      exact ih _ (mulV_isMat hm).1 h2
    · rw [if_neg hm] at h2; cases h2
theorem pwV_isMat {m : List (List Int)} {n : Int} (h : pwOk m n = true) : isMat (pwV m n) = true := by
  have e : pwV m n = (powR m n.toNat (unitT m.length)).1 := by unfold pwV; rw [if_pos h]
  rw [e]
  unfold pwOk at h
  simp only [Bool.and_eq_true] at h
  have := isMat_sq h.1.1
  exact powR_isMat _ _ (unit_isMat this.2.1 this.2.2) h.2
theorem trF_bd {m : List (List Int)} (h : isMat m = true) : ∀ k, k ≤ m.length → 0 ≤ trF m k ∧ trF m k ≤ k * 1000000 := by
  intro k
  induction k with
  | zero => intro _; simp [trF]
  | succ k ih =>
    intro hk
    have h1 := ih (by omega)
    obtain ⟨r, hr, hx⟩ := ent_mem (isMat_sq h).1.2 (show k < m.length by omega) (show k < m.length by omega)
    have := isMat_bd h r hr _ hx
    unfold trF
    omega
theorem unitF_start (n : Nat) : unitF n 0 = List.replicate n (List.replicate n 0) := by
  rw [← tabOf_const]; exact tabOf_congr fun i _ j _ => by simp
theorem unitF_set {n k : Nat} : (unitF n k).set k ((rowOf' n (fun j => if k = j ∧ k < k then 1 else 0)).set k 1) = unitF n (k + 1) := by
  unfold unitF
  rw [tabOf_set2 n n (fun i j => if i = j ∧ i < k then 1 else 0) k k 1]
  refine tabOf_congr fun i _ j _ => ?_
  by_cases h : i = k ∧ j = k
  · obtain ⟨rfl, rfl⟩ := h; simp
  · rw [if_neg h]
    by_cases h2 : i = j ∧ i < k
    · rw [if_pos h2, if_pos (by omega)]
    · rw [if_neg h2, if_neg (by omega)]

theorem checked_yes {w : World} {v : Value} {m : List (List Int)} (h : Tab w v m) (hm : isMat m = true) :
    Calls Tryz.prog 87 #[v] w fun e w' => e = .returned (.tuple #[v, .bool true]) ∧ w = w' := by
  have Hc := Lib.hid (impl_IsMatrix_c h)
  rw [hm] at Hc
  obtain ⟨a, c, rfl, _, _, _⟩ := h.shape
  clear h hm
  go_enter Tryz.func87, Tryz.ntmps87
  go_wp2_with fail
  refine Hc.out.mono ?_
  rintro e w' ⟨rfl, rfl⟩
  go_wp2
  go_ret2
  exact ⟨rfl, rfl⟩
theorem checked_no {w : World} {v : Value} {m : List (List Int)} (h : Tab w v m) (hm : isMat m = false) :
    Calls Tryz.prog 87 #[v] w fun e w' => e = .returned (.tuple #[.slice none 0 0, .bool false]) ∧ w = w' := by
  have Hc := Lib.hid (impl_IsMatrix_c h)
  rw [hm] at Hc
  obtain ⟨a, c, rfl, _, _, _⟩ := h.shape
  clear h hm
  go_enter Tryz.func87, Tryz.ntmps87
  go_wp2_with fail
  refine Hc.out.mono ?_
  rintro e w' ⟨rfl, rfl⟩
  go_wp2
  go_ret2
  exact ⟨rfl, rfl⟩




set_option maxHeartbeats 400000 in
theorem l4One_c {w : World} {n : Nat} (hn0 : 0 < n) (hn : n ≤ 9) : Calls Tryz.prog 32 #[.int .i64 n] w (Makes (OTab 3 46) w (unitT n)) := by
  have Hz := Lib.hid (l4Zero_c (w := w) (p := n) (r := n) (by omega) (by omega))
  go_enter Tryz.func32, Tryz.ntmps32
  go_wp2_with fail
  refine Hz.out.mono ?_
  rintro e w1 ⟨v1, rfl, hn1, hb1⟩
  obtain ⟨gb, gc, _, _, rfl, _, hgb, hgb2, _⟩ := hn1.tab_at (i := 0) (j := 0) ((Sq.zeros n).row hn0).1 ((Sq.zeros n).entry hn0 hn0)
  rw [(Sq.zeros n).1] at hn1 ⊢
  rw [← unitF_start] at hn1
  have Hn1 := Lib.hid hn1
  have Hb1 := Lib.hid hb1
  clear hn1 hb1 Hz
  go_wp2
  go_loopg [4] n (fun g ii wr => ∃ (k : Nat), ii = .int .i64 k ∧ k + g = n ∧ New (OTab 3 46) w.heap.size wr (.slice (some ⟨gb, 0, none⟩) n gc) (unitF n k) ∧ Below w.heap.size w wr)
  case atStart => exact ⟨0, rfl, by omega, Hn1.out, Hb1.out⟩
  case round =>
    obtain ⟨k, rfl, hk, hnew, hbel⟩ := hrel
    by_cases hlt : k < n
    · obtain ⟨b', c', sb, sc, hv, _, _, _, hcl1, _, hsb, _, hcl2, hfr, hst⟩ := hnew.tab_at (tabOf_at hlt) (rowOf_at hlt)
      obtain rfl : b' = gb := by simp at hv; exact hv.1.symm
      rw [rowOf_len] at hcl1
      have Hst := Lib.hid (by have := hst 1; rw [unitF_set] at this; exact this)
      have Hb3 := Lib.hid (hbel.setCell (p := ⟨sb, k, none⟩) hsb (.int .i64 1))
      simp at hcl2
      clear hv hst hnew hbel
      go_wp2
      go_roundg (n - (k + 1))
      case measure => omega
      case rel => exact ⟨k + 1, by go_num, by omega, Hst.out, Hb3.out⟩
    · have e : k = n := by omega
      subst e
      go_wp2
      go_ret
      exact ⟨_, rfl, hnew, hbel⟩







end Go.Proofs.YtlkgkfgpnnahdaaGreat
end

section
/-
  JoinOut, the program's: two vertices joined to which the same arcs lead.
-/
namespace Go.Proofs.YtlkgkfgpnnahdaaGreat
open Go.RowKit Go.Deep Go.Sd

def skip (j k : Nat) : Nat := if k < j then k else k + 1
def cnt (j k : Nat) : Nat := if k ≤ j then k else k - 1
theorem skip_cnt {j k : Nat} (h : k ≠ j) : skip j (cnt j k) = k := by unfold skip cnt; split <;> split <;> omega
theorem cnt_same (j : Nat) : cnt j (j + 1) = cnt j j := by unfold cnt; split <;> split <;> omega
theorem cnt_next {j k : Nat} (h : k ≠ j) : cnt j (k + 1) = cnt j k + 1 := by unfold cnt; split <;> split <;> omega
theorem cnt_lt {j k n : Nat} (h : k ≠ j) (hj : j < n) (hk : k < n) : cnt j k < n - 1 := by unfold cnt; split <;> omega
theorem cnt_full {j n : Nat} (hj : j < n) : cnt j n = n - 1 := by unfold cnt; split <;> omega
theorem cnt_le (j k : Nat) : cnt j k ≤ k := by unfold cnt; split <;> omega
theorem cnt_zero (j : Nat) : cnt j 0 = 0 := by unfold cnt; split <;> omega
theorem skip_lt {j k n : Nat} (hk : k < n - 1) : skip j k < n := by unfold skip; split <;> omega

def joinE (m : List (List Int)) (i j k l : Nat) : Int := if k = i then ent m k l + ent m j l else ent m k l
def joinT (m : List (List Int)) (i j n : Nat) : List (List Int) := tabOf (n - 1) (n - 1) (fun k l => joinE m i j (skip j k) (skip j l))
def colsEq (m : List (List Int)) (i j n : Nat) : Bool := allF (fun k => decide (ent m k i = ent m k j)) n 0
def joinOk (m : List (List Int)) (i j : Int) : Bool :=
  isMat m && decide (0 ≤ i ∧ i < j ∧ j < m.length) && colsEq m i.toNat j.toNat m.length && isMat (joinT m i.toNat j.toNat m.length)
def joinV (m : List (List Int)) (i j : Int) : List (List Int) := if joinOk m i j = true then joinT m i.toNat j.toNat m.length else []

theorem joinE_bd {m : List (List Int)} (h : isMat m = true) {j k l : Nat} (hk : k < m.length) (hj : j < m.length) (hl : l < m.length) :
    0 ≤ ent m k l ∧ ent m k l ≤ 1000000 ∧ 0 ≤ ent m j l ∧ ent m j l ≤ 1000000 := by
  obtain ⟨r, hr, hx⟩ := ent_mem (isMat_sq h).1.2 hk hl
  obtain ⟨r2, hr2, hx2⟩ := ent_mem (isMat_sq h).1.2 hj hl
  have h1 := isMat_bd h r hr _ hx
  have h2 := isMat_bd h r2 hr2 _ hx2
  omega

set_option maxHeartbeats 2000000 in
set_option maxRecDepth 100000 in
theorem impl_JoinOut_c {w : World} {va : Value} {m : List (List Int)} {i j : Int} (h1 : Tab w va m) :
    Calls Tryz.prog 49 #[va, .int .i64 i, .int .i64 j] w (Makes2 (OTab 3 46) w (joinV m i j) (joinOk m i j)) := by
  have hsa := h1.shape
  obtain ⟨aa, ac, rfl, _, _, _⟩ := hsa
  have Hc := Lib.hid (impl_IsMatrix_c h1)
  cases hm : isMat m with
  | false =>
    have HK := Lib.hid (show joinOk m i j = false from by unfold joinOk; rw [hm]; rfl)
    have HV := Lib.hid (show joinV m i j = [] from by unfold joinV; rw [HK.out]; rfl)
    rw [hm] at Hc
    rw [HK.out]
    clear h1 hm
    go_enter Tryz.func49, Tryz.ntmps49
    go_wp2_with fail
    refine Hc.out.mono ?_
    rintro e w' ⟨rfl, rfl⟩
    go_wp2
    go_ret2
    exact ⟨_, rfl, by rw [HV.out]; exact New.nil _ _, Below.refl _ _⟩
  | true =>
    rw [hm] at Hc
    have sm := isMat_sq hm
    by_cases hij : 0 ≤ i ∧ i < j ∧ j < m.length
    · obtain ⟨I, rfl⟩ : ∃ I : Nat, i = (I : Int) := ⟨i.toNat, by omega⟩
      obtain ⟨J, rfl⟩ : ∃ J : Nat, j = (J : Int) := ⟨j.toNat, by omega⟩
      have HO := Lib.hid (show joinOk m I J = (colsEq m I J m.length && isMat (joinT m I J m.length)) from by unfold joinOk; rw [hm]; simp [hij])
      have HV := Lib.hid (show joinV m I J = if joinOk m I J = true then joinT m I J m.length else [] from rfl)
      generalize joinOk m I J = ok at HO HV ⊢
      generalize joinV m I J = rv at HV ⊢
      have Hbd := Lib.hid (fun k l (hk : k < m.length) (hl : l < m.length) => joinE_bd (j := J) hm hk (by omega) hl)
      clear hm
      generalize hn : m.length = n at *
      have hIJ : I < J := by omega
      have hJn : J < n := by omega
      have hn0 : 0 < n := by omega
      have hn9 : n ≤ 9 := sm.2.2
      have dI : decide ((I : Int) < 0) = false := by simp
      have dJ : decide (J ≤ I) = false := by simp; omega
      have dn : decide (n ≤ J) = false := by simp; omega
      obtain ⟨ab, ao, ac', hv1, hab, hae⟩ := h1.entAt hn sm.1.2 hn0
      obtain ⟨rfl, rfl⟩ : aa = some ⟨ab, ao, none⟩ ∧ ac = ac' := by simp at hv1; exact hv1
      clear h1 sm hij hv1 hn
      go_enter Tryz.func49, Tryz.ntmps49
      go_wp2_with fail
      refine Hc.out.mono ?_
      rintro e w' ⟨rfl, rfl⟩
      go_wp2
      go_loopg [36] n (fun g ii wr => ∃ (k : Nat), ii = .int .i64 k ∧ k + g = n ∧ Hid (colsEq m I J n = allF (fun k => decide (ent m k I = ent m k J)) g k) ∧ Drawn w wr)
      case atStart => exact ⟨0, rfl, by omega, Lib.hid rfl, Drawn.refl _⟩
      case round =>
        obtain ⟨k, rfl, hk, H, hdr⟩ := hrel
        obtain ⟨g, hg⟩ : ∃ g, g = gk := ⟨_, rfl⟩
        rw [← hg] at H hk
        by_cases hlt : k < n
        · obtain ⟨g', rfl⟩ : ∃ t, g = t + 1 := ⟨g - 1, by omega⟩
          have H1 := Lib.hid (show colsEq m I J n = if decide (ent m k I = ent m k J) = true then allF (fun k => decide (ent m k I = ent m k J)) g' (k + 1) else false from H.out)
          obtain ⟨rb, ro, rc, hA1, hrb, _, hA2⟩ := hae.at hlt hn0
          have hA3 := hA2 I (by omega)
          have hA4 := hA2 J (by omega)
          have hrule := hdr.cell
          have hi1 : (I : Int) < (n : Int) := by omega
          have hi2 : (J : Int) < (n : Int) := by omega
          clear H hA2 hae
          by_cases he : ent m k I = ent m k J
          · have H2 := Lib.hid (show colsEq m I J n = allF (fun k => decide (ent m k I = ent m k J)) g' (k + 1) from by rw [H1.out]; simp [he])
            have t1 : (ent m k I != ent m k J) = false := by simp [he]
            clear he H1
            go_wp2
            go_quiet (fail)
            go_wp2
            go_roundg g'
            case measure => omega
            case rel => exact ⟨k + 1, by go_num, by omega, H2, hdr.drewN _⟩
          · have HK := Lib.hid (show ok = false from by rw [HO.out, H1.out]; simp [he])
            have HV2 := Lib.hid (show rv = [] from by rw [HV.out, HK.out]; rfl)
            have t1 : (ent m k I != ent m k J) = true := by simp [he]
            clear he H1
            go_wp2
            go_quiet (fail)
            go_wp2
            go_ret2
            exact ⟨_, by rw [HK.out]; rfl, by rw [HV2.out]; exact New.nil _ _, (hdr.drewN _).below _⟩
        · have e : g = 0 := by omega
          subst e
          have HC := Lib.hid (show colsEq m I J n = true from H.out)
          have e2 : n = k := by omega
          subst e2
          clear hk
          obtain ⟨wa, rfl⟩ : ∃ wa : World, wa = wr := ⟨_, rfl⟩
          have hba : Below w.heap.size w wa := hdr.below _
          have hza : w.heap.size = wa.heap.size := by rw [hdr.heap]
          have hae1 := hae.frame hab hba
          have hab1 : ab < wa.heap.size := by omega
          have Hba := Lib.hid hba
          have Hza := Lib.hid hza
          clear H hdr hae hba hza hg
          go_wp2
          go_loopg [10, 53] n (fun g v ii wr => ∃ (k : Nat), ii = .int .i64 k ∧ k + g = n ∧ New (OTab 3 46) wa.heap.size wr v ((joinT m I J n).take (cnt J k)) ∧ Below wa.heap.size wa wr)
          case atStart => exact ⟨0, rfl, by omega, by rw [cnt_zero]; exact New.empty wa (Nat.le_refl _), (Below.refl _ _).alloc (Nat.le_refl _) _⟩
          case round =>
            obtain ⟨k, rfl, hk, hnew, hbel⟩ := hrel
            obtain ⟨wo, rfl⟩ : ∃ wo : World, wo = wr := ⟨_, rfl⟩
            have hle := hbel.size
            have hrule := hbel.rule
            have Hn := Lib.hid hnew
            have Hb := Lib.hid hbel
            have hlk : ((joinT m I J n).take (cnt J k)).length ≤ n := by have := cnt_le J k; rw [List.length_take]; omega
            have Hlk := Lib.hid hlk
            clear hnew hbel hlk
            by_cases hlt : k < n
            · obtain ⟨rb, ro, rc, hA1, hrb, _, hA2⟩ := hae1.at hlt hn0
              by_cases hkJ : k = J
              · have Hs := Lib.hid (cnt_same J)
                have t1 : ((k : Int) == (J : Int)) = true := by simp [hkJ]
                have HkJ := Lib.hid hkJ
                clear hkJ hA2 hae1
                go_wp2
                go_roundg (n - (k + 1))
                case measure => omega
                case rel => exact ⟨k + 1, by go_num, by omega, by have e := HkJ.out; have h := Hn.out; rw [e] at h ⊢; rw [Hs.out]; exact h, Hb.out⟩
              · have t1 : ((k : Int) == (J : Int)) = false := by simp; omega
                have HkJ := Lib.hid hkJ
                obtain ⟨sb, so, sc, hJ1, hsb, _, hJ2⟩ := hae1.at hJn hn0
                clear hkJ hae1
                go_wp2
                clear hrule
                go_loopg [13, 64] n (fun g lv ll wr => ∃ (l : Nat), ll = .int .i64 l ∧ l + g = n ∧ New (OInts 3) wo.heap.size wr lv ((rowOf' (n - 1) (fun l' => joinE m I J k (skip J l'))).take (cnt J l)) ∧ Below wo.heap.size wo wr)
                case atStart => exact ⟨0, rfl, by omega, by rw [cnt_zero]; exact New.empty wo (Nat.le_refl _), (Below.refl _ _).alloc (Nat.le_refl _) _⟩
                case round =>
                  obtain ⟨l, rfl, hl, hnew, hbel⟩ := hrel
                  obtain ⟨wi, rfl⟩ : ∃ wi : World, wi = wr := ⟨_, rfl⟩
                  have hle2 := hbel.size
                  have hrule2 : ∀ b o, b < wa.heap.size → wi.cell? ⟨b, o, none⟩ = wa.cell? ⟨b, o, none⟩ := fun b o hb => (hbel.rule b o (by omega)).trans (Hb.out.rule b o hb)
                  have Hn2 := Lib.hid hnew
                  have Hb2 := Lib.hid hbel
                  have Hll := Lib.hid (show ((rowOf' (n - 1) (fun l' => joinE m I J k (skip J l'))).take (cnt J l)).length ≤ n from by have := cnt_le J l; rw [List.length_take]; omega)
                  clear hnew hbel
                  by_cases hlt2 : l < n
                  · have hA3 := hA2 l hlt2
                    have hJ3 := hJ2 l hlt2
                    obtain ⟨hd1, hd2, hd3, hd4⟩ := Hbd.out k l hlt hlt2
                    by_cases hlJ : l = J
                    · have Hs := Lib.hid (cnt_same J)
                      have t2 : ((l : Int) == (J : Int)) = true := by simp [hlJ]
                      have HlJ := Lib.hid hlJ
                      clear hlJ hA2 hJ2
                      go_wp2
                      go_roundg (n - (l + 1))
                      case measure => omega
                      case rel => exact ⟨l + 1, by go_num, by omega, by have e := HlJ.out; have h := Hn2.out; rw [e] at h ⊢; rw [Hs.out]; exact h, Hb2.out⟩
                    · have t2 : ((l : Int) == (J : Int)) = false := by simp; omega
                      have hat : (rowOf' (n - 1) (fun l' => joinE m I J k (skip J l')))[cnt J l]? = some (joinE m I J k l) := by rw [rowOf_at (cnt_lt hlJ hJn hlt2), skip_cnt hlJ]
                      have Hs := Lib.hid (show _ = _ from take_snoc' hat)
                      rw [← cnt_next hlJ] at Hs
                      by_cases hkI : k = I
                      · have t3 : ((k : Int) == (I : Int)) = true := by simp [hkI]
                        have He := Lib.hid (show joinE m I J k l = ent m k l + ent m J l from by unfold joinE; rw [if_pos hkI])
                        generalize ent m k l = X at *
                        generalize ent m J l = Y at *
                        rw [He.out] at Hs
                        clear hlJ hat hA2 hJ2 hkI
                        go_wp2_with (at_builtin; refine wpl_push (w0 := wi) (lo := wo.heap.size) (y := X + Y) OIntR.kept rfl (.tmp 81) (.tmp 91) 46 rfl 3 (.int .i64 0) 8 Tryz.underlying46 infoI rfl Hn2.out hle2 ((Below.refl _ _).alloc (Nat.le_refl _) _) ⟨[], ⟨rfl, rfl⟩, by simp [Fresh]⟩ (bb := wi.heap.size) (c := 1) (by simp) rfl rfl (by have := Hll.out; omega) (by have := Hll.out; omega) ?_; intro v1 w1 hn1 _ _ hb1)
                        go_roundg (n - (l + 1))
                        case measure => omega
                        case rel => exact ⟨l + 1, by go_num, by omega, by rw [← Hs.out]; exact hn1, Hb2.out.trans hb1⟩
                      · have t3 : ((k : Int) == (I : Int)) = false := by simp; omega
                        have He := Lib.hid (show joinE m I J k l = ent m k l from by unfold joinE; rw [if_neg hkI])
                        generalize ent m k l = X at *
                        rw [He.out] at Hs
                        clear hlJ hat hA2 hJ2 hkI
                        go_wp2_with (at_builtin; refine wpl_push (w0 := wi) (lo := wo.heap.size) (y := X) OIntR.kept rfl (.tmp 69) (.tmp 71) 46 rfl 3 (.int .i64 0) 8 Tryz.underlying46 infoI rfl Hn2.out hle2 ((Below.refl _ _).alloc (Nat.le_refl _) _) ⟨[], ⟨rfl, rfl⟩, by simp [Fresh]⟩ (bb := wi.heap.size) (c := 1) (by simp) rfl rfl (by have := Hll.out; omega) (by have := Hll.out; omega) ?_; intro v1 w1 hn1 _ _ hb1)
                        go_roundg (n - (l + 1))
                        case measure => omega
                        case rel => exact ⟨l + 1, by go_num, by omega, by rw [← Hs.out]; exact hn1, Hb2.out.trans hb1⟩
                  · have e : l = n := by omega
                    subst e
                    have hr := Hn2.out
                    rw [cnt_full hJn, rowOf_full] at hr
                    obtain ⟨xa, xn, xc, rfl⟩ := hr.slice
                    have Hr := Lib.hid hr
                    have hat : (joinT m I J l)[cnt J k]? = some (rowOf' (l - 1) (fun l' => joinE m I J k (skip J l'))) := by unfold joinT; rw [tabOf_at (cnt_lt HkJ.out hJn hlt), skip_cnt HkJ.out]
                    have Hs := Lib.hid (show _ = _ from take_snoc' hat)
                    rw [← cnt_next HkJ.out] at Hs
                    clear hr hat hA2 hJ2
                    go_wp2_with (at_builtin; refine wpl_push (w0 := wo) (lo := wa.heap.size) (OInts.kept _) rfl (.tmp 94) (.tmp 96) 24 rfl 46 (.slice none 0 0) 24 Tryz.underlying24 infoR rfl Hn.out hle (Hb2.out.alloc hle2 _) (New.keep (OInts.kept _) Hr.out ((Below.refl wi.heap.size _).alloc (Nat.le_refl _) _) (Nat.le_refl _)) (bb := wi.heap.size) (c := 1) (by simp) rfl rfl (by have := Hlk.out; omega) (by have := Hlk.out; omega) ?_; intro v1 w1 hn1 _ _ hb1)
                    go_roundg (l - (k + 1))
                    case measure => omega
                    case rel => exact ⟨k + 1, by go_num, by omega, by rw [← Hs.out]; exact hn1, Hb.out.trans hb1⟩
            · have e : k = n := by omega
              subst e
              have hr := Hn.out
              rw [cnt_full hJn, show (joinT m I J k).take (k - 1) = joinT m I J k from tabOf_full] at hr
              have Hr := Lib.hid hr
              clear hr hae1 hrule
              cases hp : isMat (joinT m I J k) with
              | false =>
                have HK := Lib.hid (show ok = false from by rw [HO.out, hp]; simp)
                have HV2 := Lib.hid (show rv = [] from by rw [HV.out, HK.out]; rfl)
                have Hch := Lib.hid (checked_no Hr.out.tab hp)
                clear hp
                go_wp2_with fail
                refine Hch.out.mono ?_
                rintro e w' ⟨rfl, rfl⟩
                go_wp2
                go_ret2
                exact ⟨_, by rw [HK.out]; rfl, by rw [HV2.out]; exact New.nil _ _, Hba.out.trans (Hb.out.mono (by have := Hza.out; omega))⟩
              | true =>
                have HK := Lib.hid (show ok = true from by rw [HO.out, hp, HC.out]; rfl)
                have HV2 := Lib.hid (show rv = joinT m I J k from by rw [HV.out, HK.out]; rfl)
                have Hch := Lib.hid (checked_yes Hr.out.tab hp)
                clear hp
                go_wp2_with fail
                refine Hch.out.mono ?_
                rintro e w' ⟨rfl, rfl⟩
                go_wp2
                go_ret2
                exact ⟨_, by rw [HK.out]; rfl, by rw [HV2.out]; exact Hr.out.mono (by have := Hza.out; omega), Hba.out.trans (Hb.out.mono (by have := Hza.out; omega))⟩
    · have HK := Lib.hid (show joinOk m i j = false from by unfold joinOk; simp [hij])
      have HV := Lib.hid (show joinV m i j = [] from by unfold joinV; rw [HK.out]; rfl)
      rw [HK.out]
      clear h1 hm sm
      by_cases h0 : i < 0
      · clear hij
        go_enter Tryz.func49, Tryz.ntmps49
        go_wp2_with fail
        refine Hc.out.mono ?_
        rintro e w' ⟨rfl, rfl⟩
        go_wp2
        go_ret2
        exact ⟨_, rfl, by rw [HV.out]; exact New.nil _ _, Below.refl _ _⟩
      by_cases h1 : j ≤ i
      · clear hij
        go_enter Tryz.func49, Tryz.ntmps49
        go_wp2_with fail
        refine Hc.out.mono ?_
        rintro e w' ⟨rfl, rfl⟩
        go_wp2
        go_ret2
        exact ⟨_, rfl, by rw [HV.out]; exact New.nil _ _, Below.refl _ _⟩
      have h2 : (m.length : Int) ≤ j := by omega
      clear hij
      go_enter Tryz.func49, Tryz.ntmps49
      go_wp2_with fail
      refine Hc.out.mono ?_
      rintro e w' ⟨rfl, rfl⟩
      go_wp2
      go_ret2
      exact ⟨_, rfl, by rw [HV.out]; exact New.nil _ _, Below.refl _ _⟩
end Go.Proofs.YtlkgkfgpnnahdaaGreat
end

section
/-
  JoinOut, the reference's: columns compared, a row added, a minor taken.
-/
namespace Go.Proofs.YtlkgkfgpnnahdaaGreat
open Go.RowKit Go.Deep Go.Sd

/-- A slice over a part of a row of numbers. -/
theorem Ints.part {w : World} {b o l : Nat} {g : Nat → Int} (h : ∀ j, j < l → w.cell? ⟨b, o + j, none⟩ = some (.int .i64 (g j))) (hb : b < w.heap.size) {s len c : Nat} (hs : s + len ≤ l) (hl : len ≤ c) (hc : c ≤ 9223372036854775807) :
    Ints w (.slice (some ⟨b, o + s, none⟩) len c) (rowOf' len (fun t => g (s + t))) := by
  refine ⟨(rowOf' len (fun t => g (s + t))).map (Value.int .i64), ⟨by rw [List.length_map, rowOf_len]; omega, _, c, by rw [List.length_map, rowOf_len], by rw [List.length_map, rowOf_len]; exact hl, hc, by simp, Or.inr ⟨b, o + s, rfl, hb, fun i u hu => ?_⟩⟩, by simp, fun i u x hu hx => ?_⟩
  · rw [List.getElem?_map, Option.map_eq_some_iff] at hu
    obtain ⟨x, hx, rfl⟩ := hu
    have hi : i < len := by have := (List.getElem?_eq_some_iff.1 hx).1; rwa [rowOf_len] at this
    rw [rowOf_at hi] at hx
    simp at hx
    rw [Nat.add_assoc, h (s + i) (by omega), hx]
  · rw [List.getElem?_map, hx] at hu
    simp at hu
    exact hu.symm

theorem Ints.capn {w : World} {a : Option Addr} {n c : Nat} {xs : List Int} (h : Ints w (.slice a n c) xs) : n = xs.length ∧ n ≤ c ∧ c ≤ 9223372036854775807 := by
  obtain ⟨a', c', hv, h1, h2, _⟩ := h.shape
  simp at hv
  obtain ⟨_, rfl, rfl⟩ := hv
  exact ⟨rfl, h1, h2⟩

def minorT (m : List (List Int)) (i j n : Nat) : List (List Int) := tabOf (n - 1) (n - 1) (fun k l => ent m (skip i k) (skip j l))

theorem rowOf_split {n J : Nat} (hJ : J < n) (g : Nat → Int) : [] ++ rowOf' J (fun t => g (0 + t)) ++ rowOf' (n - (J + 1)) (fun t => g (J + 1 + t)) = rowOf' (n - 1) (fun l => g (skip J l)) := by
  apply List.ext_getElem?
  intro k
  rw [List.nil_append]
  by_cases h1 : k < J
  · rw [List.getElem?_append_left (by rw [rowOf_len]; exact h1), rowOf_at h1, rowOf_at (by omega)]
    simp [skip, h1]
  · rw [List.getElem?_append_right (by rw [rowOf_len]; omega), rowOf_len]
    by_cases h2 : k < n - 1
    · rw [rowOf_at (by omega), rowOf_at h2]
      simp only [skip, if_neg h1]
      congr 2; omega
    · rw [List.getElem?_eq_none (by rw [rowOf_len]; omega), List.getElem?_eq_none (by rw [rowOf_len]; omega)]

set_option maxHeartbeats 400000 in
theorem l18Columns_c {w : World} {va : Value} {m : List (List Int)} {I J n : Nat} (h1 : Tab w va m) (hm : Sq n m) (hI : I < n) (hJ : J < n) (hn : n ≤ 9) :
    Calls Tryz.prog 108 #[va, .int .i64 I, .int .i64 J] w (Reads w (.bool (colsEq m I J n))) := by
  have hn0 : 0 < n := by omega
  obtain ⟨ab, ao, ac, rfl, hab, hae⟩ := h1.entAt hm.1 hm.2 hn0
  clear h1 hm
  go_enter Tryz.func108, Tryz.ntmps108
  go_wp2
  go_loopg [7] n (fun g ii wr => ∃ (k : Nat), ii = .int .i64 k ∧ k + g = n ∧ Hid (colsEq m I J n = allF (fun k => decide (ent m k I = ent m k J)) g k) ∧ Drawn w wr)
  case atStart => exact ⟨0, rfl, by omega, Lib.hid rfl, Drawn.refl _⟩
  case round =>
    obtain ⟨k, rfl, hk, H, hdr⟩ := hrel
    obtain ⟨g, hg⟩ : ∃ g, g = gk := ⟨_, rfl⟩
    rw [← hg] at H hk
    by_cases hlt : k < n
    · obtain ⟨g', rfl⟩ : ∃ t, g = t + 1 := ⟨g - 1, by omega⟩
      have H1 := Lib.hid (show colsEq m I J n = if decide (ent m k I = ent m k J) = true then allF (fun k => decide (ent m k I = ent m k J)) g' (k + 1) else false from H.out)
      obtain ⟨rb, ro, rc, hA1, hrb, _, hA2⟩ := hae.at hlt hn0
      have hA3 := hA2 I (by omega)
      have hA4 := hA2 J (by omega)
      have hrule := hdr.cell
      have hi1 : (I : Int) < (n : Int) := by omega
      have hi2 : (J : Int) < (n : Int) := by omega
      have hi3 : (k : Int) < (n : Int) := by omega
      clear H hA2 hae
      by_cases he : ent m k I = ent m k J
      · have H2 := Lib.hid (show colsEq m I J n = allF (fun k => decide (ent m k I = ent m k J)) g' (k + 1) from by rw [H1.out]; simp [he])
        have t1 : (ent m k I != ent m k J) = false := by simp [he]
        clear he H1
        go_wp2
        go_quiet (fail)
        go_wp2
        go_roundg g'
        case measure => omega
        case rel => exact ⟨k + 1, by go_num, by omega, H2, hdr.drewN _⟩
      · have H2 := Lib.hid (show colsEq m I J n = false from by rw [H1.out]; simp [he])
        have t1 : (ent m k I != ent m k J) = true := by simp [he]
        clear he H1
        go_wp2
        go_quiet (fail)
        go_wp2
        go_ret
        exact ⟨by rw [H2.out]; rfl, hdr.drewN _⟩
    · have e : g = 0 := by omega
      subst e
      have H1 := Lib.hid (show colsEq m I J n = true from H.out)
      clear H
      go_wp2
      go_ret
      exact ⟨by rw [H1.out]; rfl, hdr⟩

set_option maxHeartbeats 2000000 in
theorem l7Minor_c {w : World} {va : Value} {m : List (List Int)} {I J n : Nat} (h1 : Tab w va m) (hm : Sq n m) (hI : I < n) (hJ : J < n) (hn : n ≤ 9) :
    Calls Tryz.prog 109 #[va, .int .i64 I, .int .i64 J] w (Makes (OTab 3 46) w (minorT m I J n)) := by
  have hn0 : 0 < n := by omega
  obtain ⟨ab, ao, ac, rfl, hab, hae⟩ := h1.entAt hm.1 hm.2 hn0
  clear h1 hm
  go_enter Tryz.func109, Tryz.ntmps109
  go_wp2
  go_loopg [7, 8] n (fun g v ii wr => ∃ (k : Nat), ii = .int .i64 k ∧ k + g = n ∧ New (OTab 3 46) w.heap.size wr v ((minorT m I J n).take (cnt I k)) ∧ Below w.heap.size w wr)
  case atStart => exact ⟨0, rfl, by omega, by rw [cnt_zero]; exact New.empty w (Nat.le_refl _), (Below.refl _ _).alloc (Nat.le_refl _) _⟩
  case round =>
    obtain ⟨k, rfl, hk, hnew, hbel⟩ := hrel
    have hle := hbel.size
    have hae1 := hae.frame hab hbel
    have hab1 : ab < wr.heap.size := by omega
    have Hn := Lib.hid hnew
    have Hb := Lib.hid hbel
    have Hlk := Lib.hid (show ((minorT m I J n).take (cnt I k)).length ≤ n from by have := cnt_le I k; rw [List.length_take]; omega)
    clear hnew hbel hae
    by_cases hlt : k < n
    · by_cases hkI : k = I
      · have t1 : ((k : Int) == (I : Int)) = true := by simp [hkI]
        have Hs := Lib.hid (cnt_same I)
        have HkI := Lib.hid hkI
        clear hkI hae1
        go_wp2
        go_roundg (n - (k + 1))
        case measure => omega
        case rel => exact ⟨k + 1, by go_num, by omega, by have e := HkI.out; have h := Hn.out; rw [e] at h ⊢; rw [Hs.out]; exact h, Hb.out⟩
      · have t1 : ((k : Int) == (I : Int)) = false := by simp; omega
        obtain ⟨rb, ro, rc, hA1, hrb, hIn, hA2⟩ := hae1.at hlt hn0
        have hcap := Ints.capn hIn
        have hcp1 : n ≤ rc := hcap.2.1
        have hcp2 : rc ≤ 9223372036854775807 := hcap.2.2
        have Hp1 := Lib.hid (Ints.part hA2 hrb (s := 0) (len := J) (c := rc) (by omega) (by omega) hcp2)
        have Hp2 := Lib.hid (fun (hr : J + 1 < rc) => Ints.part hA2 hrb (s := J + 1) (len := n - (J + 1)) (c := rc - (J + 1)) (by omega) (by omega) (by omega))
        have Hat := Lib.hid (show (minorT m I J n)[cnt I k]? = some (rowOf' (n - 1) (fun l => ent m k (skip J l))) from by unfold minorT; rw [tabOf_at (cnt_lt hkI hI hlt), skip_cnt hkI])
        have Hcn := Lib.hid (cnt_next hkI)
        have hrb2 := hrb
        have Hsp := Lib.hid (rowOf_split hJ (ent m k))
        have hA1' : ∀ O, (wr.alloc O).cell? ⟨ab, ao + k, none⟩ = some (.slice (some ⟨rb, ro, none⟩) n rc) := fun O => by rw [← hA1]; exact World.cell?_alloc_lt _ _ _ hab1
        clear hkI hIn hcap hA2 hae1
        by_cases hrc : J + 1 < rc
        · have Hp2' := Lib.hid (Hp2.out hrc)
          clear Hp2
          have hne : ¬ rc = J + 1 := by omega
          go_wp2_with (first
            | (at_builtin; refine wpl_append_vals (f := Value.int .i64) (fun _ => rfl) rfl (.tmp 20) (.tmp 26) 46 rfl 3 (.int .i64 0) 8 Tryz.underlying46 infoI rfl (New.empty (R := OValR (Value.int .i64)) (lo := wr.heap.size) wr (Nat.le_refl _)) (by simp) (Ints.frame _ _ _ _ Hp1.out ((Below.refl _ _).alloc (Nat.le_refl _) _)) rfl rfl (by rw [rowOf_len]; simp; omega) (by rw [rowOf_len]; simp; omega) ?_; intro v1 w1 hn1 _ _ hb1; obtain ⟨xa, xn, xc, rfl⟩ := hn1.slice; have Hn1 := Lib.hid hn1; have Hb1 := Lib.hid (((Below.refl wr.heap.size wr).alloc (Nat.le_refl _) _).trans hb1); have hcell1 := Hb1.out.rule; clear hn1 hb1)
            | (at_builtin; refine wpl_append_vals (f := Value.int .i64) (fun _ => rfl) rfl (.tmp 29) (.tmp 36) 46 rfl 3 (.int .i64 0) 8 Tryz.underlying46 infoI rfl (w := w1) Hn1.out Hb1.out.size (Ints.frame _ _ _ _ Hp2'.out Hb1.out) rfl rfl (by simp only [List.length_append, rowOf_len, List.length_nil]; omega) (by simp only [List.length_append, rowOf_len, List.length_nil]; omega) ?_; intro v2 w2 hn2 _ _ hb2; obtain ⟨ya, yn, yc, rfl⟩ := hn2.slice; have Hn2 := Lib.hid (show New (OInts 3) wr.heap.size w2 _ (rowOf' (n - 1) (fun l => ent m k (skip J l))) from by rw [← Hsp.out]; exact hn2); have Hb2 := Lib.hid (Hb1.out.trans hb2); clear hn2 hb2)
            | (at_builtin; refine wpl_push (w0 := wr) (lo := w.heap.size) (OInts.kept _) rfl (.tmp 28) (.tmp 38) 24 rfl 46 (.slice none 0 0) 24 Tryz.underlying24 infoR rfl Hn.out hle (Hb2.out.alloc Hb2.out.size _) (New.keep (OInts.kept _) Hn2.out ((Below.refl w2.heap.size _).alloc (Nat.le_refl _) _) (Nat.le_refl _)) (bb := w2.heap.size) (c := 1) (by simp) rfl rfl (by have := Hlk.out; omega) (by have := Hlk.out; omega) ?_; intro v3 w3 hn3 _ _ hb3; have Hn3 := Lib.hid hn3; have Hb3 := Lib.hid hb3; clear hn3 hb3))
          go_roundg (n - (k + 1))
          case measure => omega
          case rel => exact ⟨k + 1, by go_num, by omega, by rw [Hcn.out, ← take_snoc' Hat.out]; exact Hn3.out, Hb.out.trans Hb3.out⟩
        · have hne : rc = J + 1 := by omega
          have hnJ : n = J + 1 := by omega
          have Hp2' := Lib.hid (show Ints wr (.slice (some ⟨rb, ro, none⟩) 0 0) (rowOf' (n - (J + 1)) (fun t => ent m k (J + 1 + t))) from by
            rw [show n - (J + 1) = 0 from by omega]
            exact ⟨[], ⟨by simp, _, 0, rfl, by simp, by simp, by simp, Or.inl rfl⟩, rfl, by simp⟩)
          clear Hp2
          have HnJ := Lib.hid hnJ
          subst hne
          clear hnJ
          go_wp2_with (first
            | (at_builtin; refine wpl_append_vals (f := Value.int .i64) (fun _ => rfl) rfl (.tmp 20) (.tmp 26) 46 rfl 3 (.int .i64 0) 8 Tryz.underlying46 infoI rfl (New.empty (R := OValR (Value.int .i64)) (lo := wr.heap.size) wr (Nat.le_refl _)) (by simp) (Ints.frame _ _ _ _ Hp1.out ((Below.refl _ _).alloc (Nat.le_refl _) _)) rfl rfl (by rw [rowOf_len]; simp; omega) (by rw [rowOf_len]; simp; omega) ?_; intro v1 w1 hn1 _ _ hb1; obtain ⟨xa, xn, xc, rfl⟩ := hn1.slice; have Hn1 := Lib.hid hn1; have Hb1 := Lib.hid (((Below.refl wr.heap.size wr).alloc (Nat.le_refl _) _).trans hb1); have hcell1 := Hb1.out.rule; clear hn1 hb1)
            | (at_builtin; refine wpl_append_vals (f := Value.int .i64) (fun _ => rfl) rfl (.tmp 29) (.tmp 36) 46 rfl 3 (.int .i64 0) 8 Tryz.underlying46 infoI rfl (w := w1) Hn1.out Hb1.out.size (Ints.frame _ _ _ _ Hp2'.out Hb1.out) rfl rfl (by simp only [List.length_append, rowOf_len, List.length_nil]; omega) (by simp only [List.length_append, rowOf_len, List.length_nil]; omega) ?_; intro v2 w2 hn2 _ _ hb2; obtain ⟨ya, yn, yc, rfl⟩ := hn2.slice; have Hn2 := Lib.hid (show New (OInts 3) wr.heap.size w2 _ (rowOf' (n - 1) (fun l => ent m k (skip J l))) from by rw [← Hsp.out]; exact hn2); have Hb2 := Lib.hid (Hb1.out.trans hb2); clear hn2 hb2)
            | (at_builtin; refine wpl_push (w0 := wr) (lo := w.heap.size) (OInts.kept _) rfl (.tmp 28) (.tmp 38) 24 rfl 46 (.slice none 0 0) 24 Tryz.underlying24 infoR rfl Hn.out hle (Hb2.out.alloc Hb2.out.size _) (New.keep (OInts.kept _) Hn2.out ((Below.refl w2.heap.size _).alloc (Nat.le_refl _) _) (Nat.le_refl _)) (bb := w2.heap.size) (c := 1) (by simp) rfl rfl (by have := Hlk.out; omega) (by have := Hlk.out; omega) ?_; intro v3 w3 hn3 _ _ hb3; have Hn3 := Lib.hid hn3; have Hb3 := Lib.hid hb3; clear hn3 hb3))
          go_roundg (n - (k + 1))
          case measure => omega
          case rel => exact ⟨k + 1, by go_num, by omega, by rw [Hcn.out, ← take_snoc' Hat.out]; exact Hn3.out, Hb.out.trans Hb3.out⟩
    · have e : k = n := by omega
      subst e
      have hr := Hn.out
      rw [cnt_full hI, show (minorT m I J k).take (k - 1) = minorT m I J k from tabOf_full] at hr
      have Hr := Lib.hid hr
      clear hr
      go_wp2
      go_ret
      exact ⟨_, rfl, Hr.out, Hb.out⟩

/-- The table with the first c numbers of row j added to row i. -/
def sumF (m : List (List Int)) (I J n c : Nat) : List (List Int) := tabOf n n (fun k l => if k = I ∧ l < c then ent m I l + ent m J l else ent m k l)
theorem sumF_start {m : List (List Int)} {I J n : Nat} (hm : Sq n m) : sumF m I J n 0 = m := by
  conv => rhs; rw [tab_eq hm.1 hm.2]
  exact tabOf_congr fun k _ l _ => by simp
theorem sumF_row {m : List (List Int)} {I J n c : Nat} (hI : I < n) : (sumF m I J n c)[I]? = some (rowOf' n (fun l => if I = I ∧ l < c then ent m I l + ent m J l else ent m I l)) := tabOf_at hI
theorem sumF_at {m : List (List Int)} {I J n c : Nat} (hc : c < n) : (rowOf' n (fun l => if I = I ∧ l < c then ent m I l + ent m J l else ent m I l))[c]? = some (ent m I c) := by rw [rowOf_at hc]; simp
theorem sumF_set {m : List (List Int)} {I J n c : Nat} : (sumF m I J n c).set I ((rowOf' n (fun l => if I = I ∧ l < c then ent m I l + ent m J l else ent m I l)).set c (ent m I c + ent m J c)) = sumF m I J n (c + 1) := by
  unfold sumF
  rw [tabOf_set2 n n (fun k l => if k = I ∧ l < c then ent m I l + ent m J l else ent m k l) I c]
  refine tabOf_congr fun k _ l _ => ?_
  by_cases h : k = I ∧ l = c
  · obtain ⟨rfl, rfl⟩ := h; simp
  · rw [if_neg h]
    by_cases h2 : k = I ∧ l < c
    · rw [if_pos h2, if_pos (by omega)]
    · rw [if_neg h2, if_neg (by omega)]
theorem sumF_sq (m : List (List Int)) (I J n c : Nat) : Sq n (sumF m I J n c) := ⟨tabOf_len _ _ _, fun _ hr => mem_tabOf hr⟩
theorem minor_sum {m : List (List Int)} {I J n : Nat} (_hJ : J < n) : minorT (sumF m I J n n) J J n = joinT m I J n := by
  unfold minorT joinT
  refine tabOf_congr fun k hk l hl => ?_
  have h1 := skip_lt (j := J) hk
  have h2 := skip_lt (j := J) hl
  unfold sumF
  rw [ent_tabOf h1 h2]
  unfold joinE
  by_cases h : skip J k = I
  · rw [if_pos ⟨h, h2⟩, if_pos h, h]
  · rw [if_neg (fun e => h e.1), if_neg h]

set_option maxHeartbeats 2000000 in
set_option maxRecDepth 100000 in
theorem spec_JoinOut_c {w : World} {va : Value} {m : List (List Int)} {i j : Int} (h1 : Tab w va m) :
    Calls Tryz.prog 91 #[va, .int .i64 i, .int .i64 j] w (Makes2 (OTab 3 46) w (joinV m i j) (joinOk m i j)) := by
  have hsa := h1.shape
  obtain ⟨aa, ac, rfl, _, _, _⟩ := hsa
  have Hc := Lib.hid (spec_IsMatrix_c h1)
  cases hm : isMat m with
  | false =>
    have HK := Lib.hid (show joinOk m i j = false from by unfold joinOk; rw [hm]; rfl)
    have HV := Lib.hid (show joinV m i j = [] from by unfold joinV; rw [HK.out]; rfl)
    rw [hm] at Hc
    rw [HK.out]
    clear h1 hm
    go_enter Tryz.func91, Tryz.ntmps91
    go_wp2_with fail
    refine Hc.out.mono ?_
    rintro e w' ⟨rfl, rfl⟩
    go_wp2
    go_ret2
    exact ⟨_, rfl, by rw [HV.out]; exact New.empty w (Nat.le_refl _), (Below.refl _ _).alloc (Nat.le_refl _) _⟩
  | true =>
    rw [hm] at Hc
    have sm := isMat_sq hm
    by_cases hij : 0 ≤ i ∧ i < j ∧ j < m.length
    · obtain ⟨I, rfl⟩ : ∃ I : Nat, i = (I : Int) := ⟨i.toNat, by omega⟩
      obtain ⟨J, rfl⟩ : ∃ J : Nat, j = (J : Int) := ⟨j.toNat, by omega⟩
      have HO := Lib.hid (show joinOk m I J = (colsEq m I J m.length && isMat (joinT m I J m.length)) from by unfold joinOk; rw [hm]; simp [hij])
      have HV := Lib.hid (show joinV m I J = if joinOk m I J = true then joinT m I J m.length else [] from rfl)
      generalize joinOk m I J = ok at HO HV ⊢
      generalize joinV m I J = rv at HV ⊢
      have Hbd := Lib.hid (fun k l (hk : k < m.length) (hl : l < m.length) => joinE_bd (j := J) hm hk (by omega) hl)
      clear hm
      generalize hn : m.length = n at *
      have hIJ : I < J := by omega
      have hJn : J < n := by omega
      have hn0 : 0 < n := by omega
      have hn9 : n ≤ 9 := sm.2.2
      have hIn : I < n := by omega
      have dI : decide ((I : Int) < 0) = false := by simp
      have dJ : decide (J ≤ I) = false := by simp; omega
      have dn : decide (n ≤ J) = false := by simp; omega
      obtain ⟨ab, ao, ac', hv1, hab, hae⟩ := h1.entAt hn sm.1.2 hn0
      obtain ⟨rfl, rfl⟩ : aa = some ⟨ab, ao, none⟩ ∧ ac = ac' := by simp at hv1; exact hv1
      have Hcol := Lib.hid (l18Columns_c (I := I) (J := J) h1 sm.1 hIn hJn hn9)
      cases hcs : colsEq m I J n with
      | false =>
        have HK := Lib.hid (show ok = false from by rw [HO.out, hcs]; rfl)
        have HV2 := Lib.hid (show rv = [] from by rw [HV.out, HK.out]; rfl)
        rw [hcs] at Hcol
        clear h1 sm hij hv1 hn hcs hae
        go_enter Tryz.func91, Tryz.ntmps91
        go_wp2_with fail
        refine Hc.out.mono ?_
        rintro e w' ⟨rfl, rfl⟩
        go_wp2_with fail
        refine Hcol.out.mono ?_
        rintro e w1 ⟨rfl, hdr⟩
        have hb1 := hdr.below w.heap.size
        have Hb1 := Lib.hid hb1
        have hz1 := hb1.size
        clear hb1 hdr
        go_wp2
        go_ret2
        exact ⟨_, by rw [HK.out]; rfl, by rw [HV2.out]; exact New.empty w1 hz1, Hb1.out.alloc hz1 _⟩
      | true =>
        rw [hcs] at Hcol
        have Hcp := Lib.hid (fun w1 (hb : Below w.heap.size w w1) => l4Copy_c (Tab.frame _ _ _ _ h1 hb) (by omega) (fun r hr => by rw [sm.1.2 r hr]; omega))
        have Hsq := Lib.hid sm.1
        have HC := Lib.hid hcs
        clear h1 sm hij hv1 hn hcs
        go_enter Tryz.func91, Tryz.ntmps91
        go_wp2_with fail
        refine Hc.out.mono ?_
        rintro e w' ⟨rfl, rfl⟩
        go_wp2_with fail
        refine Hcol.out.mono ?_
        rintro e w1 ⟨rfl, hdr⟩
        have hb1 := hdr.below w.heap.size
        clear hdr
        go_wp2_with fail
        refine (Hcp.out _ hb1).mono ?_
        rintro e w2 ⟨v2, rfl, hn2, hb2⟩
        have hae2 := (hae.frame hab hb1)
        have hz1 := hb1.size
        have hab1 : ab < w1.heap.size := by omega
        have Hb1 := Lib.hid hb1
        rw [← sumF_start (I := I) (J := J) Hsq.out] at hn2
        obtain ⟨gb, gc, _, _, rfl, _, hgb, hgb2, _⟩ := hn2.tab_at (sumF_row hIn) (sumF_at hn0)
        rw [(sumF_sq m I J n 0).1] at hn2 ⊢
        have Hn2 := Lib.hid hn2
        have Hb2 := Lib.hid hb2
        clear hn2 hb2 hb1 hae Hcp
        go_wp2
        go_loopg [9] n (fun g kk wr => ∃ (k : Nat), kk = .int .i64 k ∧ k + g = n ∧ New (OTab 3 46) w1.heap.size wr (.slice (some ⟨gb, 0, none⟩) n gc) (sumF m I J n k) ∧ Below w1.heap.size w1 wr)
        case atStart => exact ⟨0, rfl, by omega, Hn2.out, Hb2.out⟩
        case round =>
          obtain ⟨k, rfl, hk, hnew, hbel⟩ := hrel
          clear Hn2 Hb2
          by_cases hlt : k < n
          · obtain ⟨rb, ro, rc, hA1, hrb, _, hA2⟩ := hae2.at hJn hn0
            have hA3 := hA2 k hlt
            obtain ⟨b', c', sb, sc, hv, _, _, _, hcl1, _, hsb, _, hcl2, hfr, hst⟩ := hnew.tab_at (sumF_row hIn) (sumF_at hlt)
            obtain rfl : b' = gb := by simp at hv; exact hv.1.symm
            rw [rowOf_len] at hcl1
            have Hst := Lib.hid (by have := hst (ent m I k + ent m J k); rw [sumF_set] at this; exact this)
            obtain ⟨hd1, hd2, hd3, hd4⟩ := Hbd.out I k hIn hlt
            have Hb3 := Lib.hid (hbel.setCell (p := ⟨sb, k, none⟩) hsb (.int .i64 (ent m I k + ent m J k)))
            have hrule := hbel.rule
            have hi1 : (I : Int) < (n : Int) := by omega
            have hi2 : (J : Int) < (n : Int) := by omega
            have hi3 : (k : Int) < (n : Int) := by omega
            generalize ent m I k = X at *
            generalize ent m J k = Y at *
            clear hv hst hnew hA2 hbel hae2
            go_wp2
            go_still_tail 21, (by kernel_rfl)
            go_wp2
            go_roundg (n - (k + 1))
            case measure => omega
            case rel => exact ⟨k + 1, by go_num, by omega, New.heap (OTab.kept _ _) Hst.out rfl, Hb3.out.drew⟩
          · have e : n = k := by omega
            subst e
            clear hk
            have Hm := Lib.hid (l7Minor_c (I := J) (J := J) hnew.tab (sumF_sq m I J n n) hJn hJn hn9)
            rw [minor_sum hJn] at Hm
            have hz2 := hbel.size
            have Hb3 := Lib.hid hbel
            clear hnew hbel hae2
            go_wp2_with fail
            refine Hm.out.mono ?_
            rintro e w3 ⟨v3, rfl, hn3, hb3⟩
            have hz3 := hb3.size
            have Hb4 := Lib.hid (Hb1.out.trans ((Hb3.out.trans (hb3.mono hz2)).mono hz1))
            have Hi := Lib.hid (spec_IsMatrix_c hn3.tab)
            cases hp : isMat (joinT m I J n) with
            | false =>
              have HK := Lib.hid (show ok = false from by rw [HO.out, hp]; simp)
              have HV2 := Lib.hid (show rv = [] from by rw [HV.out, HK.out]; rfl)
              rw [hp] at Hi
              clear hp hn3 hb3
              go_wp2_with fail
              refine Hi.out.mono ?_
              rintro e w' ⟨rfl, rfl⟩
              go_wp2
              go_ret2
              exact ⟨_, by rw [HK.out]; rfl, by rw [HV2.out]; exact New.empty w3 (by omega), Hb4.out.alloc (by omega) _⟩
            | true =>
              have HK := Lib.hid (show ok = true from by rw [HO.out, hp, HC.out]; rfl)
              have HV2 := Lib.hid (show rv = joinT m I J n from by rw [HV.out, HK.out]; rfl)
              have Hn3 := Lib.hid (hn3.mono (show w.heap.size ≤ wr.heap.size by omega))
              rw [hp] at Hi
              clear hp hn3 hb3
              go_wp2_with fail
              refine Hi.out.mono ?_
              rintro e w' ⟨rfl, rfl⟩
              go_wp2
              go_ret2
              exact ⟨_, by rw [HK.out]; rfl, by rw [HV2.out]; exact Hn3.out, Hb4.out⟩
    · have HK := Lib.hid (show joinOk m i j = false from by unfold joinOk; simp [hij])
      have HV := Lib.hid (show joinV m i j = [] from by unfold joinV; rw [HK.out]; rfl)
      rw [HK.out]
      clear h1 hm sm
      by_cases h0 : i < 0
      · clear hij
        go_enter Tryz.func91, Tryz.ntmps91
        go_wp2_with fail
        refine Hc.out.mono ?_
        rintro e w' ⟨rfl, rfl⟩
        go_wp2
        go_ret2
        exact ⟨_, rfl, by rw [HV.out]; exact New.empty w (Nat.le_refl _), (Below.refl _ _).alloc (Nat.le_refl _) _⟩
      by_cases h1 : j ≤ i
      · clear hij
        go_enter Tryz.func91, Tryz.ntmps91
        go_wp2_with fail
        refine Hc.out.mono ?_
        rintro e w' ⟨rfl, rfl⟩
        go_wp2
        go_ret2
        exact ⟨_, rfl, by rw [HV.out]; exact New.empty w (Nat.le_refl _), (Below.refl _ _).alloc (Nat.le_refl _) _⟩
      have h2 : (m.length : Int) ≤ j := by omega
      clear hij
      go_enter Tryz.func91, Tryz.ntmps91
      go_wp2_with fail
      refine Hc.out.mono ?_
      rintro e w' ⟨rfl, rfl⟩
      go_wp2
      go_ret2
      exact ⟨_, rfl, by rw [HV.out]; exact New.empty w (Nat.le_refl _), (Below.refl _ _).alloc (Nat.le_refl _) _⟩

theorem joinV_bd (m : List (List Int)) (i j : Int) : (joinV m i j).length ≤ 9 ∧ ∀ x, x ∈ joinV m i j → x.length ≤ 9 := by
  unfold joinV
  split
  · rename_i h
    unfold joinOk at h
    simp only [Bool.and_eq_true] at h
    have h1 := isMat_sq h.2
    exact ⟨h1.2.2, fun x hx => by rw [h1.1.2 x hx]; exact h1.2.2⟩
  · simp
end Go.Proofs.YtlkgkfgpnnahdaaGreat
end
