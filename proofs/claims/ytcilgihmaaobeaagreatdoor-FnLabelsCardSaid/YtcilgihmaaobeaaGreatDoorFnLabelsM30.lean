/-
  Laws for this claim's walks, contracts of the functions that it reaches.
-/
import Derived.Test.YtcilgihmaaobeaaGreatDoorFnLabelsM23
set_option linter.unusedVariables false
set_option linter.unusedSimpArgs false
section
namespace Go.Proofs.YtcilgihmaaobeaaGreatDoor
open Go.RowKit Go.Deep Go.Sd
set_option linter.unusedSimpArgs false
def letrB (x : Int) : ByteArray := ⟨#[97 + UInt8.ofNat x.toNat]⟩
def arcTxt (a : Arc3) : ByteArray := (fmtN a.1.toNat ++ letrB a.2.2) ++ fmtN a.2.1.toNat
def labParts (l : Lb) : List ByteArray := [fmtN l.1.toNat, fmtN l.2.1.toNat] ++ l.2.2.map arcTxt
def labText (l : Lb) : ByteArray := if isLab l = true then joinB (labParts l) ⟨#[32]⟩ else ⟨#[]⟩
theorem isLab_arc {l : Lb} (h : isLab l = true) : ∀ a, a ∈ l.2.2 → (0 ≤ a.1 ∧ a.1 < 12) ∧ (0 ≤ a.2.1 ∧ a.2.1 < 12) ∧ 0 ≤ a.2.2 ∧ a.2.2 < 3 := by
  have h0 := isLab_ok h
  unfold isLab at h
  rw [Bool.and_eq_true, Bool.and_eq_true, decide_eq_true_eq, decide_eq_true_eq] at h
  intro a ha
  obtain ⟨k, hk⟩ := List.getElem?_of_mem ha
  have h1 := allF_at h.2.2 k (List.getElem?_eq_some_iff.1 hk).1
  rw [Nat.zero_add] at h1
  unfold arcB at h1
  rw [Bool.and_eq_true, at3_of hk] at h1
  have h2 := h1.1
  unfold arcOk at h2
  rw [decide_eq_true_eq] at h2
  omega
theorem fmt_size {m : Nat} (h : m < 100) : (fmtN m).size ≤ 2 := by
  have : ∀ m, m < 100 → (fmtN m).size ≤ 2 := by decide +kernel
  exact this m h
theorem join_bd (sep : List UInt8) (B : Nat) : ∀ (ys : List (List UInt8)), (∀ y, y ∈ ys → y.length ≤ B) → (Lib.join ys sep).length ≤ ys.length * (B + sep.length)
  | [], _ => by simp [Lib.join_nil]
  | y :: r, h => by
    have h1 : ∀ (r : List (List UInt8)), (∀ y, y ∈ r → y.length ≤ B) → (Lib.joinTail sep r).length ≤ r.length * (B + sep.length) := by
      intro r
      induction r with
      | nil => intro _; simp [Lib.joinTail]
      | cons z r ih =>
        intro h
        have h2 := ih fun y hy => h y (List.mem_cons_of_mem _ hy)
        have h3 := h z (by simp)
        have e : Lib.joinTail sep (z :: r) = (sep ++ z) ++ Lib.joinTail sep r := by simp [Lib.joinTail]
        rw [e, List.length_append, List.length_append, List.length_cons, Nat.succ_mul]
        omega
    have h4 := h1 r fun y hy => h y (List.mem_cons_of_mem _ hy)
    have h5 := h y (by simp)
    rw [Lib.join_cons, List.length_append, List.length_cons, Nat.succ_mul]
    omega
theorem letrB_size (x : Int) : (letrB x).size = 1 := rfl
theorem labParts_bd {l : Lb} (h : isLab l = true) : ∀ p, p ∈ labParts l → p.size ≤ 5 := by
  have h0 := isLab_ok h
  intro p hp
  unfold labParts at hp
  rcases List.mem_append.1 hp with hp | hp
  · simp only [List.mem_cons, List.not_mem_nil, or_false] at hp
    rcases hp with rfl | rfl
    · have := fmt_size (m := l.1.toNat) (by omega); omega
    · have := fmt_size (m := l.2.1.toNat) (by omega); omega
  · obtain ⟨a, ha, rfl⟩ := List.mem_map.1 hp
    have h1 := isLab_arc h a ha
    have h2 := fmt_size (m := a.1.toNat) (by omega)
    have h3 := fmt_size (m := a.2.1.toNat) (by omega)
    unfold arcTxt
    rw [bs_size, bs_size, letrB_size]
    omega
theorem labParts_join {l : Lb} (h : isLab l = true) (hn : l.2.2.length ≤ 1048576) : (Lib.join (bytL (labParts l)) [32]).length ≤ 1099511627776 := by
  have h1 := join_bd [32] 5 (bytL (labParts l)) (fun y hy => by
    unfold bytL at hy
    obtain ⟨p, hp, rfl⟩ := List.mem_map.1 hy
    have := labParts_bd h p hp
    simpa using this)
  have h2 : (bytL (labParts l)).length = l.2.2.length + 2 := by simp [bytL, labParts]
  rw [h2] at h1
  simp only [List.length_cons, List.length_nil] at h1
  omega
theorem New.lit {α : Type} {e : TypeId} {f : α → Value} {w : World} (xs : List α) (hl : xs.length ≤ 1000000) :
    New (OwnOf e (OValR f)) w.heap.size (w.alloc (.cells (xs.map f).toArray e)) (.slice (some ⟨w.heap.size, 0, none⟩) xs.length xs.length) xs := by
  have ho := World.ownsRow_lit (base := 0) (e := e) (size := 1) w (xs.map f).toArray xs.length (Nat.zero_le _) (by unfold maxLen; omega) (by simp)
  refine ⟨[w.heap.size], ⟨xs.map f, xs.map (fun _ => []), by simpa using ho, by simp, ?_, by simp [Value.ownBlock]⟩, by simp [Fresh]⟩
  intro i u x G hu hx hG
  rw [List.getElem?_map, hx] at hu hG
  simp at hu hG
  exact ⟨hu.symm, hG⟩
theorem letr_u8 {p : Nat} (hp : p < 3) : (97 + UInt8.ofNat (p : Int).toNat).toNat = 97 + p := by
  match p, hp with
  | 0, _ => rfl
  | 1, _ => rfl
  | 2, _ => rfl
  | p + 3, h => exact absurd h (by omega)
theorem letr_conv {wz : World} {B p : Nat} (hp : p < 3) (h : wz.cell? ⟨B, 0, none⟩ = some (.int .u8 (97 + (p : Int)))) :
    (convert 22 9 (.slice (some ⟨B, 0, none⟩) 1 1)).run Tryz.prog wz = .ok (.string (letrB (p : Int))) wz :=
  run_convert_bytes_back (P := Tryz.prog) wz 22 9 5 ⟨B, 0, none⟩ 1 [97 + UInt8.ofNat (p : Int).toNat] Tryz.underlying22 Tryz.underlying5 Tryz.underlying9 (by
    intro j hj
    have hj0 : j = 0 := by simpa using hj
    subst hj0
    have e2 : (⟨B, 0, none⟩ : Addr).add 0 = ⟨B, 0, none⟩ := by unfold Addr.add; split <;> simp_all
    rw [e2, h]
    simp only [List.getElem_cons_zero, letr_u8 hp]
    rfl)
theorem pushArc {lo : Nat} {w : World} {v : Value} {xs : List ByteArray} (h : New (OStrL 9) lo w v xs) (hlo : lo ≤ w.heap.size) {x0 x1 x2 : Value} {wn : World} (ex : w.alloc (.cells #[x0, x1, x2] 68) = wn) {w5 : World} (hb : Below wn.heap.size wn w5) (s : ByteArray) (hl : xs.length ≤ 2000000) :
    ∃ a n c w', (Builtin.append_ #[29, 29] 29 #[v, .slice (some ⟨w5.heap.size, 0, none⟩) 1 1]).run Tryz.prog (w5.alloc (.cells #[.string s] 9)) = .ok (.slice a n c) w' ∧ New (OStrL 9) lo w' (.slice a n c) (xs ++ [s]) ∧ Below lo w w' ∧
      (w'.cell? ⟨w.heap.size, 0, none⟩ = some x0 ∧ w'.cell? ⟨w.heap.size, 1, none⟩ = some x1 ∧ w'.cell? ⟨w.heap.size, 2, none⟩ = some x2) := by
  have hb1 : Below w.heap.size w wn := by rw [← ex]; exact (Below.refl _ _).alloc (Nat.le_refl _) _
  have hs0 := (Sep.one (OwnOf.kept OStr.kept).held h).boxNew hlo [x0, x1, x2] 68
  have ex' : w.alloc (.cells [x0, x1, x2].toArray 68) = wn := ex
  rw [ex'] at hs0
  have hz := hb1.size
  obtain ⟨v', w', hr, hs, hb'⟩ := Sep.push (P := Tryz.prog) OStr.kept 29 29 (.string ⟨#[]⟩) 16 Tryz.underlying29 infoStr rfl hs0.swap (by omega) (w1 := w5.alloc (.cells #[.string s] 9)) (hb.alloc hb.size _) (q := .string s) (x := s) ⟨[], ⟨rfl, rfl⟩, by simp [Fresh]⟩ (bb := w5.heap.size) (c := 1) (World.cell?_alloc_at _ _ _ 0 rfl) (by omega) (by omega)
  have hn := hs.headNew
  obtain ⟨a, n, c, rfl⟩ := hn.slice
  have hc := (Sep.getBox hs (b := w.heap.size) (vs := [x0, x1, x2]) (by simp)).2.2
  exact ⟨a, n, c, w', hr, hn, (hb1.mono hlo).trans hb', (hc 0 x0 rfl).1, (hc 1 x1 rfl).1, (hc 2 x2 rfl).1⟩
set_option maxHeartbeats 4000000 in
set_option maxRecDepth 100000 in
theorem impl_LabelsText_c {w : World} {v : Value} {l : Lb} (h : LabR w v l) (hn : l.2.2.length ≤ 1048576) :
    Calls Tryz.prog 29 #[v] w fun e w' => e = .returned (.string (labText l)) ∧ Below w.heap.size w w' := by
  have H1 := Lib.hid (fun w1 (hb : Below w.heap.size w w1) => impl_IsLabels_c (LabR.frame _ _ _ _ h hb))
  have H0 := Lib.hid (show labText l = if isLab l = true then joinB (labParts l) ⟨#[32]⟩ else ⟨#[]⟩ from rfl)
  generalize labText l = T at H0 ⊢
  by_cases hil : ¬ isLab l = true
  · have HF := Lib.hid (show T = ⟨#[]⟩ from by rw [H0.out, if_neg hil])
    rw [show isLab l = false by simpa using hil] at H1
    clear H0 hil hn
    obtain ⟨L, S, xs⟩ := l
    obtain ⟨va, rfl, _, a, c, rfl, _, _, _, _⟩ := h
    simp only at *
    generalize xs.length = n at *
    go_enter Tryz.func29, Tryz.ntmps29
    go_wp2_with fail
    obtain ⟨w1, ex, A0, c0, c1, c2, m1⟩ := boxA3_ex w 26 (.int .i64 L) (.int .i64 S) (.slice a n c)
    change Calls Tryz.prog _ _ (w.alloc (.cells #[.int .i64 L, .int .i64 S, .slice a n c] 26)) _
    rw [ex]
    clear ex
    (with_reducible refine (H1.out _ A0).mono ?_)
    rintro e w2 ⟨rfl, hb⟩
    replace A0 := A0.trans (hb.mono A0.size)
    clear hb
    go_wp2
    go_ret
    exact ⟨by rw [HF.out]; rfl, A0⟩
  replace hil := Decidable.not_not.1 hil
  have HX := Lib.hid (show T = joinB (labParts l) ⟨#[32]⟩ from by rw [H0.out, if_pos hil])
  have HJ := Lib.hid (labParts_join hil hn)
  have HA := Lib.hid (isLab_arc hil)
  obtain ⟨-, hS1, hS2, hL1, hL2⟩ := isLab_ok hil
  rw [hil] at H1
  clear H0 hil
  obtain ⟨L, S, xs⟩ := l
  obtain ⟨va, rfl, _, a, c, rfl, _, _, _, hcell⟩ := h
  simp only at *
  have HP := Lib.hid (show labParts (L, S, xs) = [fmtN L.toNat, fmtN S.toNat] ++ xs.map arcTxt from rfl)
  generalize labParts (L, S, xs) = PT at HX HJ HP
  obtain ⟨P, rfl⟩ := Int.eq_ofNat_of_zero_le (show 0 ≤ L by omega)
  obtain ⟨Q, rfl⟩ := Int.eq_ofNat_of_zero_le (show 0 ≤ S by omega)
  simp only [Int.ofNat_eq_natCast, Int.toNat_natCast] at *
  have HfP := Lib.hid (fun w => impl_FormatInt_c (w := w) (m := P) (by omega))
  have HfQ := Lib.hid (fun w => impl_FormatInt_c (w := w) (m := Q) (by omega))
  generalize fmtN P = fP at HP HfP
  generalize fmtN Q = fQ at HP HfQ
  obtain ⟨n, hnn⟩ : ∃ n, n = xs.length := ⟨_, rfl⟩
  have HN := Lib.hid hnn
  have HC := Lib.hid hcell
  rw [← hnn] at HC hn H1 ⊢
  clear hnn hcell
  go_enter Tryz.func29, Tryz.ntmps29
  go_wp2_with fail
  obtain ⟨w1, ex, A0, c0, c1, c2, m1⟩ := boxA3_ex w 26 (.int .i64 P) (.int .i64 Q) (.slice a n c)
  change Calls Tryz.prog _ _ (w.alloc (.cells #[.int .i64 P, .int .i64 Q, .slice a n c] 26)) _
  rw [ex]
  clear ex
  (with_reducible refine (H1.out _ A0).mono ?_)
  rintro e w2 ⟨rfl, hb⟩
  have HD := Lib.hid hb
  have hz12 := hb.size
  have e0 := (hb.cell (p := ⟨w.heap.size, 0, none⟩) m1).trans c0
  have e1 := (hb.cell (p := ⟨w.heap.size, 1, none⟩) m1).trans c1
  have e2 := (hb.cell (p := ⟨w.heap.size, 2, none⟩) m1).trans c2
  have HC2 := Lib.hid c2
  have HA0 := Lib.hid A0
  have hzw := A0.size
  clear hb H1 c0 c1 c2 A0
  go_wp2
  have hS0 : w2.cell? ⟨w.heap.size, 0, none⟩ = some (.int .i64 P) ∧ w2.cell? ⟨w.heap.size, 1, none⟩ = some (.int .i64 Q) ∧ w2.cell? ⟨w.heap.size, 2, none⟩ = some (.slice a n c) := ⟨e0, e1, e2⟩
  have hSd : w2.drew.cell? ⟨w.heap.size, 0, none⟩ = some (.int .i64 P) ∧ w2.drew.cell? ⟨w.heap.size, 1, none⟩ = some (.int .i64 Q) ∧ w2.drew.cell? ⟨w.heap.size, 2, none⟩ = some (.slice a n c) := hS0
  go_region_held3 (fun w' => w'.cell? ⟨w.heap.size, 0, none⟩ = some (.int .i64 P) ∧ w'.cell? ⟨w.heap.size, 1, none⟩ = some (.int .i64 Q) ∧ w'.cell? ⟨w.heap.size, 2, none⟩ = some (.slice a n c))
    (first | with_reducible exact hSd | with_reducible exact hS0 | go_keep)
    ((first
      | (go_at_call 66; (with_reducible refine (HfP.out _).mono ?_); rintro e w' ⟨rfl, rfl⟩)
      | (go_at_call 66; (with_reducible refine (HfQ.out _).mono ?_); rintro e w' ⟨rfl, rfl⟩)
      | fail))
  have hbX : Below w1.heap.size w1 w2 := HD.out
  obtain ⟨w3, e3⟩ : ∃ x, x = (w2.alloc (.cells #[.string fP, .string fQ] 9)).drew := ⟨_, rfl⟩
  rw [← e3]
  have hzX : w1.heap.size ≤ w2.heap.size := hbX.size
  have HN3 := Lib.hid (show New (OStrL 9) w1.heap.size w3 (.slice (some ⟨w2.heap.size, 0, none⟩) 2 2) (PT.take 2) from by
    have h2 : PT.take 2 = [fP, fQ] := by rw [HP.out]; rfl
    rw [h2, e3]
    have h := New.lit (e := 9) (f := Value.string) (w := w2) [fP, fQ] (by simp)
    exact (New.keep (OwnOf.kept OStr.kept) h ((Below.refl _ _).drew) (Nat.le_refl _)).mono hzX)
  have HB3 := Lib.hid (show Below w1.heap.size w1 w3 from by rw [e3]; exact (hbX.alloc hzX _).drew)
  have e2' : w3.cell? ⟨w.heap.size, 2, none⟩ = some (.slice a n c) := (HB3.out.cell (p := ⟨w.heap.size, 2, none⟩) m1).trans HC2.out
  clear e3 hbX hzX HD hz12 e0 e1 e2 hS0 hSd 
  go_wp2
  go_loopg [3, 19] n (fun g ov iv wr => ∃ (k : Nat), iv = .int .i64 k ∧ k + g = n ∧ Hid (New (OStrL 9) w1.heap.size wr ov (PT.take (k + 2))) ∧ Hid (Below w1.heap.size w1 wr))
  case atStart => exact ⟨0, rfl, by omega, HN3, HB3⟩
  case round =>
    clear HN3 HB3 e2'
    obtain ⟨k, rfl, hk, HNk, HBk⟩ := hrel
    obtain ⟨wk, rfl⟩ : ∃ x, x = wr := ⟨_, rfl⟩
    have hzk := HBk.out.size
    obtain ⟨oa, on, oc, rfl⟩ := HNk.out.slice
    have r2 : wk.cell? ⟨w.heap.size, 2, none⟩ = some (.slice a n c) := (HBk.out.cell (p := ⟨w.heap.size, 2, none⟩) m1).trans HC2.out
    by_cases hkn : k < n
    · have hki : (k : Int) < (n : Int) := by omega
      obtain ⟨g, rfl⟩ : ∃ x, gk = x + 1 := ⟨gk - 1, by omega⟩
      obtain ⟨b, o, rfl, hbw, hx0⟩ := HC.out (by omega)
      obtain ⟨y, hy, -⟩ := at_lt (xs := xs) (k := k) (by have := HN.out; omega)
      obtain ⟨f0, f1, f2⟩ := hx0 k y hy
      obtain ⟨⟨i0, i1⟩, ⟨i2, i3⟩, i4, i5⟩ := HA.out y (List.mem_of_getElem? hy)
      have g0 : wk.cell? ⟨b, o + k * 3, none⟩ = some (.int .i64 y.1) := (HBk.out.cell (p := ⟨b, o + k * 3, none⟩) (by simp; omega)).trans ((HA0.out.cell (p := ⟨b, o + k * 3, none⟩) hbw).trans f0)
      have g1 : wk.cell? ⟨b, o + k * 3 + 1, none⟩ = some (.int .i64 y.2.1) := (HBk.out.cell (p := ⟨b, o + k * 3 + 1, none⟩) (by simp; omega)).trans ((HA0.out.cell (p := ⟨b, o + k * 3 + 1, none⟩) hbw).trans f1)
      have g2 : wk.cell? ⟨b, o + k * 3 + 2, none⟩ = some (.int .i64 y.2.2) := (HBk.out.cell (p := ⟨b, o + k * 3 + 2, none⟩) (by simp; omega)).trans ((HA0.out.cell (p := ⟨b, o + k * 3 + 2, none⟩) hbw).trans f2)
      have HPk := Lib.hid (show PT.take (k + 2) ++ [arcTxt y] = PT.take (k + 3) from take_snoc' (by rw [HP.out]; simp [hy]))
      have hPl := Lib.hid (show (PT.take (k + 2)).length ≤ 1048578 from by rw [List.length_take]; omega)
      obtain ⟨y0, y1, y2⟩ := y
      simp only at g0 g1 g2 i0 i1 i2 i3 i4 i5
      obtain ⟨p0, rfl⟩ := Int.eq_ofNat_of_zero_le i0
      obtain ⟨p1, rfl⟩ := Int.eq_ofNat_of_zero_le i2
      obtain ⟨p2, rfl⟩ := Int.eq_ofNat_of_zero_le i4
      try simp only [Int.ofNat_eq_natCast] at g0 g1 g2 HPk i1 i3 i5
      have Ht := Lib.hid (show arcTxt ((p0 : Int), (p1 : Int), (p2 : Int)) = (fmtN p0 ++ letrB p2) ++ fmtN p1 from rfl)
      have hc1 := letrB_size p2
      have hz0 := fmt_size (m := p0) (by omega)
      have hz1 := fmt_size (m := p1) (by omega)
      have Hf0 := Lib.hid (fun w => impl_FormatInt_c (w := w) (m := p0) (by omega))
      have Hf1 := Lib.hid (fun w => impl_FormatInt_c (w := w) (m := p1) (by omega))
      rw [Ht.out] at HPk
      have Hcv := Lib.hid (fun wz B h => letr_conv (wz := wz) (B := B) (p := p2) (by omega) h)
      generalize fmtN p0 = F0 at HPk hz0 Hf0
      generalize fmtN p1 = F1 at HPk hz1 Hf1
      generalize letrB (p2 : Int) = ch at HPk hc1 Hcv
      obtain ⟨U0, hU0⟩ : ∃ x, F0 ++ ch = x := ⟨_, rfl⟩
      have hU0z : U0.size ≤ 3 := by rw [← hU0, bs_size]; omega
      rw [hU0] at HPk
      obtain ⟨U1, hU1⟩ : ∃ x, U0 ++ F1 = x := ⟨_, rfl⟩
      rw [hU1] at HPk
      have hs0 : ¬ (9223372036854775807 < F0.size + ch.size) := by omega
      have hs1 : ¬ (9223372036854775807 < U0.size + F1.size) := by omega
      rw [hc1] at hs0
      have hk97 : IntKind.i64.wrap (97 + (p2 : Int)) = 97 + (p2 : Int) := IntWalk.i64_in _ (by omega)
      have hk98 : IntKind.u8.wrap (97 + (p2 : Int)) = 97 + (p2 : Int) := IntWalk.u8_in _ (by omega)
      clear hx0 hy f0 f1 f2 Ht HC2 HC HA HA0 HP
      go_wp2
      obtain ⟨wn, ex, hbn, d0, d1, d2, mn⟩ := boxA3_ex wk 68 (.int .i64 p0) (.int .i64 p1) (.int .i64 p2)
      rw [ex]
      have HEx := Lib.hid ex
      clear ex g0 g1 g2
      have hzn := hbn.size
      have hS0 : wn.cell? ⟨wk.heap.size, 0, none⟩ = some (.int .i64 p0) ∧ wn.cell? ⟨wk.heap.size, 1, none⟩ = some (.int .i64 p1) ∧ wn.cell? ⟨wk.heap.size, 2, none⟩ = some (.int .i64 p2) := ⟨d0, d1, d2⟩
      have hSd : wn.drew.cell? ⟨wk.heap.size, 0, none⟩ = some (.int .i64 p0) ∧ wn.drew.cell? ⟨wk.heap.size, 1, none⟩ = some (.int .i64 p1) ∧ wn.drew.cell? ⟨wk.heap.size, 2, none⟩ = some (.int .i64 p2) := hS0
      obtain ⟨w5, e5⟩ : ∃ x, x = (wn.alloc (.cells #[.int .u8 (97 + (p2 : Int))] 5)).drew := ⟨_, rfl⟩
      have hb5 : Below wn.heap.size wn w5 := by rw [e5]; exact ((Below.refl _ _).alloc (Nat.le_refl _) _).drew
      have hz5 : w5.heap.size = wn.heap.size + 1 := by rw [e5]; simp
      have hS1 : w5.cell? ⟨wk.heap.size, 0, none⟩ = some (.int .i64 p0) ∧ w5.cell? ⟨wk.heap.size, 1, none⟩ = some (.int .i64 p1) ∧ w5.cell? ⟨wk.heap.size, 2, none⟩ = some (.int .i64 p2) := ⟨(hb5.cell (p := ⟨wk.heap.size, 0, none⟩) mn).trans d0, (hb5.cell (p := ⟨wk.heap.size, 1, none⟩) mn).trans d1, (hb5.cell (p := ⟨wk.heap.size, 2, none⟩) mn).trans d2⟩
      have hcv := Hcv.out w5 wn.heap.size (by rw [e5]; exact World.cell?_alloc_at _ _ _ 0 rfl)
      have hS2 : (w5.alloc (.cells #[.string U1] 9)).cell? ⟨wk.heap.size, 0, none⟩ = some (.int .i64 p0) ∧ (w5.alloc (.cells #[.string U1] 9)).cell? ⟨wk.heap.size, 1, none⟩ = some (.int .i64 p1) ∧ (w5.alloc (.cells #[.string U1] 9)).cell? ⟨wk.heap.size, 2, none⟩ = some (.int .i64 p2) := ⟨(World.cell?_alloc_lt _ _ ⟨wk.heap.size, 0, none⟩ (by show wk.heap.size < w5.heap.size; omega)).trans hS1.1, (World.cell?_alloc_lt _ _ ⟨wk.heap.size, 1, none⟩ (by show wk.heap.size < w5.heap.size; omega)).trans hS1.2.1, (World.cell?_alloc_lt _ _ ⟨wk.heap.size, 2, none⟩ (by show wk.heap.size < w5.heap.size; omega)).trans hS1.2.2⟩
      obtain ⟨a6, n6, c6, w6, hr6, hn6, hb6, hS3⟩ := pushArc HNk.out hzk HEx.out hb5 U1 (by have := hPl.out; omega)
      have Hr6 := Lib.hid hr6
      have Hn6 := Lib.hid hn6
      have Hb7 := Lib.hid hb6
      clear hr6 hn6 hb6
      have e5s := e5.symm
      clear e5 d0 d1 d2 hb5 r2
      have Hz5 := Lib.hid hz5
      clear hz5
      refine wp_region_L (fun w' => w'.cell? ⟨wk.heap.size, 0, none⟩ = some (.int .i64 p0) ∧ w'.cell? ⟨wk.heap.size, 1, none⟩ = some (.int .i64 p1) ∧ w'.cell? ⟨wk.heap.size, 2, none⟩ = some (.int .i64 p2)) (by kernel_rfl) ?_
      refine wpAnyL_take 0 (v := ?_) rfl (by kernel_rfl) (by kernel_rfl) (by kernel_rfl) (by kernel_rfl) (fun _ _ _ h => h) (Or.inl ⟨by rfl, ?_⟩) hSd ?_
      rotate_left
      · (intro w hSw; (try dsimp only at hSw); go_simp) <;> (try with_reducible rfl)
      try simp only [Act.put, List.setIfInBounds_toArray, List.set_cons_zero, List.set_cons_succ]
      refine wpAnyL_take 1 (v := ?_) rfl (by kernel_rfl) (by kernel_rfl) (by kernel_rfl) (by kernel_rfl) (fun _ _ _ h => h) (Or.inl ⟨by rfl, ?_⟩) hSd ?_
      rotate_left
      · (intro w hSw; (try dsimp only at hSw); go_simp) <;> (try with_reducible rfl)
      try simp only [Act.put, List.setIfInBounds_toArray, List.set_cons_zero, List.set_cons_succ]
      refine wpAnyL_take 2 (v := ?_) rfl (by kernel_rfl) (by kernel_rfl) (by kernel_rfl) (by kernel_rfl) (fun _ _ _ h => h) (Or.inl ⟨by rfl, ?_⟩) hSd ?_
      rotate_left
      · (intro w hSw; (try dsimp only at hSw); go_simp) <;> (try with_reducible rfl)
      try simp only [Act.put, List.setIfInBounds_toArray, List.set_cons_zero, List.set_cons_succ]
      refine wpAnyL_take 4 (v := ?_) rfl (by kernel_rfl) (by kernel_rfl) (by kernel_rfl) (by kernel_rfl) (fun _ _ _ h => h) (Or.inl ⟨by rfl, ?_⟩) hSd ?_
      rotate_left
      · (intro w hSw; (try dsimp only at hSw); go_simp) <;> (try with_reducible rfl)
      try simp only [Act.put, List.setIfInBounds_toArray, List.set_cons_zero, List.set_cons_succ]
      refine wpAnyL_take 5 (v := ?_) rfl (by kernel_rfl) (by kernel_rfl) (by kernel_rfl) (by kernel_rfl) (fun _ _ _ h => h) (Or.inl ⟨by rfl, ?_⟩) hSd ?_
      rotate_left
      · (intro w hSw; (try dsimp only at hSw); go_simp) <;> (try with_reducible rfl)
      try simp only [Act.put, List.setIfInBounds_toArray, List.set_cons_zero, List.set_cons_succ]
      refine wpAnyL_take 6 (v := ?_) rfl (by kernel_rfl) (by kernel_rfl) (by kernel_rfl) (by kernel_rfl) (fun _ _ _ h => h) (Or.inl ⟨by rfl, ?_⟩) hSd ?_
      rotate_left
      · (intro w hSw; (try dsimp only at hSw); go_simp) <;> (try with_reducible rfl)
      try simp only [Act.put, List.setIfInBounds_toArray, List.set_cons_zero, List.set_cons_succ]
      refine wpAnyL_take 7 (v := ?_) rfl (by kernel_rfl) (by kernel_rfl) (by kernel_rfl) (by kernel_rfl) (fun _ _ _ h => h) (Or.inl ⟨by rfl, ?_⟩) hSd ?_
      rotate_left
      · (intro w hSw; (try dsimp only at hSw); go_simp) <;> (try with_reducible rfl)
      try simp only [Act.put, List.setIfInBounds_toArray, List.set_cons_zero, List.set_cons_succ]
      refine wpAnyL_take 11 (v := ?_) rfl (by kernel_rfl) (by kernel_rfl) (by kernel_rfl) (by kernel_rfl) (fun _ _ _ h => h) (Or.inl ⟨by rfl, ?_⟩) hSd ?_
      rotate_left
      · (intro w hSw; (try dsimp only at hSw); go_simp) <;> (try with_reducible rfl)
      try simp only [Act.put, List.setIfInBounds_toArray, List.set_cons_zero, List.set_cons_succ]
      refine wpAnyL_take 12 (v := ?_) rfl (by kernel_rfl) (by kernel_rfl) (by kernel_rfl) (by kernel_rfl) (fun _ _ _ h => h) (Or.inl ⟨by rfl, ?_⟩) hSd ?_
      rotate_left
      · (intro w hSw; (try dsimp only at hSw); go_simp) <;> (try with_reducible rfl)
      try simp only [Act.put, List.setIfInBounds_toArray, List.set_cons_zero, List.set_cons_succ]
      refine wpAnyL_two 3 8 (by kernel_rfl) rfl rfl (fun K hK => ?_) (fun K hK => ?_)
      · go_simp
        (with_reducible refine (Hf0.out _).mono ?_)
        rintro e w' ⟨rfl, rfl⟩
        go_wp2_with fail
        refine hK.out _ _ (fun _ => hSd) ?_
        clear hK K
        try simp only [Act.put, List.setIfInBounds_toArray, List.set_cons_zero, List.set_cons_succ]
        refine wpAnyL_two 8 13 (by kernel_rfl) rfl rfl (fun K hK => ?_) (fun K hK => ?_)
        · go_simp
          refine hK.out _ _ (fun _ => hS1) ?_
          clear hK K
          try simp only [Act.put, List.setIfInBounds_toArray, List.set_cons_zero, List.set_cons_succ]
          refine wpAnyL_two 9 13 (by kernel_rfl) rfl rfl (fun K hK => ?_) (fun K hK => ?_)
          · go_simp
            refine hK.out _ _ (fun _ => hS1) ?_
            clear hK K
            try simp only [Act.put, List.setIfInBounds_toArray, List.set_cons_zero, List.set_cons_succ]
            refine wpAnyL_take 10 (v := ?_) rfl (by kernel_rfl) (by kernel_rfl) (by kernel_rfl) (by kernel_rfl) (fun _ _ _ h => h) (Or.inl ⟨by rfl, ?_⟩) hS1 ?_
            rotate_left
            · (intro w hSw; (try dsimp only at hSw); go_simp) <;> (try with_reducible rfl)
            try simp only [Act.put, List.setIfInBounds_toArray, List.set_cons_zero, List.set_cons_succ]
            refine wpAnyL_one 13 (by kernel_rfl) rfl (fun K hK => ?_)
            go_simp
            (with_reducible refine (Hf1.out _).mono ?_)
            rintro e w' ⟨rfl, rfl⟩
            go_wp2_with fail
            refine hK.out _ _ (fun _ => hS1) ?_
            clear hK K
            try simp only [Act.put, List.setIfInBounds_toArray, List.set_cons_zero, List.set_cons_succ]
            refine wpAnyL_take 14 (v := ?_) rfl (by kernel_rfl) (by kernel_rfl) (by kernel_rfl) (by kernel_rfl) (fun _ _ _ h => h) (Or.inl ⟨by rfl, ?_⟩) hS1 ?_
            rotate_left
            · (intro w hSw; (try dsimp only at hSw); go_simp) <;> (try with_reducible rfl)
            try simp only [Act.put, List.setIfInBounds_toArray, List.set_cons_zero, List.set_cons_succ]
            refine wpAnyL_one 15 (by kernel_rfl) rfl (fun K hK => ?_)
            go_simp
            refine hK.out _ _ (fun _ => hS2) ?_
            clear hK K
            try simp only [Act.put, List.setIfInBounds_toArray, List.set_cons_zero, List.set_cons_succ]
            refine wpAnyL_one 16 (by kernel_rfl) rfl (fun K hK => ?_)
            refine step_append_run (by rfl) (.tmp 23) (.tmp 38) 29 (by rfl) (by rfl) (by rfl) Hr6.out ?_
            refine hK.out _ _ (fun _ => hS3) ?_
            clear hK K
            try simp only [Act.put, List.setIfInBounds_toArray, List.set_cons_zero, List.set_cons_succ]
            refine wpAnyL_one 17 (by kernel_rfl) rfl (fun K hK => ?_)
            go_simp
            refine hK.out _ _ (fun h => absurd h (not_rem (by kernel_rfl))) ?_
            clear hK K
            try simp only [Act.put, List.setIfInBounds_toArray, List.set_cons_zero, List.set_cons_succ]
            refine wpAnyL_done (by kernel_rfl) ?_ _
            go_wp2
            go_roundg g
            case measure => omega
            case rel => exact ⟨k + 1, by go_num, by omega, Lib.hid (by rw [← HPk.out]; exact Hn6.out), Lib.hid (HBk.out.trans Hb7.out)⟩
          · go_simp
            (with_reducible refine (Hf1.out _).mono ?_)
            rintro e w' ⟨rfl, rfl⟩
            go_wp2_with fail
            refine hK.out _ _ (fun _ => hS1) ?_
            clear hK K
            try simp only [Act.put, List.setIfInBounds_toArray, List.set_cons_zero, List.set_cons_succ]
            refine wpAnyL_one 9 (by kernel_rfl) rfl (fun K hK => ?_)
            go_simp
            refine hK.out _ _ (fun _ => hS1) ?_
            clear hK K
            try simp only [Act.put, List.setIfInBounds_toArray, List.set_cons_zero, List.set_cons_succ]
            refine wpAnyL_take 10 (v := ?_) rfl (by kernel_rfl) (by kernel_rfl) (by kernel_rfl) (by kernel_rfl) (fun _ _ _ h => h) (Or.inl ⟨by rfl, ?_⟩) hS1 ?_
            rotate_left
            · (intro w hSw; (try dsimp only at hSw); go_simp) <;> (try with_reducible rfl)
            try simp only [Act.put, List.setIfInBounds_toArray, List.set_cons_zero, List.set_cons_succ]
            refine wpAnyL_take 14 (v := ?_) rfl (by kernel_rfl) (by kernel_rfl) (by kernel_rfl) (by kernel_rfl) (fun _ _ _ h => h) (Or.inl ⟨by rfl, ?_⟩) hS1 ?_
            rotate_left
            · (intro w hSw; (try dsimp only at hSw); go_simp) <;> (try with_reducible rfl)
            try simp only [Act.put, List.setIfInBounds_toArray, List.set_cons_zero, List.set_cons_succ]
            refine wpAnyL_one 15 (by kernel_rfl) rfl (fun K hK => ?_)
            go_simp
            refine hK.out _ _ (fun _ => hS2) ?_
            clear hK K
            try simp only [Act.put, List.setIfInBounds_toArray, List.set_cons_zero, List.set_cons_succ]
            refine wpAnyL_one 16 (by kernel_rfl) rfl (fun K hK => ?_)
            refine step_append_run (by rfl) (.tmp 23) (.tmp 38) 29 (by rfl) (by rfl) (by rfl) Hr6.out ?_
            refine hK.out _ _ (fun _ => hS3) ?_
            clear hK K
            try simp only [Act.put, List.setIfInBounds_toArray, List.set_cons_zero, List.set_cons_succ]
            refine wpAnyL_one 17 (by kernel_rfl) rfl (fun K hK => ?_)
            go_simp
            refine hK.out _ _ (fun h => absurd h (not_rem (by kernel_rfl))) ?_
            clear hK K
            try simp only [Act.put, List.setIfInBounds_toArray, List.set_cons_zero, List.set_cons_succ]
            refine wpAnyL_done (by kernel_rfl) ?_ _
            go_wp2
            go_roundg g
            case measure => omega
            case rel => exact ⟨k + 1, by go_num, by omega, Lib.hid (by rw [← HPk.out]; exact Hn6.out), Lib.hid (HBk.out.trans Hb7.out)⟩
        · go_simp
          (with_reducible refine (Hf1.out _).mono ?_)
          rintro e w' ⟨rfl, rfl⟩
          go_wp2_with fail
          refine hK.out _ _ (fun _ => hSd) ?_
          clear hK K
          try simp only [Act.put, List.setIfInBounds_toArray, List.set_cons_zero, List.set_cons_succ]
          refine wpAnyL_one 8 (by kernel_rfl) rfl (fun K hK => ?_)
          go_simp
          refine hK.out _ _ (fun _ => hS1) ?_
          clear hK K
          try simp only [Act.put, List.setIfInBounds_toArray, List.set_cons_zero, List.set_cons_succ]
          refine wpAnyL_one 9 (by kernel_rfl) rfl (fun K hK => ?_)
          go_simp
          refine hK.out _ _ (fun _ => hS1) ?_
          clear hK K
          try simp only [Act.put, List.setIfInBounds_toArray, List.set_cons_zero, List.set_cons_succ]
          refine wpAnyL_take 10 (v := ?_) rfl (by kernel_rfl) (by kernel_rfl) (by kernel_rfl) (by kernel_rfl) (fun _ _ _ h => h) (Or.inl ⟨by rfl, ?_⟩) hS1 ?_
          rotate_left
          · (intro w hSw; (try dsimp only at hSw); go_simp) <;> (try with_reducible rfl)
          try simp only [Act.put, List.setIfInBounds_toArray, List.set_cons_zero, List.set_cons_succ]
          refine wpAnyL_take 14 (v := ?_) rfl (by kernel_rfl) (by kernel_rfl) (by kernel_rfl) (by kernel_rfl) (fun _ _ _ h => h) (Or.inl ⟨by rfl, ?_⟩) hS1 ?_
          rotate_left
          · (intro w hSw; (try dsimp only at hSw); go_simp) <;> (try with_reducible rfl)
          try simp only [Act.put, List.setIfInBounds_toArray, List.set_cons_zero, List.set_cons_succ]
          refine wpAnyL_one 15 (by kernel_rfl) rfl (fun K hK => ?_)
          go_simp
          refine hK.out _ _ (fun _ => hS2) ?_
          clear hK K
          try simp only [Act.put, List.setIfInBounds_toArray, List.set_cons_zero, List.set_cons_succ]
          refine wpAnyL_one 16 (by kernel_rfl) rfl (fun K hK => ?_)
          refine step_append_run (by rfl) (.tmp 23) (.tmp 38) 29 (by rfl) (by rfl) (by rfl) Hr6.out ?_
          refine hK.out _ _ (fun _ => hS3) ?_
          clear hK K
          try simp only [Act.put, List.setIfInBounds_toArray, List.set_cons_zero, List.set_cons_succ]
          refine wpAnyL_one 17 (by kernel_rfl) rfl (fun K hK => ?_)
          go_simp
          refine hK.out _ _ (fun h => absurd h (not_rem (by kernel_rfl))) ?_
          clear hK K
          try simp only [Act.put, List.setIfInBounds_toArray, List.set_cons_zero, List.set_cons_succ]
          refine wpAnyL_done (by kernel_rfl) ?_ _
          go_wp2
          go_roundg g
          case measure => omega
          case rel => exact ⟨k + 1, by go_num, by omega, Lib.hid (by rw [← HPk.out]; exact Hn6.out), Lib.hid (HBk.out.trans Hb7.out)⟩
      · go_simp
        refine hK.out _ _ (fun _ => hS1) ?_
        clear hK K
        try simp only [Act.put, List.setIfInBounds_toArray, List.set_cons_zero, List.set_cons_succ]
        refine wpAnyL_two 3 9 (by kernel_rfl) rfl rfl (fun K hK => ?_) (fun K hK => ?_)
        · go_simp
          (with_reducible refine (Hf0.out _).mono ?_)
          rintro e w' ⟨rfl, rfl⟩
          go_wp2_with fail
          refine hK.out _ _ (fun _ => hS1) ?_
          clear hK K
          try simp only [Act.put, List.setIfInBounds_toArray, List.set_cons_zero, List.set_cons_succ]
          refine wpAnyL_two 9 13 (by kernel_rfl) rfl rfl (fun K hK => ?_) (fun K hK => ?_)
          · go_simp
            refine hK.out _ _ (fun _ => hS1) ?_
            clear hK K
            try simp only [Act.put, List.setIfInBounds_toArray, List.set_cons_zero, List.set_cons_succ]
            refine wpAnyL_take 10 (v := ?_) rfl (by kernel_rfl) (by kernel_rfl) (by kernel_rfl) (by kernel_rfl) (fun _ _ _ h => h) (Or.inl ⟨by rfl, ?_⟩) hS1 ?_
            rotate_left
            · (intro w hSw; (try dsimp only at hSw); go_simp) <;> (try with_reducible rfl)
            try simp only [Act.put, List.setIfInBounds_toArray, List.set_cons_zero, List.set_cons_succ]
            refine wpAnyL_one 13 (by kernel_rfl) rfl (fun K hK => ?_)
            go_simp
            (with_reducible refine (Hf1.out _).mono ?_)
            rintro e w' ⟨rfl, rfl⟩
            go_wp2_with fail
            refine hK.out _ _ (fun _ => hS1) ?_
            clear hK K
            try simp only [Act.put, List.setIfInBounds_toArray, List.set_cons_zero, List.set_cons_succ]
            refine wpAnyL_take 14 (v := ?_) rfl (by kernel_rfl) (by kernel_rfl) (by kernel_rfl) (by kernel_rfl) (fun _ _ _ h => h) (Or.inl ⟨by rfl, ?_⟩) hS1 ?_
            rotate_left
            · (intro w hSw; (try dsimp only at hSw); go_simp) <;> (try with_reducible rfl)
            try simp only [Act.put, List.setIfInBounds_toArray, List.set_cons_zero, List.set_cons_succ]
            refine wpAnyL_one 15 (by kernel_rfl) rfl (fun K hK => ?_)
            go_simp
            refine hK.out _ _ (fun _ => hS2) ?_
            clear hK K
            try simp only [Act.put, List.setIfInBounds_toArray, List.set_cons_zero, List.set_cons_succ]
            refine wpAnyL_one 16 (by kernel_rfl) rfl (fun K hK => ?_)
            refine step_append_run (by rfl) (.tmp 23) (.tmp 38) 29 (by rfl) (by rfl) (by rfl) Hr6.out ?_
            refine hK.out _ _ (fun _ => hS3) ?_
            clear hK K
            try simp only [Act.put, List.setIfInBounds_toArray, List.set_cons_zero, List.set_cons_succ]
            refine wpAnyL_one 17 (by kernel_rfl) rfl (fun K hK => ?_)
            go_simp
            refine hK.out _ _ (fun h => absurd h (not_rem (by kernel_rfl))) ?_
            clear hK K
            try simp only [Act.put, List.setIfInBounds_toArray, List.set_cons_zero, List.set_cons_succ]
            refine wpAnyL_done (by kernel_rfl) ?_ _
            go_wp2
            go_roundg g
            case measure => omega
            case rel => exact ⟨k + 1, by go_num, by omega, Lib.hid (by rw [← HPk.out]; exact Hn6.out), Lib.hid (HBk.out.trans Hb7.out)⟩
          · go_simp
            (with_reducible refine (Hf1.out _).mono ?_)
            rintro e w' ⟨rfl, rfl⟩
            go_wp2_with fail
            refine hK.out _ _ (fun _ => hS1) ?_
            clear hK K
            try simp only [Act.put, List.setIfInBounds_toArray, List.set_cons_zero, List.set_cons_succ]
            refine wpAnyL_one 9 (by kernel_rfl) rfl (fun K hK => ?_)
            go_simp
            refine hK.out _ _ (fun _ => hS1) ?_
            clear hK K
            try simp only [Act.put, List.setIfInBounds_toArray, List.set_cons_zero, List.set_cons_succ]
            refine wpAnyL_take 10 (v := ?_) rfl (by kernel_rfl) (by kernel_rfl) (by kernel_rfl) (by kernel_rfl) (fun _ _ _ h => h) (Or.inl ⟨by rfl, ?_⟩) hS1 ?_
            rotate_left
            · (intro w hSw; (try dsimp only at hSw); go_simp) <;> (try with_reducible rfl)
            try simp only [Act.put, List.setIfInBounds_toArray, List.set_cons_zero, List.set_cons_succ]
            refine wpAnyL_take 14 (v := ?_) rfl (by kernel_rfl) (by kernel_rfl) (by kernel_rfl) (by kernel_rfl) (fun _ _ _ h => h) (Or.inl ⟨by rfl, ?_⟩) hS1 ?_
            rotate_left
            · (intro w hSw; (try dsimp only at hSw); go_simp) <;> (try with_reducible rfl)
            try simp only [Act.put, List.setIfInBounds_toArray, List.set_cons_zero, List.set_cons_succ]
            refine wpAnyL_one 15 (by kernel_rfl) rfl (fun K hK => ?_)
            go_simp
            refine hK.out _ _ (fun _ => hS2) ?_
            clear hK K
            try simp only [Act.put, List.setIfInBounds_toArray, List.set_cons_zero, List.set_cons_succ]
            refine wpAnyL_one 16 (by kernel_rfl) rfl (fun K hK => ?_)
            refine step_append_run (by rfl) (.tmp 23) (.tmp 38) 29 (by rfl) (by rfl) (by rfl) Hr6.out ?_
            refine hK.out _ _ (fun _ => hS3) ?_
            clear hK K
            try simp only [Act.put, List.setIfInBounds_toArray, List.set_cons_zero, List.set_cons_succ]
            refine wpAnyL_one 17 (by kernel_rfl) rfl (fun K hK => ?_)
            go_simp
            refine hK.out _ _ (fun h => absurd h (not_rem (by kernel_rfl))) ?_
            clear hK K
            try simp only [Act.put, List.setIfInBounds_toArray, List.set_cons_zero, List.set_cons_succ]
            refine wpAnyL_done (by kernel_rfl) ?_ _
            go_wp2
            go_roundg g
            case measure => omega
            case rel => exact ⟨k + 1, by go_num, by omega, Lib.hid (by rw [← HPk.out]; exact Hn6.out), Lib.hid (HBk.out.trans Hb7.out)⟩
        · go_simp
          refine hK.out _ _ (fun _ => hS1) ?_
          clear hK K
          try simp only [Act.put, List.setIfInBounds_toArray, List.set_cons_zero, List.set_cons_succ]
          refine wpAnyL_one 3 (by kernel_rfl) rfl (fun K hK => ?_)
          go_simp
          (with_reducible refine (Hf0.out _).mono ?_)
          rintro e w' ⟨rfl, rfl⟩
          go_wp2_with fail
          refine hK.out _ _ (fun _ => hS1) ?_
          clear hK K
          try simp only [Act.put, List.setIfInBounds_toArray, List.set_cons_zero, List.set_cons_succ]
          refine wpAnyL_take 10 (v := ?_) rfl (by kernel_rfl) (by kernel_rfl) (by kernel_rfl) (by kernel_rfl) (fun _ _ _ h => h) (Or.inl ⟨by rfl, ?_⟩) hS1 ?_
          rotate_left
          · (intro w hSw; (try dsimp only at hSw); go_simp) <;> (try with_reducible rfl)
          try simp only [Act.put, List.setIfInBounds_toArray, List.set_cons_zero, List.set_cons_succ]
          refine wpAnyL_one 13 (by kernel_rfl) rfl (fun K hK => ?_)
          go_simp
          (with_reducible refine (Hf1.out _).mono ?_)
          rintro e w' ⟨rfl, rfl⟩
          go_wp2_with fail
          refine hK.out _ _ (fun _ => hS1) ?_
          clear hK K
          try simp only [Act.put, List.setIfInBounds_toArray, List.set_cons_zero, List.set_cons_succ]
          refine wpAnyL_take 14 (v := ?_) rfl (by kernel_rfl) (by kernel_rfl) (by kernel_rfl) (by kernel_rfl) (fun _ _ _ h => h) (Or.inl ⟨by rfl, ?_⟩) hS1 ?_
          rotate_left
          · (intro w hSw; (try dsimp only at hSw); go_simp) <;> (try with_reducible rfl)
          try simp only [Act.put, List.setIfInBounds_toArray, List.set_cons_zero, List.set_cons_succ]
          refine wpAnyL_one 15 (by kernel_rfl) rfl (fun K hK => ?_)
          go_simp
          refine hK.out _ _ (fun _ => hS2) ?_
          clear hK K
          try simp only [Act.put, List.setIfInBounds_toArray, List.set_cons_zero, List.set_cons_succ]
          refine wpAnyL_one 16 (by kernel_rfl) rfl (fun K hK => ?_)
          refine step_append_run (by rfl) (.tmp 23) (.tmp 38) 29 (by rfl) (by rfl) (by rfl) Hr6.out ?_
          refine hK.out _ _ (fun _ => hS3) ?_
          clear hK K
          try simp only [Act.put, List.setIfInBounds_toArray, List.set_cons_zero, List.set_cons_succ]
          refine wpAnyL_one 17 (by kernel_rfl) rfl (fun K hK => ?_)
          go_simp
          refine hK.out _ _ (fun h => absurd h (not_rem (by kernel_rfl))) ?_
          clear hK K
          try simp only [Act.put, List.setIfInBounds_toArray, List.set_cons_zero, List.set_cons_succ]
          refine wpAnyL_done (by kernel_rfl) ?_ _
          go_wp2
          go_roundg g
          case measure => omega
          case rel => exact ⟨k + 1, by go_num, by omega, Lib.hid (by rw [← HPk.out]; exact Hn6.out), Lib.hid (HBk.out.trans Hb7.out)⟩
    · have hki : ¬ ((k : Int) < (n : Int)) := by omega
      have hPE := Lib.hid (show PT.take (k + 2) = PT from List.take_of_length_le (by have h1 := HP.out; have h2 := HN.out; rw [h1]; simp; omega))
      have hPL := Lib.hid (show PT.length = n + 2 from by have h1 := HP.out; have h2 := HN.out; rw [h1]; simp; omega)
      have HJn := Lib.hid (fun (wz : World) (h : TxR wz (.slice oa on oc) PT) => impl_Join_c (sep := ⟨#[32]⟩) h (by have := hPL.out; omega) (by have := hPL.out; omega) HJ.out)
      have HTx := Lib.hid (show TxR wk (.slice oa on oc) PT from by obtain ⟨F, hF, _⟩ := HNk.out; rw [hPE.out] at hF; exact OwnOf.reads (fun _ _ _ _ h => h.1) hF)
      have HW := Lib.hid (HA0.out.trans (HBk.out.mono hzw))
      clear HC HA HP HNk HC2
      go_wp2_with fail
      (with_reducible refine (HJn.out _ HTx.out).mono ?_)
      rintro e w9 ⟨rfl, hb9⟩
      have HW9 := Lib.hid (HW.out.trans (hb9.mono HW.out.size))
      clear hb9
      go_wp2
      go_ret
      exact ⟨by rw [HX.out]; rfl, HW9.out⟩
set_option maxHeartbeats 4000000 in
set_option maxRecDepth 100000 in
theorem spec_LabelsText_c {w : World} {v : Value} {l : Lb} (h : LabR w v l) (hn : l.2.2.length ≤ 1048576) :
    Calls Tryz.prog 30 #[v] w fun e w' => e = .returned (.string (labText l)) ∧ Below w.heap.size w w' := by
  have H1 := Lib.hid (fun w1 (hb : Below w.heap.size w w1) => spec_IsLabels_c (LabR.frame _ _ _ _ h hb))
  have H0 := Lib.hid (show labText l = if isLab l = true then joinB (labParts l) ⟨#[32]⟩ else ⟨#[]⟩ from rfl)
  generalize labText l = T at H0 ⊢
  by_cases hil : ¬ isLab l = true
  · have HF := Lib.hid (show T = ⟨#[]⟩ from by rw [H0.out, if_neg hil])
    rw [show isLab l = false by simpa using hil] at H1
    clear H0 hil hn
    obtain ⟨L, S, xs⟩ := l
    obtain ⟨va, rfl, _, a, c, rfl, _, _, _, _⟩ := h
    simp only at *
    generalize xs.length = n at *
    go_enter Tryz.func30, Tryz.ntmps30
    go_wp2_with fail
    obtain ⟨w1, ex, A0, c0, c1, c2, m1⟩ := boxA3_ex w 26 (.int .i64 L) (.int .i64 S) (.slice a n c)
    change Calls Tryz.prog _ _ (w.alloc (.cells #[.int .i64 L, .int .i64 S, .slice a n c] 26)) _
    rw [ex]
    clear ex
    (with_reducible refine (H1.out _ A0).mono ?_)
    rintro e w2 ⟨rfl, hb⟩
    replace A0 := A0.trans (hb.mono A0.size)
    clear hb
    go_wp2
    go_ret
    exact ⟨by rw [HF.out]; rfl, A0⟩
  replace hil := Decidable.not_not.1 hil
  have HX := Lib.hid (show T = joinB (labParts l) ⟨#[32]⟩ from by rw [H0.out, if_pos hil])
  have HJ := Lib.hid (labParts_join hil hn)
  have HA := Lib.hid (isLab_arc hil)
  obtain ⟨-, hS1, hS2, hL1, hL2⟩ := isLab_ok hil
  rw [hil] at H1
  clear H0 hil
  obtain ⟨L, S, xs⟩ := l
  obtain ⟨va, rfl, _, a, c, rfl, _, _, _, hcell⟩ := h
  simp only at *
  have HP := Lib.hid (show labParts (L, S, xs) = [fmtN L.toNat, fmtN S.toNat] ++ xs.map arcTxt from rfl)
  generalize labParts (L, S, xs) = PT at HX HJ HP
  obtain ⟨P, rfl⟩ := Int.eq_ofNat_of_zero_le (show 0 ≤ L by omega)
  obtain ⟨Q, rfl⟩ := Int.eq_ofNat_of_zero_le (show 0 ≤ S by omega)
  simp only [Int.ofNat_eq_natCast, Int.toNat_natCast] at *
  have HfP := Lib.hid (fun w => FormatInt_c (w := w) (m := P) (by omega))
  have HfQ := Lib.hid (fun w => FormatInt_c (w := w) (m := Q) (by omega))
  generalize fmtN P = fP at HP HfP
  generalize fmtN Q = fQ at HP HfQ
  obtain ⟨n, hnn⟩ : ∃ n, n = xs.length := ⟨_, rfl⟩
  have HN := Lib.hid hnn
  have HC := Lib.hid hcell
  rw [← hnn] at HC hn H1 ⊢
  clear hnn hcell
  go_enter Tryz.func30, Tryz.ntmps30
  go_wp2_with fail
  obtain ⟨w1, ex, A0, c0, c1, c2, m1⟩ := boxA3_ex w 26 (.int .i64 P) (.int .i64 Q) (.slice a n c)
  change Calls Tryz.prog _ _ (w.alloc (.cells #[.int .i64 P, .int .i64 Q, .slice a n c] 26)) _
  rw [ex]
  clear ex
  (with_reducible refine (H1.out _ A0).mono ?_)
  rintro e w2 ⟨rfl, hb⟩
  have HD := Lib.hid hb
  have hz12 := hb.size
  have e0 := (hb.cell (p := ⟨w.heap.size, 0, none⟩) m1).trans c0
  have e1 := (hb.cell (p := ⟨w.heap.size, 1, none⟩) m1).trans c1
  have e2 := (hb.cell (p := ⟨w.heap.size, 2, none⟩) m1).trans c2
  have HC2 := Lib.hid c2
  have HA0 := Lib.hid A0
  have hzw := A0.size
  clear hb H1 c0 c1 c2 A0
  go_wp2
  have hS0 : w2.cell? ⟨w.heap.size, 0, none⟩ = some (.int .i64 P) ∧ w2.cell? ⟨w.heap.size, 1, none⟩ = some (.int .i64 Q) ∧ w2.cell? ⟨w.heap.size, 2, none⟩ = some (.slice a n c) := ⟨e0, e1, e2⟩
  have hSd : w2.drew.cell? ⟨w.heap.size, 0, none⟩ = some (.int .i64 P) ∧ w2.drew.cell? ⟨w.heap.size, 1, none⟩ = some (.int .i64 Q) ∧ w2.drew.cell? ⟨w.heap.size, 2, none⟩ = some (.slice a n c) := hS0
  have HSx := Lib.hid (fun (wz : World) (hb3 : Below w2.heap.size w2 wz) => (show wz.cell? ⟨w.heap.size, 0, none⟩ = some (.int .i64 P) ∧ wz.cell? ⟨w.heap.size, 1, none⟩ = some (.int .i64 Q) ∧ wz.cell? ⟨w.heap.size, 2, none⟩ = some (.slice a n c) from ⟨(hb3.cell (p := ⟨w.heap.size, 0, none⟩) (by simp; omega)).trans e0, (hb3.cell (p := ⟨w.heap.size, 1, none⟩) (by simp; omega)).trans e1, (hb3.cell (p := ⟨w.heap.size, 2, none⟩) (by simp; omega)).trans e2⟩))
  have B1 := (Below.refl w2.heap.size w2).drew
  go_region_held3 (fun w' => w'.cell? ⟨w.heap.size, 0, none⟩ = some (.int .i64 P) ∧ w'.cell? ⟨w.heap.size, 1, none⟩ = some (.int .i64 Q) ∧ w'.cell? ⟨w.heap.size, 2, none⟩ = some (.slice a n c))
    (first | with_reducible exact hT2 | with_reducible exact hT1 | with_reducible exact hSd | with_reducible exact hS0 | go_keep)
    ((first
      | (go_at_call 68; (with_reducible refine (HfP.out _).mono ?_); rintro e wq2 ⟨rfl, hb⟩; have B2 := B1.trans (hb.mono B1.size); have hT1 := HSx.out _ B2; clear hb)
      | (go_at_call 68; (with_reducible refine (HfQ.out _).mono ?_); rintro e wq3 ⟨rfl, hb⟩; have B3 := B2.trans (hb.mono B2.size); have hT2 := HSx.out _ B3; clear hb)
      | fail))
  have hbX : Below w1.heap.size w1 wq3 := HD.out.trans (B3.mono hz12)
  obtain ⟨w3, e3⟩ : ∃ x, x = (wq3.alloc (.cells #[.string fP, .string fQ] 9)) := ⟨_, rfl⟩
  rw [← e3]
  have hzX : w1.heap.size ≤ wq3.heap.size := hbX.size
  have HN3 := Lib.hid (show New (OStrL 9) w1.heap.size w3 (.slice (some ⟨wq3.heap.size, 0, none⟩) 2 2) (PT.take 2) from by
    have h2 : PT.take 2 = [fP, fQ] := by rw [HP.out]; rfl
    rw [h2, e3]
    have h := New.lit (e := 9) (f := Value.string) (w := wq3) [fP, fQ] (by simp)
    exact (h).mono hzX)
  have HB3 := Lib.hid (show Below w1.heap.size w1 w3 from by rw [e3]; exact (hbX.alloc hzX _))
  have e2' : w3.cell? ⟨w.heap.size, 2, none⟩ = some (.slice a n c) := (HB3.out.cell (p := ⟨w.heap.size, 2, none⟩) m1).trans HC2.out
  clear e3 hbX hzX HD hz12 e0 e1 e2 hS0 hSd HSx B1 B2 B3 hT1 hT2
  go_wp2
  go_loopg [3, 4] n (fun g ov iv wr => ∃ (k : Nat), iv = .int .i64 k ∧ k + g = n ∧ Hid (New (OStrL 9) w1.heap.size wr ov (PT.take (k + 2))) ∧ Hid (Below w1.heap.size w1 wr))
  case atStart => exact ⟨0, rfl, by omega, HN3, HB3⟩
  case round =>
    clear HN3 HB3 e2'
    obtain ⟨k, rfl, hk, HNk, HBk⟩ := hrel
    obtain ⟨wk, rfl⟩ : ∃ x, x = wr := ⟨_, rfl⟩
    have hzk := HBk.out.size
    obtain ⟨oa, on, oc, rfl⟩ := HNk.out.slice
    have r2 : wk.cell? ⟨w.heap.size, 2, none⟩ = some (.slice a n c) := (HBk.out.cell (p := ⟨w.heap.size, 2, none⟩) m1).trans HC2.out
    by_cases hkn : k < n
    · have hki : (k : Int) < (n : Int) := by omega
      obtain ⟨g, rfl⟩ : ∃ x, gk = x + 1 := ⟨gk - 1, by omega⟩
      obtain ⟨b, o, rfl, hbw, hx0⟩ := HC.out (by omega)
      obtain ⟨y, hy, -⟩ := at_lt (xs := xs) (k := k) (by have := HN.out; omega)
      obtain ⟨f0, f1, f2⟩ := hx0 k y hy
      obtain ⟨⟨i0, i1⟩, ⟨i2, i3⟩, i4, i5⟩ := HA.out y (List.mem_of_getElem? hy)
      have g0 : wk.cell? ⟨b, o + k * 3, none⟩ = some (.int .i64 y.1) := (HBk.out.cell (p := ⟨b, o + k * 3, none⟩) (by simp; omega)).trans ((HA0.out.cell (p := ⟨b, o + k * 3, none⟩) hbw).trans f0)
      have g1 : wk.cell? ⟨b, o + k * 3 + 1, none⟩ = some (.int .i64 y.2.1) := (HBk.out.cell (p := ⟨b, o + k * 3 + 1, none⟩) (by simp; omega)).trans ((HA0.out.cell (p := ⟨b, o + k * 3 + 1, none⟩) hbw).trans f1)
      have g2 : wk.cell? ⟨b, o + k * 3 + 2, none⟩ = some (.int .i64 y.2.2) := (HBk.out.cell (p := ⟨b, o + k * 3 + 2, none⟩) (by simp; omega)).trans ((HA0.out.cell (p := ⟨b, o + k * 3 + 2, none⟩) hbw).trans f2)
      have HPk := Lib.hid (show PT.take (k + 2) ++ [arcTxt y] = PT.take (k + 3) from take_snoc' (by rw [HP.out]; simp [hy]))
      have hPl := Lib.hid (show (PT.take (k + 2)).length ≤ 1048578 from by rw [List.length_take]; omega)
      obtain ⟨y0, y1, y2⟩ := y
      simp only at g0 g1 g2 i0 i1 i2 i3 i4 i5
      obtain ⟨p0, rfl⟩ := Int.eq_ofNat_of_zero_le i0
      obtain ⟨p1, rfl⟩ := Int.eq_ofNat_of_zero_le i2
      obtain ⟨p2, rfl⟩ := Int.eq_ofNat_of_zero_le i4
      try simp only [Int.ofNat_eq_natCast] at g0 g1 g2 HPk i1 i3 i5
      have Ht := Lib.hid (show arcTxt ((p0 : Int), (p1 : Int), (p2 : Int)) = (fmtN p0 ++ letrB p2) ++ fmtN p1 from rfl)
      have hc1 := letrB_size p2
      have hz0 := fmt_size (m := p0) (by omega)
      have hz1 := fmt_size (m := p1) (by omega)
      have Hf0 := Lib.hid (fun w => FormatInt_c (w := w) (m := p0) (by omega))
      have Hf1 := Lib.hid (fun w => FormatInt_c (w := w) (m := p1) (by omega))
      rw [Ht.out] at HPk
      have HCh := Lib.hid (show wordT [p2] = letrB (p2 : Int) from by match p2, i5 with | 0, _ => rfl | 1, _ => rfl | 2, _ => rfl | q + 3, h => exact absurd h (by omega))
      generalize fmtN p0 = F0 at HPk hz0 Hf0
      generalize fmtN p1 = F1 at HPk hz1 Hf1
      generalize letrB (p2 : Int) = ch at HPk hc1 HCh
      obtain ⟨U0, hU0⟩ : ∃ x, F0 ++ ch = x := ⟨_, rfl⟩
      have hU0z : U0.size ≤ 3 := by rw [← hU0, bs_size]; omega
      rw [hU0] at HPk
      obtain ⟨U1, hU1⟩ : ∃ x, U0 ++ F1 = x := ⟨_, rfl⟩
      rw [hU1] at HPk
      have hs0 : ¬ (9223372036854775807 < F0.size + ch.size) := by omega
      have hs1 : ¬ (9223372036854775807 < U0.size + F1.size) := by omega
      rw [hc1] at hs0
      have hk97 : IntKind.i64.wrap (97 + (p2 : Int)) = 97 + (p2 : Int) := IntWalk.i64_in _ (by omega)
      have hk98 : IntKind.u8.wrap (97 + (p2 : Int)) = 97 + (p2 : Int) := IntWalk.u8_in _ (by omega)
      clear hx0 hy f0 f1 f2 Ht HC2 HC HA HA0 HP
      go_wp2
      obtain ⟨wn, ex, hbn, d0, d1, d2, mn⟩ := boxA3_ex wk 68 (.int .i64 p0) (.int .i64 p1) (.int .i64 p2)
      rw [ex]
      have HEx := Lib.hid ex
      clear ex g0 g1 g2
      have hzn := hbn.size
      have hS0 : wn.cell? ⟨wk.heap.size, 0, none⟩ = some (.int .i64 p0) ∧ wn.cell? ⟨wk.heap.size, 1, none⟩ = some (.int .i64 p1) ∧ wn.cell? ⟨wk.heap.size, 2, none⟩ = some (.int .i64 p2) := ⟨d0, d1, d2⟩
      have hSd : wn.drew.cell? ⟨wk.heap.size, 0, none⟩ = some (.int .i64 p0) ∧ wn.drew.cell? ⟨wk.heap.size, 1, none⟩ = some (.int .i64 p1) ∧ wn.drew.cell? ⟨wk.heap.size, 2, none⟩ = some (.int .i64 p2) := hS0
      have HSn := Lib.hid (fun (wz : World) (hb : Below wn.heap.size wn wz) => (show wz.cell? ⟨wk.heap.size, 0, none⟩ = some (.int .i64 p0) ∧ wz.cell? ⟨wk.heap.size, 1, none⟩ = some (.int .i64 p1) ∧ wz.cell? ⟨wk.heap.size, 2, none⟩ = some (.int .i64 p2) from ⟨(hb.cell (p := ⟨wk.heap.size, 0, none⟩) mn).trans d0, (hb.cell (p := ⟨wk.heap.size, 1, none⟩) mn).trans d1, (hb.cell (p := ⟨wk.heap.size, 2, none⟩) mn).trans d2⟩))
      have HPu := Lib.hid (fun (wz : World) (hb : Below wn.heap.size wn wz) => pushArc HNk.out hzk HEx.out hb U1 (by have := hPl.out; omega))
      have HSa := Lib.hid (fun (wz : World) (hb : Below wn.heap.size wn wz) => HSn.out _ (hb.alloc hb.size (.cells #[.string U1] 9)))
      have habc := fun w => abc_slice (x := p2) (by omega) w
      rw [HCh.out] at habc
      have hx3 : IntKind.i64.wrap ((p2 : Int) + 1) = (p2 : Int) + 1 := IntWalk.i64_in _ (by omega)
      have D1 := (Below.refl wn.heap.size wn).drew
      clear d0 d1 d2 r2
      go_region_held3 (fun w' => w'.cell? ⟨wk.heap.size, 0, none⟩ = some (.int .i64 p0) ∧ w'.cell? ⟨wk.heap.size, 1, none⟩ = some (.int .i64 p1) ∧ w'.cell? ⟨wk.heap.size, 2, none⟩ = some (.int .i64 p2))
        (first | with_reducible exact hS4 | with_reducible exact hS3 | with_reducible exact hS2 | with_reducible exact hS1 | with_reducible exact hSd | with_reducible exact hS0 | go_keep)
        ((first
          | (go_at_call 68; (with_reducible refine (Hf0.out _).mono ?_); rintro e wq4 ⟨rfl, hb⟩; have D2 := D1.trans (hb.mono D1.size); have hS1 := HSn.out _ D2; clear hb)
          | (go_at_call 68; (with_reducible refine (Hf1.out _).mono ?_); rintro e wq5 ⟨rfl, hb⟩; have D3 := D2.trans (hb.mono D2.size); have hS2 := HSn.out _ D3; have hS3 := HSa.out _ D3; obtain ⟨a6, n6, c6, w6, hr6, hn6, hb6, hS4⟩ := HPu.out _ D3; have Hr6 := Lib.hid hr6; have Hn6 := Lib.hid hn6; have Hb7 := Lib.hid hb6; clear hb hr6 hn6 hb6)
          | (refine step_append_run (by rfl) (.tmp 28) (.tmp 43) 29 (by rfl) (by rfl) (by rfl) Hr6.out ?_)
          | fail))
      all_goals (
        go_wp2
        go_roundg g
        case measure => omega
        case rel => exact ⟨k + 1, by go_num, by omega, Lib.hid (by rw [← HPk.out]; exact Hn6.out), Lib.hid (HBk.out.trans Hb7.out)⟩)
    · have hki : ¬ ((k : Int) < (n : Int)) := by omega
      have hPE := Lib.hid (show PT.take (k + 2) = PT from List.take_of_length_le (by have h1 := HP.out; have h2 := HN.out; rw [h1]; simp; omega))
      have hPL := Lib.hid (show PT.length = n + 2 from by have h1 := HP.out; have h2 := HN.out; rw [h1]; simp; omega)
      have HJn := Lib.hid (fun (wz : World) (h : TxR wz (.slice oa on oc) PT) => spec_Join_c (sep := ⟨#[32]⟩) h HJ.out)
      have HTx := Lib.hid (show TxR wk (.slice oa on oc) PT from by obtain ⟨F, hF, _⟩ := HNk.out; rw [hPE.out] at hF; exact OwnOf.reads (fun _ _ _ _ h => h.1) hF)
      have HW := Lib.hid (HA0.out.trans (HBk.out.mono hzw))
      clear HC HA HP HNk HC2
      go_wp2_with fail
      (with_reducible refine (HJn.out _ HTx.out).mono ?_)
      rintro e w9 ⟨rfl, hb9⟩
      have HW9 := Lib.hid (HW.out.trans (hb9.mono HW.out.size))
      clear hb9
      go_wp2
      go_ret
      exact ⟨by rw [HX.out]; rfl, HW9.out⟩
end Go.Proofs.YtcilgihmaaobeaaGreatDoor
end
