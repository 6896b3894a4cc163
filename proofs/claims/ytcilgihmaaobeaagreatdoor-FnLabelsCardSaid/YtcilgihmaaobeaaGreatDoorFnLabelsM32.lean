/-
  Laws for this claim's walks, contracts of the functions that it reaches.
-/
import Derived.Test.YtcilgihmaaobeaaGreatDoorFnLabelsM31
set_option linter.unusedVariables false
set_option linter.unusedSimpArgs false
section
namespace Go.Proofs.YtcilgihmaaobeaaGreatDoor
open Go.RowKit Go.Deep Go.Sd
set_option linter.unusedSimpArgs false
theorem Cur.box0 {lo : Nat} {w : World} {cb sb : Nat} {K a : Value} {n : Nat} {vs : List Value} {rs : List Res} (h : Cur lo w cb K n (Res.box sb (a :: vs) :: rs)) : w.cell? ⟨sb, 0, none⟩ = some a := ((h.out.headBox).2.2 0 a rfl).1
theorem Cur.perm2' {lo : Nat} {w : World} {cb : Nat} {K : Value} {n : Nat} {r s : Res} {rs : List Res} (h : Cur lo w cb K n (r :: s :: rs)) : Cur lo w cb K n (s :: r :: rs) := h.perm (List.Perm.swap _ _ _)
theorem Cur.store {lo : Nat} {w : World} {cb b : Nat} {K : Value} {n : Nat} {vs : List Value} {rs : List Res} (h : Cur lo w cb K n (Res.box b vs :: rs)) (hlo : lo ≤ w.heap.size) {j : Nat} {u0 : Value} (hj : vs[j]? = some u0) (u : Value) : Cur lo (w.setCell ⟨b, j, none⟩ u) cb K n (Res.box b (vs.set j u) :: rs) := by
  obtain ⟨i, x, hi, hs⟩ := h
  exact ⟨i, x, hi, (hs.swap.boxStore hlo hj u).swap⟩
theorem Cur.storeBelow {lo : Nat} {w0 w : World} {cb b : Nat} {K : Value} {n : Nat} {vs : List Value} {rs : List Res} (h : Cur lo w cb K n (Res.box b vs :: rs)) (hb : Below lo w0 w) (j : Nat) (u : Value) : Below lo w0 (w.setCell ⟨b, j, none⟩ u) := hb.setCell (p := ⟨b, j, none⟩) h.out.headBox.1 u
theorem Sep.conv {lo : Nat} {w : World} {r s : Res} {rs : List Res} (h : Sep lo w (r :: rs)) (hlo : lo ≤ w.heap.size) (hc : ∀ F, r.p w F → s.p w F) : Sep lo w (s :: rs) := by
  obtain ⟨G, hG, hf, hK⟩ := h.head
  exact hK w s G (hc G hG) hf.1 (fun b hb => Or.inl hb) hlo fun b _ _ => rfl
theorem Cur.conv {lo : Nat} {w : World} {cb : Nat} {K : Value} {n : Nat} {r s : Res} {rs : List Res} (h : Cur lo w cb K n (r :: rs)) (hlo : lo ≤ w.heap.size) (hc : ∀ F, r.p w F → s.p w F) : Cur lo w cb K n (s :: rs) := by
  obtain ⟨i, x, hi, hs⟩ := h
  exact ⟨i, x, hi, (Sep.conv hs.swap hlo hc).swap⟩
def l3Texts : List ByteArray := [⟨#[50, 32, 98, 98]⟩, ⟨#[50, 32, 97, 97, 32, 98, 98]⟩, ⟨#[50, 32, 97, 97, 98]⟩, ⟨#[51, 32, 97, 98, 32, 98, 99, 32, 99, 97]⟩, ⟨#[50]⟩, ⟨#[49]⟩, ⟨#[51, 32, 97, 97, 32, 98, 98, 32, 99, 99]⟩, ⟨#[50, 32, 97, 98, 97, 32, 98, 97, 98]⟩, ⟨#[50, 32, 97, 98]⟩, ⟨#[50, 32, 97, 97, 97, 32, 98, 98]⟩, ⟨#[51, 32, 97, 99, 32, 98, 98]⟩]
def l3Vals : List (Nat × List ByteArray) := [(2, [⟨#[98, 98]⟩]), (2, [⟨#[97, 97]⟩, ⟨#[98, 98]⟩]), (2, [⟨#[97, 97, 98]⟩]), (3, [⟨#[97, 98]⟩, ⟨#[98, 99]⟩, ⟨#[99, 97]⟩]), (2, []), (1, []), (3, [⟨#[97, 97]⟩, ⟨#[98, 98]⟩, ⟨#[99, 99]⟩]), (2, [⟨#[97, 98, 97]⟩, ⟨#[98, 97, 98]⟩]), (2, [⟨#[97, 98]⟩]), (2, [⟨#[97, 97, 97]⟩, ⟨#[98, 98]⟩]), (3, [⟨#[97, 99]⟩, ⟨#[98, 98]⟩])]
theorem l3Texts_ok : ∀ i, i < 11 → ((l3Texts.getD i ⟨#[]⟩).size ≤ 100 ∧ splitB (l3Texts.getD i ⟨#[]⟩) 32 = fmtN (l3Vals.getD i (0, [])).1 :: (l3Vals.getD i (0, [])).2 ∧ (l3Vals.getD i (0, [])).1 ≤ 9 ∧ (l3Vals.getD i (0, [])).2.length ≤ 8 ∧ ∀ f, f ∈ (l3Vals.getD i (0, [])).2 → f.size ≤ 8) := by
  have h : ((List.range 11).all fun i => decide ((l3Texts.getD i ⟨#[]⟩).size ≤ 100 ∧ splitB (l3Texts.getD i ⟨#[]⟩) 32 = fmtN (l3Vals.getD i (0, [])).1 :: (l3Vals.getD i (0, [])).2 ∧ (l3Vals.getD i (0, [])).1 ≤ 9 ∧ (l3Vals.getD i (0, [])).2.length ≤ 8 ∧ ∀ f, f ∈ (l3Vals.getD i (0, [])).2 → f.size ≤ 8)) = true := by decide +kernel
  intro i hi
  exact of_decide_eq_true (List.all_eq_true.1 h i (List.mem_range.2 hi))
theorem l3Texts_mem {x : ByteArray} (h : x ∈ l3Texts) : ∃ (d : Nat) (F : List ByteArray), x.size ≤ 100 ∧ splitB x 32 = fmtN d :: F ∧ d ≤ 9 ∧ F.length ≤ 8 ∧ ∀ f, f ∈ F → f.size ≤ 8 := by
  obtain ⟨i, hi⟩ := List.getElem?_of_mem h
  have h1 : i < 11 := (List.getElem?_eq_some_iff.1 hi).1
  have h2 := l3Texts_ok i h1
  rw [show l3Texts.getD i ⟨#[]⟩ = x from by simp [List.getD, hi]] at h2
  exact ⟨_, _, h2⟩
abbrev ResSh (v : Value) (z : Sh) : Res := Res.of OSh OSh.held v z
theorem OSh.slice {w : World} {v : Value} {z : Sh} {F : List Nat} (h : OSh w v z F) : ∃ a c, v = .agg #[.int .i64 z.1, .slice a z.2.length c] := by
  obtain ⟨va, rfl, h⟩ := h
  obtain ⟨a, c, rfl, -⟩ := (OwnOf.reads (fun _ _ _ _ h => h.1) h : TsR w va z.2).shape
  exact ⟨a, c, rfl⟩
set_option maxHeartbeats 4000000 in
set_option maxRecDepth 100000 in
theorem l3Draw_c {lo : Nat} {w : World} {cb : Nat} {K : Value} {xs : List Int} {rs : List Res} (hK : ∀ w', Below lo w w' → BytR w' K xs) (hc : Cur lo w cb K xs.length rs) (hlo : lo ≤ w.heap.size) :
    Calls Tryz.prog 80 #[.pointer (some ⟨cb, 0, none⟩)] w fun e w' => ∃ (v : Value) (z : Sh), e = .returned v ∧ SmSh z ∧ Cur lo w' cb K xs.length (ResSh v z :: rs) ∧ Below lo w w' := by
  have HK := Lib.hid hK
  have hcx := hc.box hlo [.int .i64 0, .slice none 0 0] 37
  obtain ⟨wA, eA⟩ : ∃ x, x = w.alloc (.cells #[.int .i64 0, .slice none 0 0] 37) := ⟨_, rfl⟩
  have hbA : Below w.heap.size w wA := by rw [eA]; exact (Below.refl _ _).alloc (Nat.le_refl _) _
  have HCA := Lib.hid (show Cur lo wA cb K xs.length (Res.box w.heap.size [.int .i64 0, .slice none 0 0] :: rs) from by rw [eA]; exact hcx)
  have HBA := Lib.hid (hbA.mono hlo)
  have hzA : lo ≤ wA.heap.size := Nat.le_trans hlo hbA.size
  have HO := Lib.hid (l1Once_i (z := 3) (fun w' hb => HK.out w' (HBA.out.trans hb)) HCA.out hzA (by omega) (by omega))
  have eAs := eA.symm
  clear hK hc hcx hbA eA
  go_enter Tryz.func80, Tryz.ntmps80
  go_wp2_with fail
  (with_reducible refine HO.out.mono ?_)
  rintro e w1 ⟨b, rfl, hc, hb, ho⟩
  have HC1 := Lib.hid hc
  have HB1 := Lib.hid (HBA.out.trans hb)
  have hz1 : lo ≤ w1.heap.size := Nat.le_trans hzA hb.size
  clear hc hb ho HO eAs HCA HBA hzA
  cases b with
  | true =>
    have hcx := Lib.hid (HC1.out.box hz1 (l3Texts.map Value.string) 9)
    obtain ⟨w2, e2⟩ : ∃ x, x = w1.alloc (.cells #[.string ⟨#[50, 32, 98, 98]⟩, .string ⟨#[50, 32, 97, 97, 32, 98, 98]⟩, .string ⟨#[50, 32, 97, 97, 98]⟩, .string ⟨#[51, 32, 97, 98, 32, 98, 99, 32, 99, 97]⟩, .string ⟨#[50]⟩, .string ⟨#[49]⟩, .string ⟨#[51, 32, 97, 97, 32, 98, 98, 32, 99, 99]⟩, .string ⟨#[50, 32, 97, 98, 97, 32, 98, 97, 98]⟩, .string ⟨#[50, 32, 97, 98]⟩, .string ⟨#[50, 32, 97, 97, 97, 32, 98, 98]⟩, .string ⟨#[51, 32, 97, 99, 32, 98, 98]⟩] 9) := ⟨_, rfl⟩
    have HC2 := Lib.hid (show Cur lo w2 cb K xs.length (Res.box w1.heap.size (l3Texts.map Value.string) :: Res.box w.heap.size [.int .i64 0, .slice none 0 0] :: rs) from by rw [e2]; exact hcx.out)
    have hb2 : Below w1.heap.size w1 w2 := by rw [e2]; exact (Below.refl _ _).alloc (Nat.le_refl _) _
    have HB2 := Lib.hid (HB1.out.trans (hb2.mono hz1))
    have hz2 : lo ≤ w2.heap.size := Nat.le_trans hz1 hb2.size
    have HP := Lib.hid (show Calls Tryz.prog 78 #[.pointer (some ⟨cb, 0, none⟩), .slice (some ⟨w1.heap.size, 0, none⟩) 11 11] w2 _ from l1Pick_c (ls := l3Texts) (c := 11) (fun w' hb => HK.out w' (HB2.out.trans hb)) HC2.out hz2 (by decide) (by decide))
    have e2s := e2.symm
    clear hcx hb2 e2
    go_wp2_with fail
    (with_reducible refine HP.out.mono ?_)
    rintro e w3 ⟨x, rfl, hx, hc, hb, ho⟩
    obtain ⟨d, F, h1, h2, h3, h4, h5⟩ := l3Texts_mem hx
    have HC3 := Lib.hid hc.rest
    have HB3 := Lib.hid (HB2.out.trans hb)
    have hz3 : lo ≤ w3.heap.size := Nat.le_trans hz2 hb.size
    have HM := Lib.hid (ParseShift_c (w := w3) h1 h2 h3 h4 h5)
    clear hx hc hb ho h1 h2 h3 h4 h5 e2s HP HC2 HB2
    go_wp2_with fail
    (with_reducible refine HM.out.mono ?_)
    rintro e w4 ⟨v, ok, z, rfl, hsm, hn, hb⟩
    obtain ⟨va, vc, rfl⟩ := OSh.slice (hn.choose_spec.1)
    have hc4 := HC3.out.new OSh.held hb hz3 hn
    have hz4 : lo ≤ w4.heap.size := Nat.le_trans hz3 hb.size
    have HB4 := Lib.hid (HB3.out.trans (hb.mono hz3))
    have HSm := Lib.hid hsm
    obtain ⟨w5, e5, hb5, c0, c1, m5⟩ := boxA_ex w4 37 (.int .i64 z.1) (.slice va z.2.length vc)
    have hc5 := (hc4.below hb5).perm2'
    have hz5 : lo ≤ w5.heap.size := Nat.le_trans hz4 hb5.size
    have HB5 := Lib.hid (HB4.out.trans (hb5.mono hz4))
    obtain ⟨-, -, hcl⟩ := hc5.out.headBox
    have r0 := (hcl 0 _ rfl).1
    have r1 := (hcl 1 _ rfl).1
    have f0 := (hcl 0 _ rfl).2
    have f1 := (hcl 1 _ rfl).2
    have hs1 := hc5.store hz5 (j := 0) rfl (.int .i64 z.1)
    have hB6 := hc5.storeBelow HB5.out 0 (.int .i64 z.1)
    have hs2 := hs1.store (by simpa using hz5) (j := 1) rfl (.slice va z.2.length vc)
    have hB7 := hs1.storeBelow hB6 1 (.slice va z.2.length vc)
    have HC7 := Lib.hid hs2.rest
    have HB7 := Lib.hid hB7
    have u1 := (World.cell?_setCell_other w5 ⟨w.heap.size, 0, none⟩ ⟨w.heap.size, 1, none⟩ (.int .i64 z.1) (by simp)).trans r1
    have S1 := Lib.hid (World.cell?_setCell_same _ _ (.slice va z.2.length vc) u1)
    have S0 := Lib.hid ((World.cell?_setCell_other (w5.setCell ⟨w.heap.size, 0, none⟩ (.int .i64 z.1)) ⟨w.heap.size, 1, none⟩ ⟨w.heap.size, 0, none⟩ (.slice va z.2.length vc) (by simp)).trans (World.cell?_setCell_same w5 _ (.int .i64 z.1) r0))
    generalize z.2.length = zl at *
    clear hn hb HM hsm hc4 hc5 hb5 hcl hs1 hB6 hs2 hB7 HB4 HB5 HC3 HB3 u1 HC1 HB1
    go_wp2_with fail
    refine bodyPost_ret (v := .agg #[.int .i64 z.1, .slice va zl vc]) (by simp [results, Tryz.results80, go_sem, S0.out, S1.out]) rfl ?_
    exact ⟨_, z, rfl, HSm.out, HC7.out, HB7.out⟩
  | false =>
    have hcx := Lib.hid (HC1.out.box hz1 (([1, 1, 2, 0] : List Int).map (Value.int .i64)) 3)
    obtain ⟨w2, e2⟩ : ∃ x, x = w1.alloc (.cells #[.int .i64 1, .int .i64 1, .int .i64 2, .int .i64 0] 3) := ⟨_, rfl⟩
    have HC2 := Lib.hid (show Cur lo w2 cb K xs.length (Res.box w1.heap.size (([1, 1, 2, 0] : List Int).map (Value.int .i64)) :: Res.box w.heap.size [.int .i64 0, .slice none 0 0] :: rs) from by rw [e2]; exact hcx.out)
    have hb2 : Below w1.heap.size w1 w2 := by rw [e2]; exact (Below.refl _ _).alloc (Nat.le_refl _) _
    have HB2 := Lib.hid (HB1.out.trans (hb2.mono hz1))
    have hz2 : lo ≤ w2.heap.size := Nat.le_trans hz1 hb2.size
    have HP := Lib.hid (show Calls Tryz.prog 36 #[.pointer (some ⟨cb, 0, none⟩), .slice (some ⟨w1.heap.size, 0, none⟩) 4 4] w2 _ from l1PickInt_c (ls := [1, 1, 2, 0]) (c := 4) (fun w' hb => HK.out w' (HB2.out.trans hb)) HC2.out hz2 (by decide) (by decide))
    have e2s := e2.symm
    clear hcx hb2 e2
    go_wp2_with fail
    (with_reducible refine HP.out.mono ?_)
    rintro e w3 ⟨y, rfl, hy, hc, hb, ho⟩
    obtain ⟨L, hL, hL1, hL3⟩ : ∃ L : Nat, IntKind.i64.wrap (1 + y) = (L : Int) ∧ 1 ≤ L ∧ L ≤ 3 := by
      simp only [List.mem_cons, List.not_mem_nil, or_false] at hy
      rcases hy with rfl | rfl | rfl | rfl
      · exact ⟨2, rfl, by decide, by decide⟩
      · exact ⟨2, rfl, by decide, by decide⟩
      · exact ⟨3, rfl, by decide, by decide⟩
      · exact ⟨1, rfl, by decide, by decide⟩
    have HC3 := Lib.hid hc.rest
    have HB3 := Lib.hid (HB2.out.trans hb)
    have hz3 : lo ≤ w3.heap.size := Nat.le_trans hz2 hb.size
    have hy2 : 1 + y = (L : Int) := by
      simp only [List.mem_cons, List.not_mem_nil, or_false] at hy
      rcases hy with rfl | rfl | rfl | rfl <;> (have h : _ = (L : Int) := hL; simp [IntKind.wrap_i64] at h; omega)
    obtain ⟨w4, e4, hb4, c0, c1, m4⟩ := boxA_ex w3 37 (.int .i64 (L : Int)) (.slice none 0 0)
    have hcx := HC3.out.box hz3 [.int .i64 (L : Int), .slice none 0 0] 37
    have HC4 := Lib.hid (show Cur lo w4 cb K xs.length (Res.box w3.heap.size [.int .i64 (L : Int), .slice none 0 0] :: Res.box w.heap.size [.int .i64 0, .slice none 0 0] :: rs) from by rw [← e4]; exact hcx)
    have HB4 := Lib.hid (HB3.out.trans (hb4.mono hz3))
    have hz4 : lo ≤ w4.heap.size := Nat.le_trans hz3 hb4.size
    have HO := Lib.hid (l1Below_i (z := 5) (fun w' hb => HK.out w' (HB4.out.trans hb)) HC4.out hz4 (by omega) (by omega))
    have HE4 := Lib.hid e4
    clear hy hc hb ho hcx hb4 HP HC2 HB2 e2s HC3 HB3 m4 c0 c1 e4 hy2
    go_wp2_with fail
    rw [HE4.out]
    (with_reducible refine HO.out.mono ?_)
    rintro e w5 ⟨x, rfl, hx, hc, hb, ho⟩
    have hx4 : x ≤ 4 := by have h : x < Int.toNat 5 := hx; simp at h; omega
    obtain ⟨sb, hsb⟩ : ∃ b, b = w3.heap.size := ⟨_, rfl⟩
    have hc0 := hc.below (w' := w5) (Below.refl _ _)
    obtain ⟨i0, h0, hi0, hs0⟩ := hc0
    have hs1 := hs0.new RowG.held (Below.refl _ _) (Nat.le_trans hz4 hb.size) (RowG.nil (e := 9) (sz := 1) (f := scell) (w := w5) (lo := w5.heap.size))
    have hc1 : Cur lo w5 cb K xs.length (Res.box w3.heap.size [.int .i64 (L : Int), .slice none 0 0] :: ResTx (.slice none 0 0) [] :: Res.box w.heap.size [.int .i64 0, .slice none 0 0] :: rs) := ⟨i0, h0, hi0, hs1.perm (List.Perm.trans (List.Perm.swap _ _ _) (List.Perm.cons _ (List.Perm.swap _ _ _)))⟩
    rw [← hsb] at hc1 ⊢
    have HC5 := Lib.hid hc1
    have HB5 := Lib.hid (HB4.out.trans hb)
    have HX := Lib.hid (show ([] : List ByteArray).length + x ≤ 4 ∧ ∀ f, f ∈ ([] : List ByteArray) → f.size ≤ 8 from ⟨by simpa using hx4, fun f h => by cases h⟩)
    have HL := Lib.hid (fun (ys : List ByteArray) (ya : Option Addr) (yn yc : Nat) (wk : World) (h : Cur lo wk cb K xs.length (Res.box sb [.int .i64 (L : Int), .slice ya yn yc] :: ResTx (.slice ya yn yc) ys :: Res.box w.heap.size [.int .i64 0, .slice none 0 0] :: rs)) => (show yn = ys.length from by
      obtain ⟨a', c', e, -⟩ := h.rest.out.rowAt scell_lay
      simp only [Value.slice.injEq] at e
      exact e.2.1))
    clear hx hc hb ho HO HE4 HC4 HB4 hs0 hs1 hc1 hsb hz4 hL
    go_wp2_with fail
    go_loopg [6, 7] x (fun g nv wv wr => ∃ (ys : List ByteArray) (ya : Option Addr) (yn yc : Nat), nv = .int .i64 (g : Nat) ∧ g ≤ 4 ∧ Hid (ys.length + g ≤ 4 ∧ ∀ f, f ∈ ys → f.size ≤ 8) ∧ Hid (Cur lo wr cb K xs.length (Res.box sb [.int .i64 (L : Int), .slice ya yn yc] :: ResTx (.slice ya yn yc) ys :: Res.box w.heap.size [.int .i64 0, .slice none 0 0] :: rs)) ∧ Hid (Below lo w wr))
    case atStart => exact ⟨[], none, 0, 0, rfl, hx4, HX, HC5, HB5⟩
    case round =>
      clear HX HC5 HB5 hx4
      obtain ⟨ys, ya, yn, yc, rfl, hg, HY, HC, HB⟩ := hrel
      obtain ⟨wk, rfl⟩ : ∃ x, x = wr := ⟨_, rfl⟩
      have hzk : lo ≤ wk.heap.size := Nat.le_trans hlo HB.out.size
      cases gk with
      | zero =>
        have hcS := HC.out
        have hlk := HL.out ys ya yn yc wk hcS
        subst hlk
        obtain ⟨-, -, hcl⟩ := hcS.out.headBox
        have c0 := (hcl 0 _ rfl).1
        have c1 := (hcl 1 _ rfl).1
        have hr := hcS.perm ((List.Perm.swap _ _ _).trans ((List.Perm.cons _ (List.Perm.swap _ _ _)).trans (List.Perm.swap _ _ _)))
        obtain ⟨-, -, hcr⟩ := hr.out.headBox
        have r0 := (hcr 0 _ rfl).1
        have r1 := (hcr 1 _ rfl).1
        have f0 := (hcr 0 _ rfl).2
        have f1 := (hcr 1 _ rfl).2
        have hs1 := hr.store hzk (j := 0) rfl (.int .i64 (L : Int))
        have hB6 := hr.storeBelow HB.out 0 (.int .i64 (L : Int))
        have hs2 := hs1.store (by simpa using hzk) (j := 1) rfl (.slice ya ys.length yc)
        have hB7 := hs1.storeBelow hB6 1 (.slice ya ys.length yc)
        have hcv := hs2.rest.perm2'.rest.conv (s := ResSh (.agg #[.int .i64 (L : Int), .slice ya ys.length yc]) ((L : Int), ys)) (by simpa using hzk) (fun F h => ⟨_, rfl, RowG.strs h⟩)
        have HC7 := Lib.hid hcv
        have HB7 := Lib.hid hB7
        have u1 := (World.cell?_setCell_other wk ⟨w.heap.size, 0, none⟩ ⟨w.heap.size, 1, none⟩ (.int .i64 (L : Int)) (by simp)).trans r1
        have S1 := Lib.hid (World.cell?_setCell_same _ _ (.slice ya ys.length yc) u1)
        have S0 := Lib.hid ((World.cell?_setCell_other (wk.setCell ⟨w.heap.size, 0, none⟩ (.int .i64 (L : Int))) ⟨w.heap.size, 1, none⟩ ⟨w.heap.size, 0, none⟩ (.slice ya ys.length yc) (by simp)).trans (World.cell?_setCell_same wk _ (.int .i64 (L : Int)) r0))
        have HSm := Lib.hid (show SmSh ((L : Int), ys) from ⟨by simp, by simp; omega, by have := HY.out.1; simp; omega, HY.out.2⟩)
        clear hcS hr hs1 hB6 hs2 hB7 hcv u1 hcl hcr HC HB HY
        go_wp2_with fail
        refine bodyPost_ret (v := .agg #[.int .i64 (L : Int), .slice ya ys.length yc]) (by simp [results, Tryz.results80, go_sem, S0.out, S1.out]) rfl ?_
        exact ⟨_, ((L : Int), ys), rfl, HSm.out, HC7.out, HB7.out⟩
      | succ g =>
        have hg0 : (0 : Int) < ((g + 1 : Nat) : Int) := by omega
        have hbd : Below wk.heap.size wk wk.drew := (Below.refl _ _).drew
        have HCd := Lib.hid (HC.out.below hbd)
        have HBd := Lib.hid (HB.out.trans (hbd.mono hzk))
        have hzd : lo ≤ wk.drew.heap.size := Nat.le_trans hzk hbd.size
        have hSd : wk.drew.cell? ⟨sb, 0, none⟩ = some (.int .i64 (L : Int)) := HCd.out.box0
        have HD := Lib.hid (show Calls Tryz.prog 41 #[.pointer (some ⟨cb, 0, none⟩), .int .i64 (L : Int), .int .i64 2] wk.drew _ from l2Draw_c (kk := L) (most := 2) (fun w' hb => HK.out w' (HBd.out.trans hb)) HCd.out hzd hL1 hL3 (by omega))
        have hL0 : (0 : Int) ≤ (L : Int) := by omega
        have hLi : (L : Int) ≤ 3 := by omega
        have hbx : Below wk.heap.size wk (wk.alloc (.cells #[.string ⟨#[97]⟩, .string ⟨#[98]⟩, .string ⟨#[99]⟩] 9)).drew := ((Below.refl _ _).alloc (Nat.le_refl _) _).drew
        have hcx := (HC.out.box hzk (abc3.map Value.string) 9).below (Below.refl _ _).drew
        obtain ⟨wb, eb⟩ : ∃ x, x = (wk.alloc (.cells #[.string ⟨#[97]⟩, .string ⟨#[98]⟩, .string ⟨#[99]⟩] 9)).drew := ⟨_, rfl⟩
        have HCb := Lib.hid (show Cur lo wb cb K xs.length (Res.box wk.heap.size (abc3.map Value.string) :: Res.box sb [.int .i64 (L : Int), .slice ya yn yc] :: ResTx (.slice ya yn yc) ys :: Res.box w.heap.size [.int .i64 0, .slice none 0 0] :: rs) from by rw [eb]; exact hcx)
        have HBb := Lib.hid (show Below lo w wb from by rw [eb]; exact HB.out.trans (hbx.mono hzk))
        have hzb : lo ≤ wb.heap.size := Nat.le_trans hlo HBb.out.size
        have hSb : wb.cell? ⟨sb, 0, none⟩ = some (.int .i64 (L : Int)) := HCb.out.rest.box0
        have HDb := Lib.hid (show Calls Tryz.prog 41 #[.pointer (some ⟨cb, 0, none⟩), .int .i64 (L : Int), .int .i64 2] wb _ from l2Draw_c (kk := L) (most := 2) (fun w' hb => HK.out w' (HBb.out.trans hb)) HCb.out hzb hL1 hL3 (by omega))
        have ebs := Lib.hid eb.symm
        clear hcx hbx hbd eb HC HB
        go_wp2_with fail
        refine wp_region_L (fun w' => w'.cell? ⟨sb, 0, none⟩ = some (.int .i64 (L : Int))) (by kernel_rfl) ?_
        refine wpAnyL_take 0 (v := ?_) rfl (by kernel_rfl) (by kernel_rfl) (by kernel_rfl) (by kernel_rfl) (fun _ _ _ h => h) (Or.inl ⟨by rfl, ?_⟩) hSd ?_
        rotate_left
        · (intro w hSw; (try dsimp only at hSw); go_simp) <;> (try with_reducible rfl)
        try simp only [Act.put, List.getElem_toArray, List.getElem_cons_zero, List.getElem_cons_succ, List.setIfInBounds_toArray, List.set_cons_zero, List.set_cons_succ]
        refine wpAnyL_take 1 (v := ?_) rfl (by kernel_rfl) (by kernel_rfl) (by kernel_rfl) (by kernel_rfl) (fun _ _ _ h => h) (Or.inl ⟨by rfl, ?_⟩) hSd ?_
        rotate_left
        · (intro w hSw; (try dsimp only at hSw); go_simp) <;> (try with_reducible rfl)
        try simp only [Act.put, List.getElem_toArray, List.getElem_cons_zero, List.getElem_cons_succ, List.setIfInBounds_toArray, List.set_cons_zero, List.set_cons_succ]
        refine wpAnyL_take 2 (v := ?_) rfl (by kernel_rfl) (by kernel_rfl) (by kernel_rfl) (by kernel_rfl) (fun _ _ _ h => h) (Or.inl ⟨by rfl, ?_⟩) hSd ?_
        rotate_left
        · (intro w hSw; (try dsimp only at hSw); go_simp) <;> (try with_reducible rfl)
        try simp only [Act.put, List.getElem_toArray, List.getElem_cons_zero, List.getElem_cons_succ, List.setIfInBounds_toArray, List.set_cons_zero, List.set_cons_succ]
        refine wpAnyL_take 4 (v := ?_) rfl (by kernel_rfl) (by kernel_rfl) (by kernel_rfl) (by kernel_rfl) (fun _ _ _ h => h) (Or.inl ⟨by rfl, ?_⟩) hSd ?_
        rotate_left
        · (intro w hSw; (try dsimp only at hSw); go_simp) <;> (try with_reducible rfl)
        try simp only [Act.put, List.getElem_toArray, List.getElem_cons_zero, List.getElem_cons_succ, List.setIfInBounds_toArray, List.set_cons_zero, List.set_cons_succ]
        refine wpAnyL_take 6 (v := ?_) rfl (by kernel_rfl) (by kernel_rfl) (by kernel_rfl) (by kernel_rfl) (fun _ _ _ h => h) (Or.inl ⟨by rfl, ?_⟩) hSd ?_
        rotate_left
        · (intro w hSw; (try dsimp only at hSw); go_simp) <;> (try with_reducible rfl)
        try simp only [Act.put, List.getElem_toArray, List.getElem_cons_zero, List.getElem_cons_succ, List.setIfInBounds_toArray, List.set_cons_zero, List.set_cons_succ]
        refine wpAnyL_take 7 (v := ?_) rfl (by kernel_rfl) (by kernel_rfl) (by kernel_rfl) (by kernel_rfl) (fun _ _ _ h => h) (Or.inl ⟨by rfl, ?_⟩) hSd ?_
        rotate_left
        · (intro w hSw; (try dsimp only at hSw); go_simp) <;> (try with_reducible rfl)
        try simp only [Act.put, List.getElem_toArray, List.getElem_cons_zero, List.getElem_cons_succ, List.setIfInBounds_toArray, List.set_cons_zero, List.set_cons_succ]
        refine wpAnyL_two 3 5 (by kernel_rfl) rfl rfl (fun K hK => ?_) (fun K hK => ?_)
        · go_simp
          (with_reducible refine HD.out.mono ?_)
          rintro e w2 ⟨u, rfl, hu, hc, hb, ho⟩
          have HC2 := Lib.hid hc
          have HB2 := Lib.hid (HBd.out.trans hb)
          have hz2 : lo ≤ w2.heap.size := Nat.le_trans hzd hb.size
          have hS2 : w2.cell? ⟨sb, 0, none⟩ = some (.int .i64 (L : Int)) := hc.box0
          clear hc hb ho HD HCd HBd HCb HBb HDb hSb ebs hzb
          go_wp2_with fail
          refine hK.out _ _ (fun _ => hS2) ?_
          clear hK K
          try simp only [Act.put, List.getElem_toArray, List.getElem_cons_zero, List.getElem_cons_succ, List.setIfInBounds_toArray, List.set_cons_zero, List.set_cons_succ]
          have hbx : Below w2.heap.size w2 (w2.alloc (.cells #[.string ⟨#[97]⟩, .string ⟨#[98]⟩, .string ⟨#[99]⟩] 9)) := (Below.refl _ _).alloc (Nat.le_refl _) _
          have hcx := HC2.out.box hz2 (abc3.map Value.string) 9
          obtain ⟨w3, e3⟩ : ∃ x, x = w2.alloc (.cells #[.string ⟨#[97]⟩, .string ⟨#[98]⟩, .string ⟨#[99]⟩] 9) := ⟨_, rfl⟩
          have HC3 := Lib.hid (show Cur lo w3 cb K xs.length (Res.box w2.heap.size (abc3.map Value.string) :: Res.box sb [.int .i64 (L : Int), .slice ya yn yc] :: ResTx (.slice ya yn yc) ys :: Res.box w.heap.size [.int .i64 0, .slice none 0 0] :: rs) from by rw [e3]; exact hcx)
          have HB3 := Lib.hid (show Below lo w w3 from by rw [e3]; exact HB2.out.trans (hbx.mono hz2))
          have hz3 : lo ≤ w3.heap.size := Nat.le_trans hlo HB3.out.size
          have hS3 : w3.cell? ⟨sb, 0, none⟩ = some (.int .i64 (L : Int)) := HC3.out.rest.box0
          have HP := Lib.hid (l1PickP_c (N := L) (c := 3) (ls := abc3) (fun w' hb => HK.out w' (HB3.out.trans hb)) HC3.out hz3 hL1 hL3 (by decide))
          clear hbx hcx HC2 HB2
          refine wpAnyL_one 5 (by kernel_rfl) rfl (fun K hK => ?_)
          go_simp
          refine hK.out _ _ (fun _ => (by rw [← e3]; exact hS3)) ?_
          clear hK K
          try simp only [Act.put, List.getElem_toArray, List.getElem_cons_zero, List.getElem_cons_succ, List.setIfInBounds_toArray, List.set_cons_zero, List.set_cons_succ]
          rw [← e3]
          clear e3
          refine wpAnyL_take 8 (v := ?_) rfl (by kernel_rfl) (by kernel_rfl) (by kernel_rfl) (by kernel_rfl) (fun _ _ _ h => h) (Or.inl ⟨by rfl, ?_⟩) hS3 ?_
          rotate_left
          · (intro w hSw; (try dsimp only at hSw); go_simp) <;> (try with_reducible rfl)
          try simp only [Act.put, List.getElem_toArray, List.getElem_cons_zero, List.getElem_cons_succ, List.setIfInBounds_toArray, List.set_cons_zero, List.set_cons_succ]
          refine wpAnyL_one 9 (by kernel_rfl) rfl (fun K hK => ?_)
          go_simp
          (with_reducible refine HP.out.mono ?_)
          rintro e w4 ⟨y, rfl, hy, hc, hb, ho⟩
          have hys := abc3_size hy
          have hcat : ¬ (9223372036854775807 < u.size + y.size) := by omega
          have HYs := Lib.hid hys
          clear hys
          have HC4 := Lib.hid hc.rest
          have HB4 := Lib.hid (HB3.out.trans hb)
          have hz4 : lo ≤ w4.heap.size := Nat.le_trans hz3 hb.size
          have hS4 : w4.cell? ⟨sb, 0, none⟩ = some (.int .i64 (L : Int)) := hc.rest.box0
          clear hc hb ho hy HP HC3 HB3
          go_wp2_with fail
          refine hK.out _ _ (fun _ => hS4) ?_
          clear hK K
          try simp only [Act.put, List.getElem_toArray, List.getElem_cons_zero, List.getElem_cons_succ, List.setIfInBounds_toArray, List.set_cons_zero, List.set_cons_succ]
          refine wpAnyL_take 10 (v := ?_) rfl (by kernel_rfl) (by kernel_rfl) (by kernel_rfl) (by kernel_rfl) (fun _ _ _ h => h) (Or.inl ⟨by rfl, ?_⟩) hS4 ?_
          rotate_left
          · (intro w hSw; (try dsimp only at hSw); go_simp) <;> (try with_reducible rfl)
          try simp only [Act.put, List.getElem_toArray, List.getElem_cons_zero, List.getElem_cons_succ, List.setIfInBounds_toArray, List.set_cons_zero, List.set_cons_succ]
          refine wpAnyL_one 11 (by kernel_rfl) rfl (fun K hK => ?_)
          go_simp
          refine hK.out _ _ (fun h => absurd h (not_rem (by kernel_rfl))) ?_
          clear hK K
          try simp only [Act.put, List.getElem_toArray, List.getElem_cons_zero, List.getElem_cons_succ, List.setIfInBounds_toArray, List.set_cons_zero, List.set_cons_succ]
          refine wpAnyL_done (by kernel_rfl) ?_ _
          obtain ⟨i4, h4, hi4, hs4⟩ := HC4.out
          have hlk := HL.out ys ya yn yc w4 HC4.out
          have hput := l2Put_c (x := u ++ y) (hs4.perm ((List.Perm.cons _ (List.Perm.swap _ _ _)).trans (List.Perm.swap _ _ _))) hz4 (by have := HY.out.1; omega)
          have HPut := Lib.hid hput
          obtain ⟨-, -, hcl⟩ := HC4.out.out.headBox
          have c1 := (hcl 1 _ rfl).1
          have HU := Lib.hid (show (u ++ y).size ≤ 8 from by rw [bs_size, HYs.out]; omega)
          generalize u ++ y = uy at HPut HU ⊢
          clear hs4 hput hcl hlk hS4 HYs hu hcat
          go_wp2_with fail
          (with_reducible refine HPut.out.mono ?_)
          rintro e w5 ⟨v', zs, rfl, hl, hs5, hb5⟩
          obtain ⟨za, zc, rfl, -⟩ := hs5.rowAt scell_lay
          have hc5 : Cur lo w5 cb K xs.length (Res.box sb [.int .i64 (L : Int), .slice ya yn yc] :: ResTx (.slice za zs.length zc) zs :: Res.box w.heap.size [.int .i64 0, .slice none 0 0] :: rs) := ⟨i4, h4, hi4, hs5.perm ((List.Perm.swap _ _ _).trans (List.Perm.cons _ (List.Perm.swap _ _ _)))⟩
          have hz5 : lo ≤ w5.heap.size := Nat.le_trans hz4 hb5.size
          have HB6 := Lib.hid (hc5.storeBelow (HB4.out.trans hb5) 1 (.slice za zs.length zc))
          have HC6 := Lib.hid (hc5.store hz5 (j := 1) rfl (.slice za zs.length zc))
          obtain ⟨-, -, hcl⟩ := hc5.out.headBox
          have d1 := (hcl 1 _ rfl).1
          have t1 := (hcl 1 _ rfl).2
          have HY6 := Lib.hid (show zs.length + g ≤ 4 ∧ ∀ f, f ∈ zs → f.size ≤ 8 from ⟨by have := HY.out.1; have := hl.1; omega, fun f hf => by
            rcases hl.2 f hf with e | e
            · rw [e]; exact HU.out
            · exact HY.out.2 f e⟩)
          obtain ⟨zl, hzl⟩ : ∃ zl, zl = zs.length := ⟨_, rfl⟩
          rw [← hzl] at HB6 HC6 ⊢
          clear hzl
          clear hl hs5 hb5 hc5 hcl HPut HC4 HB4 HU HY
          go_wp2_with fail
          go_roundg g
          case measure => omega
          case rel => exact ⟨zs, za, zl, zc, by go_num, by omega, HY6, HC6, HB6⟩
        · go_simp
          refine hK.out _ _ (fun _ => (by rw [ebs.out]; exact hSb)) ?_
          clear hK K
          try simp only [Act.put, List.getElem_toArray, List.getElem_cons_zero, List.getElem_cons_succ, List.setIfInBounds_toArray, List.set_cons_zero, List.set_cons_succ]
          rw [ebs.out]
          clear HD HCd HBd hSd hzd ebs
          refine wpAnyL_take 8 (v := ?_) rfl (by kernel_rfl) (by kernel_rfl) (by kernel_rfl) (by kernel_rfl) (fun _ _ _ h => h) (Or.inl ⟨by rfl, ?_⟩) hSb ?_
          rotate_left
          · (intro w hSw; (try dsimp only at hSw); go_simp) <;> (try with_reducible rfl)
          try simp only [Act.put, List.getElem_toArray, List.getElem_cons_zero, List.getElem_cons_succ, List.setIfInBounds_toArray, List.set_cons_zero, List.set_cons_succ]
          refine wpAnyL_one 3 (by kernel_rfl) rfl (fun K hK => ?_)
          go_simp
          (with_reducible refine HDb.out.mono ?_)
          rintro e w3 ⟨u, rfl, hu, hc, hb, ho⟩
          have HC3 := Lib.hid hc
          have HB3 := Lib.hid (HBb.out.trans hb)
          have hz3 : lo ≤ w3.heap.size := Nat.le_trans hzb hb.size
          have hS3 : w3.cell? ⟨sb, 0, none⟩ = some (.int .i64 (L : Int)) := hc.rest.box0
          have HP := Lib.hid (l1PickP_c (N := L) (c := 3) (ls := abc3) (fun w' hb => HK.out w' (HB3.out.trans hb)) HC3.out hz3 hL1 hL3 (by decide))
          clear hc hb ho HDb HCb HBb hSb hzb
          go_wp2_with fail
          refine hK.out _ _ (fun _ => hS3) ?_
          clear hK K
          try simp only [Act.put, List.getElem_toArray, List.getElem_cons_zero, List.getElem_cons_succ, List.setIfInBounds_toArray, List.set_cons_zero, List.set_cons_succ]
          refine wpAnyL_one 9 (by kernel_rfl) rfl (fun K hK => ?_)
          go_simp
          (with_reducible refine HP.out.mono ?_)
          rintro e w4 ⟨y, rfl, hy, hc, hb, ho⟩
          have hys := abc3_size hy
          have hcat : ¬ (9223372036854775807 < u.size + y.size) := by omega
          have HYs := Lib.hid hys
          clear hys
          have HC4 := Lib.hid hc.rest
          have HB4 := Lib.hid (HB3.out.trans hb)
          have hz4 : lo ≤ w4.heap.size := Nat.le_trans hz3 hb.size
          have hS4 : w4.cell? ⟨sb, 0, none⟩ = some (.int .i64 (L : Int)) := hc.rest.box0
          clear hc hb ho hy HP HC3 HB3
          go_wp2_with fail
          refine hK.out _ _ (fun _ => hS4) ?_
          clear hK K
          try simp only [Act.put, List.getElem_toArray, List.getElem_cons_zero, List.getElem_cons_succ, List.setIfInBounds_toArray, List.set_cons_zero, List.set_cons_succ]
          refine wpAnyL_take 10 (v := ?_) rfl (by kernel_rfl) (by kernel_rfl) (by kernel_rfl) (by kernel_rfl) (fun _ _ _ h => h) (Or.inl ⟨by rfl, ?_⟩) hS4 ?_
          rotate_left
          · (intro w hSw; (try dsimp only at hSw); go_simp) <;> (try with_reducible rfl)
          try simp only [Act.put, List.getElem_toArray, List.getElem_cons_zero, List.getElem_cons_succ, List.setIfInBounds_toArray, List.set_cons_zero, List.set_cons_succ]
          refine wpAnyL_one 11 (by kernel_rfl) rfl (fun K hK => ?_)
          go_simp
          refine hK.out _ _ (fun h => absurd h (not_rem (by kernel_rfl))) ?_
          clear hK K
          try simp only [Act.put, List.getElem_toArray, List.getElem_cons_zero, List.getElem_cons_succ, List.setIfInBounds_toArray, List.set_cons_zero, List.set_cons_succ]
          refine wpAnyL_done (by kernel_rfl) ?_ _
          obtain ⟨i4, h4, hi4, hs4⟩ := HC4.out
          have hlk := HL.out ys ya yn yc w4 HC4.out
          have hput := l2Put_c (x := u ++ y) (hs4.perm ((List.Perm.cons _ (List.Perm.swap _ _ _)).trans (List.Perm.swap _ _ _))) hz4 (by have := HY.out.1; omega)
          have HPut := Lib.hid hput
          obtain ⟨-, -, hcl⟩ := HC4.out.out.headBox
          have c1 := (hcl 1 _ rfl).1
          have HU := Lib.hid (show (u ++ y).size ≤ 8 from by rw [bs_size, HYs.out]; omega)
          generalize u ++ y = uy at HPut HU ⊢
          clear hs4 hput hcl hlk hS4 HYs hu hcat
          go_wp2_with fail
          (with_reducible refine HPut.out.mono ?_)
          rintro e w5 ⟨v', zs, rfl, hl, hs5, hb5⟩
          obtain ⟨za, zc, rfl, -⟩ := hs5.rowAt scell_lay
          have hc5 : Cur lo w5 cb K xs.length (Res.box sb [.int .i64 (L : Int), .slice ya yn yc] :: ResTx (.slice za zs.length zc) zs :: Res.box w.heap.size [.int .i64 0, .slice none 0 0] :: rs) := ⟨i4, h4, hi4, hs5.perm ((List.Perm.swap _ _ _).trans (List.Perm.cons _ (List.Perm.swap _ _ _)))⟩
          have hz5 : lo ≤ w5.heap.size := Nat.le_trans hz4 hb5.size
          have HB6 := Lib.hid (hc5.storeBelow (HB4.out.trans hb5) 1 (.slice za zs.length zc))
          have HC6 := Lib.hid (hc5.store hz5 (j := 1) rfl (.slice za zs.length zc))
          obtain ⟨-, -, hcl⟩ := hc5.out.headBox
          have d1 := (hcl 1 _ rfl).1
          have t1 := (hcl 1 _ rfl).2
          have HY6 := Lib.hid (show zs.length + g ≤ 4 ∧ ∀ f, f ∈ zs → f.size ≤ 8 from ⟨by have := HY.out.1; have := hl.1; omega, fun f hf => by
            rcases hl.2 f hf with e | e
            · rw [e]; exact HU.out
            · exact HY.out.2 f e⟩)
          obtain ⟨zl, hzl⟩ : ∃ zl, zl = zs.length := ⟨_, rfl⟩
          rw [← hzl] at HB6 HC6 ⊢
          clear hzl
          clear hl hs5 hb5 hc5 hcl HPut HC4 HB4 HU HY
          go_wp2_with fail
          go_roundg g
          case measure => omega
          case rel => exact ⟨zs, za, zl, zc, by go_num, by omega, HY6, HC6, HB6⟩
end Go.Proofs.YtcilgihmaaobeaaGreatDoor
end
