/-
  Texts of this claim joined: laws for its walks, contracts of the functions that the law reaches.
-/
import Derived.Test.YtcilgihmaaobeaaFnResolvedM8
import Derived.Test.YtcilgihmaaobeaaFnResolvedM7
import Derived.Test.YtcilgihmaaobeaaFnResolvedM5
import Derived.Deep.RegionHeld3
import Derived.Test.YtcilgihmaaobeaaFnResolvedM1
import Derived.Test.YtcilgihmaaobeaaFnResolvedM4
import Derived.Test.YtcilgihmaaobeaaFnResolvedM6
import Derived.Test.YtcilgihmaaobeaaRows
import Derived.IntWalk
import Derived.BigQuiet
import Derived.Laws.DeepStrings4
set_option linter.unusedVariables false
set_option linter.unusedSimpArgs false
section
namespace Go.Proofs.Ytcilgihmaaobeaa
open Go.RowKit Go.Deep Go.Sd
set_option linter.unusedSimpArgs false
theorem Cur.box0 {lo : Nat} {w : World} {cb sb : Nat} {K a : Value} {n : Nat} {vs : List Value} {rs : List Res} (h : Cur lo w cb K n (Res.box sb (a :: vs) :: rs)) : w.cell? ⟨sb, 0, none⟩ = some a := ((h.out.headBox).2.2 0 a rfl).1
theorem Cur.perm2' {lo : Nat} {w : World} {cb : Nat} {K : Value} {n : Nat} {r s : Res} {rs : List Res} (h : Cur lo w cb K n (r :: s :: rs)) : Cur lo w cb K n (s :: r :: rs) := h.perm (List.Perm.swap _ _ _)
theorem Cur.store {lo : Nat} {w : World} {cb b : Nat} {K : Value} {n : Nat} {vs : List Value} {rs : List Res} (h : Cur lo w cb K n (Res.box b vs :: rs)) (hlo : lo ≤ w.heap.size) {j : Nat} {u0 : Value} (hj : vs[j]? = some u0) (u : Value) : Cur lo (w.setCell ⟨b, j, none⟩ u) cb K n (Res.box b (vs.set j u) :: rs) := by
  obtain ⟨i, x, hi, hs⟩ := h
  exact ⟨i, x, hi, (hs.swap.boxStore hlo hj u).swap⟩
theorem Cur.storeBelow {lo : Nat} {w0 w : World} {cb b : Nat} {K : Value} {n : Nat} {vs : List Value} {rs : List Res} (h : Cur lo w cb K n (Res.box b vs :: rs)) (hb : Below lo w0 w) (j : Nat) (u : Value) : Below lo w0 (w.setCell ⟨b, j, none⟩ u) := hb.setCell (p := ⟨b, j, none⟩) h.out.headBox.1 u
theorem Sep.conv {lo : Nat} {w : World} {r s : Res} {rs : List Res} (h : Sep lo w (r :: rs)) (hlo : lo ≤ w.heap.size) (hc : ∀ F, r.p w F → s.p w F) : Sep lo w (s :: rs) := by
  obtain ⟨G, hG, hf, hK⟩ := h.head
  exact hK w s G (hc G hG) hf.1 (fun b hb => Or.inl hb) hlo fun b _ _ => rfl
theorem Cur.conv {lo : Nat} {w : World} {cb : Nat} {K : Value} {n : Nat} {r s : Res} {rs : List Res} (h : Cur lo w cb K n (r :: rs)) (hlo : lo ≤ w.heap.size) (hc : ∀ F, r.p w F → s.p w F) : Cur lo w cb K n (s :: rs) := by
  obtain ⟨i, x, hi, hs⟩ := h
  exact ⟨i, x, hi, (Sep.conv hs.swap hlo hc).swap⟩
def l3Texts : List ByteArray := [⟨#[50, 32, 98, 98]⟩, ⟨#[50, 32, 97, 97, 32, 98, 98]⟩, ⟨#[50, 32, 97, 97, 98]⟩, ⟨#[51, 32, 97, 98, 32, 98, 99, 32, 99, 97]⟩, ⟨#[50]⟩, ⟨#[49]⟩, ⟨#[51, 32, 97, 97, 32, 98, 98, 32, 99, 99]⟩, ⟨#[50, 32, 97, 98, 97, 32, 98, 97, 98]⟩, ⟨#[50, 32, 97, 98]⟩, ⟨#[50, 32, 97, 97, 97, 32, 98, 98]⟩, ⟨#[51, 32, 97, 99, 32, 98, 98]⟩]
def l3Vals : List (Nat × List ByteArray) := [(2, [⟨#[98, 98]⟩]), (2, [⟨#[97, 97]⟩, ⟨#[98, 98]⟩]), (2, [⟨#[97, 97, 98]⟩]), (3, [⟨#[97, 98]⟩, ⟨#[98, 99]⟩, ⟨#[99, 97]⟩]), (2, []), (1, []), (3, [⟨#[97, 97]⟩, ⟨#[98, 98]⟩, ⟨#[99, 99]⟩]), (2, [⟨#[97, 98, 97]⟩, ⟨#[98, 97, 98]⟩]), (2, [⟨#[97, 98]⟩]), (2, [⟨#[97, 97, 97]⟩, ⟨#[98, 98]⟩]), (3, [⟨#[97, 99]⟩, ⟨#[98, 98]⟩])]
theorem l3Texts_ok : ∀ i, i < 11 → ((l3Texts.getD i ⟨#[]⟩).size ≤ 100 ∧ splitB (l3Texts.getD i ⟨#[]⟩) 32 = fmtN (l3Vals.getD i (0, [])).1 :: (l3Vals.getD i (0, [])).2 ∧ (l3Vals.getD i (0, [])).1 ≤ 9 ∧ (l3Vals.getD i (0, [])).2.length ≤ 8 ∧ ∀ f, f ∈ (l3Vals.getD i (0, [])).2 → f.size ≤ 8) := by
  have h : ((List.range 11).all fun i => decide ((l3Texts.getD i ⟨#[]⟩).size ≤ 100 ∧ splitB (l3Texts.getD i ⟨#[]⟩) 32 = fmtN (l3Vals.getD i (0, [])).1 :: (l3Vals.getD i (0, [])).2 ∧ (l3Vals.getD i (0, [])).1 ≤ 9 ∧ (l3Vals.getD i (0, [])).2.length ≤ 8 ∧ ∀ f, f ∈ (l3Vals.getD i (0, [])).2 → f.size ≤ 8)) = true := by decide +kernel
  intro i hi
  exact of_decide_eq_true (List.all_eq_true.1 h i (List.mem_range.2 hi))
theorem l3Texts_mem {x : ByteArray} (h : x ∈ l3Texts) : ∃ (d : Nat) (F : List ByteArray), x.size ≤ 100 ∧ splitB x 32 = fmtN d :: F ∧ d ≤ 9 ∧ F.length ≤ 8 ∧ ∀ f, f ∈ F → f.size ≤ 8 := by
  obtain ⟨i, hi⟩ := List.getElem?_of_mem h
  have h1 : i < 11 := (List.getElem?_eq_some_iff.1 hi).1
  have h2 := l3Texts_ok i h1
  rw [show l3Texts.getD i ⟨#[]⟩ = x from by simp [List.getD, hi]] at h2
  exact ⟨_, _, h2⟩
abbrev ResSh (v : Value) (z : Sh) : Res := Res.of OSh OSh.held v z
theorem OSh.slice {w : World} {v : Value} {z : Sh} {F : List Nat} (h : OSh w v z F) : ∃ a c, v = .agg #[.int .i64 z.1, .slice a z.2.length c] := by
  obtain ⟨va, rfl, h⟩ := h
  obtain ⟨a, c, rfl, -⟩ := (OwnOf.reads (fun _ _ _ _ h => h.1) h : TsR w va z.2).shape
  exact ⟨a, c, rfl⟩
set_option maxHeartbeats 4000000 in
set_option maxRecDepth 100000 in
theorem l3Draw_c {lo : Nat} {w : World} {cb : Nat} {K : Value} {xs : List Int} {rs : List Res} (hK : ∀ w', Below lo w w' → BytR w' K xs) (hc : Cur lo w cb K xs.length rs) (hlo : lo ≤ w.heap.size) :
    Calls Try.prog 99 #[.pointer (some ⟨cb, 0, none⟩)] w fun e w' => ∃ (v : Value) (z : Sh), e = .returned v ∧ SmSh z ∧ Cur lo w' cb K xs.length (ResSh v z :: rs) ∧ Below lo w w' := by
  have HK := Lib.hid hK
  have hcx := hc.box hlo [.int .i64 0, .slice none 0 0] 44
  obtain ⟨wA, eA⟩ : ∃ x, x = w.alloc (.cells #[.int .i64 0, .slice none 0 0] 44) := ⟨_, rfl⟩
  have hbA : Below w.heap.size w wA := by rw [eA]; exact (Below.refl _ _).alloc (Nat.le_refl _) _
  have HCA := Lib.hid (show Cur lo wA cb K xs.length (Res.box w.heap.size [.int .i64 0, .slice none 0 0] :: rs) from by rw [eA]; exact hcx)
  have HBA := Lib.hid (hbA.mono hlo)
  have hzA : lo ≤ wA.heap.size := Nat.le_trans hlo hbA.size
  have HO := Lib.hid (l1Once_i (z := 3) (fun w' hb => HK.out w' (HBA.out.trans hb)) HCA.out hzA (by omega) (by omega))
  have eAs := eA.symm
  clear hK hc hcx hbA eA
  go_enter Try.func99, Try.ntmps99
  go_wp2_with fail
  (with_reducible refine HO.out.mono ?_)
  rintro e w1 ⟨b, rfl, hc, hb, ho⟩
  have HC1 := Lib.hid hc
  have HB1 := Lib.hid (HBA.out.trans hb)
  have hz1 : lo ≤ w1.heap.size := Nat.le_trans hzA hb.size
  clear hc hb ho HO eAs HCA HBA hzA
  cases b with
  | true =>
    have hcx := Lib.hid (HC1.out.box hz1 (l3Texts.map Value.string) 9)
    obtain ⟨w2, e2⟩ : ∃ x, x = w1.alloc (.cells #[.string ⟨#[50, 32, 98, 98]⟩, .string ⟨#[50, 32, 97, 97, 32, 98, 98]⟩, .string ⟨#[50, 32, 97, 97, 98]⟩, .string ⟨#[51, 32, 97, 98, 32, 98, 99, 32, 99, 97]⟩, .string ⟨#[50]⟩, .string ⟨#[49]⟩, .string ⟨#[51, 32, 97, 97, 32, 98, 98, 32, 99, 99]⟩, .string ⟨#[50, 32, 97, 98, 97, 32, 98, 97, 98]⟩, .string ⟨#[50, 32, 97, 98]⟩, .string ⟨#[50, 32, 97, 97, 97, 32, 98, 98]⟩, .string ⟨#[51, 32, 97, 99, 32, 98, 98]⟩] 9) := ⟨_, rfl⟩
    have HC2 := Lib.hid (show Cur lo w2 cb K xs.length (Res.box w1.heap.size (l3Texts.map Value.string) :: Res.box w.heap.size [.int .i64 0, .slice none 0 0] :: rs) from by rw [e2]; exact hcx.out)
    have hb2 : Below w1.heap.size w1 w2 := by rw [e2]; exact (Below.refl _ _).alloc (Nat.le_refl _) _
    have HB2 := Lib.hid (HB1.out.trans (hb2.mono hz1))
    have hz2 : lo ≤ w2.heap.size := Nat.le_trans hz1 hb2.size
    have HP := Lib.hid (show Calls Try.prog 122 #[.pointer (some ⟨cb, 0, none⟩), .slice (some ⟨w1.heap.size, 0, none⟩) 11 11] w2 _ from l1Pick_c (ls := l3Texts) (c := 11) (fun w' hb => HK.out w' (HB2.out.trans hb)) HC2.out hz2 (by decide) (by decide))
    have e2s := e2.symm
    clear hcx hb2 e2
    go_wp2_with fail
    (with_reducible refine HP.out.mono ?_)
    rintro e w3 ⟨x, rfl, hx, hc, hb, ho⟩
    obtain ⟨d, F, h1, h2, h3, h4, h5⟩ := l3Texts_mem hx
    have HC3 := Lib.hid hc.rest
    have HB3 := Lib.hid (HB2.out.trans hb)
    have hz3 : lo ≤ w3.heap.size := Nat.le_trans hz2 hb.size
    have HM := Lib.hid (ParseShift_c (w := w3) h1 h2 h3 h4 h5)
    clear hx hc hb ho h1 h2 h3 h4 h5 e2s HP HC2 HB2
    go_wp2_with fail
    (with_reducible refine HM.out.mono ?_)
    rintro e w4 ⟨v, ok, z, rfl, hsm, hn, hb⟩
    obtain ⟨va, vc, rfl⟩ := OSh.slice (hn.choose_spec.1)
    have hc4 := HC3.out.new OSh.held hb hz3 hn
    have hz4 : lo ≤ w4.heap.size := Nat.le_trans hz3 hb.size
    have HB4 := Lib.hid (HB3.out.trans (hb.mono hz3))
    have HSm := Lib.hid hsm
    obtain ⟨w5, e5, hb5, c0, c1, m5⟩ := boxA_ex w4 44 (.int .i64 z.1) (.slice va z.2.length vc)
    have hc5 := (hc4.below hb5).perm2'
    have hz5 : lo ≤ w5.heap.size := Nat.le_trans hz4 hb5.size
    have HB5 := Lib.hid (HB4.out.trans (hb5.mono hz4))
    obtain ⟨-, -, hcl⟩ := hc5.out.headBox
    have r0 := (hcl 0 _ rfl).1
    have r1 := (hcl 1 _ rfl).1
    have f0 := (hcl 0 _ rfl).2
    have f1 := (hcl 1 _ rfl).2
    have hs1 := hc5.store hz5 (j := 0) rfl (.int .i64 z.1)
    have hB6 := hc5.storeBelow HB5.out 0 (.int .i64 z.1)
    have hs2 := hs1.store (by simpa using hz5) (j := 1) rfl (.slice va z.2.length vc)
    have hB7 := hs1.storeBelow hB6 1 (.slice va z.2.length vc)
    have HC7 := Lib.hid hs2.rest
    have HB7 := Lib.hid hB7
    have u1 := (World.cell?_setCell_other w5 ⟨w.heap.size, 0, none⟩ ⟨w.heap.size, 1, none⟩ (.int .i64 z.1) (by simp)).trans r1
    have S1 := Lib.hid (World.cell?_setCell_same _ _ (.slice va z.2.length vc) u1)
    have S0 := Lib.hid ((World.cell?_setCell_other (w5.setCell ⟨w.heap.size, 0, none⟩ (.int .i64 z.1)) ⟨w.heap.size, 1, none⟩ ⟨w.heap.size, 0, none⟩ (.slice va z.2.length vc) (by simp)).trans (World.cell?_setCell_same w5 _ (.int .i64 z.1) r0))
    generalize z.2.length = zl at *
    clear hn hb HM hsm hc4 hc5 hb5 hcl hs1 hB6 hs2 hB7 HB4 HB5 HC3 HB3 u1 HC1 HB1
    go_wp2_with fail
    refine bodyPost_ret (v := .agg #[.int .i64 z.1, .slice va zl vc]) (by simp [results, Try.results99, go_sem, S0.out, S1.out]) rfl ?_
    exact ⟨_, z, rfl, HSm.out, HC7.out, HB7.out⟩
  | false =>
    have hcx := Lib.hid (HC1.out.box hz1 (([1, 1, 2, 0] : List Int).map (Value.int .i64)) 3)
    obtain ⟨w2, e2⟩ : ∃ x, x = w1.alloc (.cells #[.int .i64 1, .int .i64 1, .int .i64 2, .int .i64 0] 3) := ⟨_, rfl⟩
    have HC2 := Lib.hid (show Cur lo w2 cb K xs.length (Res.box w1.heap.size (([1, 1, 2, 0] : List Int).map (Value.int .i64)) :: Res.box w.heap.size [.int .i64 0, .slice none 0 0] :: rs) from by rw [e2]; exact hcx.out)
    have hb2 : Below w1.heap.size w1 w2 := by rw [e2]; exact (Below.refl _ _).alloc (Nat.le_refl _) _
    have HB2 := Lib.hid (HB1.out.trans (hb2.mono hz1))
    have hz2 : lo ≤ w2.heap.size := Nat.le_trans hz1 hb2.size
    have HP := Lib.hid (show Calls Try.prog 77 #[.pointer (some ⟨cb, 0, none⟩), .slice (some ⟨w1.heap.size, 0, none⟩) 4 4] w2 _ from l1PickInt_c (ls := [1, 1, 2, 0]) (c := 4) (fun w' hb => HK.out w' (HB2.out.trans hb)) HC2.out hz2 (by decide) (by decide))
    have e2s := e2.symm
    clear hcx hb2 e2
    go_wp2_with fail
    (with_reducible refine HP.out.mono ?_)
    rintro e w3 ⟨y, rfl, hy, hc, hb, ho⟩
    obtain ⟨L, hL, hL1, hL3⟩ : ∃ L : Nat, IntKind.i64.wrap (1 + y) = (L : Int) ∧ 1 ≤ L ∧ L ≤ 3 := by
      simp only [List.mem_cons, List.not_mem_nil, or_false] at hy
      rcases hy with rfl | rfl | rfl | rfl
      · exact ⟨2, rfl, by decide, by decide⟩
      · exact ⟨2, rfl, by decide, by decide⟩
      · exact ⟨3, rfl, by decide, by decide⟩
      · exact ⟨1, rfl, by decide, by decide⟩
    have HC3 := Lib.hid hc.rest
    have HB3 := Lib.hid (HB2.out.trans hb)
    have hz3 : lo ≤ w3.heap.size := Nat.le_trans hz2 hb.size
    have hy2 : 1 + y = (L : Int) := by
      simp only [List.mem_cons, List.not_mem_nil, or_false] at hy
      rcases hy with rfl | rfl | rfl | rfl <;> (have h : _ = (L : Int) := hL; simp [IntKind.wrap_i64] at h; omega)
    obtain ⟨w4, e4, hb4, c0, c1, m4⟩ := boxA_ex w3 44 (.int .i64 (L : Int)) (.slice none 0 0)
    have hcx := HC3.out.box hz3 [.int .i64 (L : Int), .slice none 0 0] 44
    have HC4 := Lib.hid (show Cur lo w4 cb K xs.length (Res.box w3.heap.size [.int .i64 (L : Int), .slice none 0 0] :: Res.box w.heap.size [.int .i64 0, .slice none 0 0] :: rs) from by rw [← e4]; exact hcx)
    have HB4 := Lib.hid (HB3.out.trans (hb4.mono hz3))
    have hz4 : lo ≤ w4.heap.size := Nat.le_trans hz3 hb4.size
    have HO := Lib.hid (l1Below_i (z := 5) (fun w' hb => HK.out w' (HB4.out.trans hb)) HC4.out hz4 (by omega) (by omega))
    have HE4 := Lib.hid e4
    clear hy hc hb ho hcx hb4 HP HC2 HB2 e2s HC3 HB3 m4 c0 c1 e4 hy2
    go_wp2_with fail
    rw [HE4.out]
    (with_reducible refine HO.out.mono ?_)
    rintro e w5 ⟨x, rfl, hx, hc, hb, ho⟩
    have hx4 : x ≤ 4 := by have h : x < Int.toNat 5 := hx; simp at h; omega
    obtain ⟨sb, hsb⟩ : ∃ b, b = w3.heap.size := ⟨_, rfl⟩
    have hc0 := hc.below (w' := w5) (Below.refl _ _)
    obtain ⟨i0, h0, hi0, hs0⟩ := hc0
    have hs1 := hs0.new RowG.held (Below.refl _ _) (Nat.le_trans hz4 hb.size) (RowG.nil (e := 9) (sz := 1) (f := scell) (w := w5) (lo := w5.heap.size))
    have hc1 : Cur lo w5 cb K xs.length (Res.box w3.heap.size [.int .i64 (L : Int), .slice none 0 0] :: ResTx (.slice none 0 0) [] :: Res.box w.heap.size [.int .i64 0, .slice none 0 0] :: rs) := ⟨i0, h0, hi0, hs1.perm (List.Perm.trans (List.Perm.swap _ _ _) (List.Perm.cons _ (List.Perm.swap _ _ _)))⟩
    rw [← hsb] at hc1 ⊢
    have HC5 := Lib.hid hc1
    have HB5 := Lib.hid (HB4.out.trans hb)
    have HX := Lib.hid (show ([] : List ByteArray).length + x ≤ 4 ∧ ∀ f, f ∈ ([] : List ByteArray) → f.size ≤ 8 from ⟨by simpa using hx4, fun f h => by cases h⟩)
    have HL := Lib.hid (fun (ys : List ByteArray) (ya : Option Addr) (yn yc : Nat) (wk : World) (h : Cur lo wk cb K xs.length (Res.box sb [.int .i64 (L : Int), .slice ya yn yc] :: ResTx (.slice ya yn yc) ys :: Res.box w.heap.size [.int .i64 0, .slice none 0 0] :: rs)) => (show yn = ys.length from by
      obtain ⟨a', c', e, -⟩ := h.rest.out.rowAt scell_lay
      simp only [Value.slice.injEq] at e
      exact e.2.1))
    clear hx hc hb ho HO HE4 HC4 HB4 hs0 hs1 hc1 hsb hz4 hL
    go_wp2_with fail
    go_loopg [6, 7] x (fun g nv wv wr => ∃ (ys : List ByteArray) (ya : Option Addr) (yn yc : Nat), nv = .int .i64 (g : Nat) ∧ g ≤ 4 ∧ Hid (ys.length + g ≤ 4 ∧ ∀ f, f ∈ ys → f.size ≤ 8) ∧ Hid (Cur lo wr cb K xs.length (Res.box sb [.int .i64 (L : Int), .slice ya yn yc] :: ResTx (.slice ya yn yc) ys :: Res.box w.heap.size [.int .i64 0, .slice none 0 0] :: rs)) ∧ Hid (Below lo w wr))
    case atStart => exact ⟨[], none, 0, 0, rfl, hx4, HX, HC5, HB5⟩
    case round =>
      clear HX HC5 HB5 hx4
      obtain ⟨ys, ya, yn, yc, rfl, hg, HY, HC, HB⟩ := hrel
      obtain ⟨wk, rfl⟩ : ∃ x, x = wr := ⟨_, rfl⟩
      have hzk : lo ≤ wk.heap.size := Nat.le_trans hlo HB.out.size
      cases gk with
      | zero =>
        have hcS := HC.out
        have hlk := HL.out ys ya yn yc wk hcS
        subst hlk
        obtain ⟨-, -, hcl⟩ := hcS.out.headBox
        have c0 := (hcl 0 _ rfl).1
        have c1 := (hcl 1 _ rfl).1
        have hr := hcS.perm ((List.Perm.swap _ _ _).trans ((List.Perm.cons _ (List.Perm.swap _ _ _)).trans (List.Perm.swap _ _ _)))
        obtain ⟨-, -, hcr⟩ := hr.out.headBox
        have r0 := (hcr 0 _ rfl).1
        have r1 := (hcr 1 _ rfl).1
        have f0 := (hcr 0 _ rfl).2
        have f1 := (hcr 1 _ rfl).2
        have hs1 := hr.store hzk (j := 0) rfl (.int .i64 (L : Int))
        have hB6 := hr.storeBelow HB.out 0 (.int .i64 (L : Int))
        have hs2 := hs1.store (by simpa using hzk) (j := 1) rfl (.slice ya ys.length yc)
        have hB7 := hs1.storeBelow hB6 1 (.slice ya ys.length yc)
        have hcv := hs2.rest.perm2'.rest.conv (s := ResSh (.agg #[.int .i64 (L : Int), .slice ya ys.length yc]) ((L : Int), ys)) (by simpa using hzk) (fun F h => ⟨_, rfl, RowG.strs h⟩)
        have HC7 := Lib.hid hcv
        have HB7 := Lib.hid hB7
        have u1 := (World.cell?_setCell_other wk ⟨w.heap.size, 0, none⟩ ⟨w.heap.size, 1, none⟩ (.int .i64 (L : Int)) (by simp)).trans r1
        have S1 := Lib.hid (World.cell?_setCell_same _ _ (.slice ya ys.length yc) u1)
        have S0 := Lib.hid ((World.cell?_setCell_other (wk.setCell ⟨w.heap.size, 0, none⟩ (.int .i64 (L : Int))) ⟨w.heap.size, 1, none⟩ ⟨w.heap.size, 0, none⟩ (.slice ya ys.length yc) (by simp)).trans (World.cell?_setCell_same wk _ (.int .i64 (L : Int)) r0))
        have HSm := Lib.hid (show SmSh ((L : Int), ys) from ⟨by simp, by simp; omega, by have := HY.out.1; simp; omega, HY.out.2⟩)
        clear hcS hr hs1 hB6 hs2 hB7 hcv u1 hcl hcr HC HB HY
        go_wp2_with fail
        refine bodyPost_ret (v := .agg #[.int .i64 (L : Int), .slice ya ys.length yc]) (by simp [results, Try.results99, go_sem, S0.out, S1.out]) rfl ?_
        exact ⟨_, ((L : Int), ys), rfl, HSm.out, HC7.out, HB7.out⟩
      | succ g =>
        have hg0 : (0 : Int) < ((g + 1 : Nat) : Int) := by omega
        have hbd : Below wk.heap.size wk wk.drew := (Below.refl _ _).drew
        have HCd := Lib.hid (HC.out.below hbd)
        have HBd := Lib.hid (HB.out.trans (hbd.mono hzk))
        have hzd : lo ≤ wk.drew.heap.size := Nat.le_trans hzk hbd.size
        have hSd : wk.drew.cell? ⟨sb, 0, none⟩ = some (.int .i64 (L : Int)) := HCd.out.box0
        have HD := Lib.hid (show Calls Try.prog 123 #[.pointer (some ⟨cb, 0, none⟩), .int .i64 (L : Int), .int .i64 2] wk.drew _ from l2Draw_c (kk := L) (most := 2) (fun w' hb => HK.out w' (HBd.out.trans hb)) HCd.out hzd hL1 hL3 (by omega))
        have hL0 : (0 : Int) ≤ (L : Int) := by omega
        have hLi : (L : Int) ≤ 3 := by omega
        have hbx : Below wk.heap.size wk (wk.alloc (.cells #[.string ⟨#[97]⟩, .string ⟨#[98]⟩, .string ⟨#[99]⟩] 9)).drew := ((Below.refl _ _).alloc (Nat.le_refl _) _).drew
        have hcx := (HC.out.box hzk (abc3.map Value.string) 9).below (Below.refl _ _).drew
        obtain ⟨wb, eb⟩ : ∃ x, x = (wk.alloc (.cells #[.string ⟨#[97]⟩, .string ⟨#[98]⟩, .string ⟨#[99]⟩] 9)).drew := ⟨_, rfl⟩
        have HCb := Lib.hid (show Cur lo wb cb K xs.length (Res.box wk.heap.size (abc3.map Value.string) :: Res.box sb [.int .i64 (L : Int), .slice ya yn yc] :: ResTx (.slice ya yn yc) ys :: Res.box w.heap.size [.int .i64 0, .slice none 0 0] :: rs) from by rw [eb]; exact hcx)
        have HBb := Lib.hid (show Below lo w wb from by rw [eb]; exact HB.out.trans (hbx.mono hzk))
        have hzb : lo ≤ wb.heap.size := Nat.le_trans hlo HBb.out.size
        have hSb : wb.cell? ⟨sb, 0, none⟩ = some (.int .i64 (L : Int)) := HCb.out.rest.box0
        have HDb := Lib.hid (show Calls Try.prog 123 #[.pointer (some ⟨cb, 0, none⟩), .int .i64 (L : Int), .int .i64 2] wb _ from l2Draw_c (kk := L) (most := 2) (fun w' hb => HK.out w' (HBb.out.trans hb)) HCb.out hzb hL1 hL3 (by omega))
        have ebs := Lib.hid eb.symm
        clear hcx hbx hbd eb HC HB
        go_wp2_with fail
        refine wp_region_L (fun w' => w'.cell? ⟨sb, 0, none⟩ = some (.int .i64 (L : Int))) (by kernel_rfl) ?_
        refine wpAnyL_take 0 (v := ?_) rfl (by kernel_rfl) (by kernel_rfl) (by kernel_rfl) (by kernel_rfl) (fun _ _ _ h => h) (Or.inl ⟨by rfl, ?_⟩) hSd ?_
        rotate_left
        · (intro w hSw; (try dsimp only at hSw); go_simp) <;> (try with_reducible rfl)
        try simp only [Act.put, List.getElem_toArray, List.getElem_cons_zero, List.getElem_cons_succ, List.setIfInBounds_toArray, List.set_cons_zero, List.set_cons_succ]
        refine wpAnyL_take 1 (v := ?_) rfl (by kernel_rfl) (by kernel_rfl) (by kernel_rfl) (by kernel_rfl) (fun _ _ _ h => h) (Or.inl ⟨by rfl, ?_⟩) hSd ?_
        rotate_left
        · (intro w hSw; (try dsimp only at hSw); go_simp) <;> (try with_reducible rfl)
        try simp only [Act.put, List.getElem_toArray, List.getElem_cons_zero, List.getElem_cons_succ, List.setIfInBounds_toArray, List.set_cons_zero, List.set_cons_succ]
        refine wpAnyL_take 2 (v := ?_) rfl (by kernel_rfl) (by kernel_rfl) (by kernel_rfl) (by kernel_rfl) (fun _ _ _ h => h) (Or.inl ⟨by rfl, ?_⟩) hSd ?_
        rotate_left
        · (intro w hSw; (try dsimp only at hSw); go_simp) <;> (try with_reducible rfl)
        try simp only [Act.put, List.getElem_toArray, List.getElem_cons_zero, List.getElem_cons_succ, List.setIfInBounds_toArray, List.set_cons_zero, List.set_cons_succ]
        refine wpAnyL_take 4 (v := ?_) rfl (by kernel_rfl) (by kernel_rfl) (by kernel_rfl) (by kernel_rfl) (fun _ _ _ h => h) (Or.inl ⟨by rfl, ?_⟩) hSd ?_
        rotate_left
        · (intro w hSw; (try dsimp only at hSw); go_simp) <;> (try with_reducible rfl)
        try simp only [Act.put, List.getElem_toArray, List.getElem_cons_zero, List.getElem_cons_succ, List.setIfInBounds_toArray, List.set_cons_zero, List.set_cons_succ]
        refine wpAnyL_take 6 (v := ?_) rfl (by kernel_rfl) (by kernel_rfl) (by kernel_rfl) (by kernel_rfl) (fun _ _ _ h => h) (Or.inl ⟨by rfl, ?_⟩) hSd ?_
        rotate_left
        · (intro w hSw; (try dsimp only at hSw); go_simp) <;> (try with_reducible rfl)
        try simp only [Act.put, List.getElem_toArray, List.getElem_cons_zero, List.getElem_cons_succ, List.setIfInBounds_toArray, List.set_cons_zero, List.set_cons_succ]
        refine wpAnyL_take 7 (v := ?_) rfl (by kernel_rfl) (by kernel_rfl) (by kernel_rfl) (by kernel_rfl) (fun _ _ _ h => h) (Or.inl ⟨by rfl, ?_⟩) hSd ?_
        rotate_left
        · (intro w hSw; (try dsimp only at hSw); go_simp) <;> (try with_reducible rfl)
        try simp only [Act.put, List.getElem_toArray, List.getElem_cons_zero, List.getElem_cons_succ, List.setIfInBounds_toArray, List.set_cons_zero, List.set_cons_succ]
        refine wpAnyL_two 3 5 (by kernel_rfl) rfl rfl (fun K hK => ?_) (fun K hK => ?_)
        · go_simp
          (with_reducible refine HD.out.mono ?_)
          rintro e w2 ⟨u, rfl, hu, hc, hb, ho⟩
          have HC2 := Lib.hid hc
          have HB2 := Lib.hid (HBd.out.trans hb)
          have hz2 : lo ≤ w2.heap.size := Nat.le_trans hzd hb.size
          have hS2 : w2.cell? ⟨sb, 0, none⟩ = some (.int .i64 (L : Int)) := hc.box0
          clear hc hb ho HD HCd HBd HCb HBb HDb hSb ebs hzb
          go_wp2_with fail
          refine hK.out _ _ (fun _ => hS2) ?_
          clear hK K
          try simp only [Act.put, List.getElem_toArray, List.getElem_cons_zero, List.getElem_cons_succ, List.setIfInBounds_toArray, List.set_cons_zero, List.set_cons_succ]
          have hbx : Below w2.heap.size w2 (w2.alloc (.cells #[.string ⟨#[97]⟩, .string ⟨#[98]⟩, .string ⟨#[99]⟩] 9)) := (Below.refl _ _).alloc (Nat.le_refl _) _
          have hcx := HC2.out.box hz2 (abc3.map Value.string) 9
          obtain ⟨w3, e3⟩ : ∃ x, x = w2.alloc (.cells #[.string ⟨#[97]⟩, .string ⟨#[98]⟩, .string ⟨#[99]⟩] 9) := ⟨_, rfl⟩
          have HC3 := Lib.hid (show Cur lo w3 cb K xs.length (Res.box w2.heap.size (abc3.map Value.string) :: Res.box sb [.int .i64 (L : Int), .slice ya yn yc] :: ResTx (.slice ya yn yc) ys :: Res.box w.heap.size [.int .i64 0, .slice none 0 0] :: rs) from by rw [e3]; exact hcx)
          have HB3 := Lib.hid (show Below lo w w3 from by rw [e3]; exact HB2.out.trans (hbx.mono hz2))
          have hz3 : lo ≤ w3.heap.size := Nat.le_trans hlo HB3.out.size
          have hS3 : w3.cell? ⟨sb, 0, none⟩ = some (.int .i64 (L : Int)) := HC3.out.rest.box0
          have HP := Lib.hid (l1PickP_c (N := L) (c := 3) (ls := abc3) (fun w' hb => HK.out w' (HB3.out.trans hb)) HC3.out hz3 hL1 hL3 (by decide))
          clear hbx hcx HC2 HB2
          refine wpAnyL_one 5 (by kernel_rfl) rfl (fun K hK => ?_)
          go_simp
          refine hK.out _ _ (fun _ => (by rw [← e3]; exact hS3)) ?_
          clear hK K
          try simp only [Act.put, List.getElem_toArray, List.getElem_cons_zero, List.getElem_cons_succ, List.setIfInBounds_toArray, List.set_cons_zero, List.set_cons_succ]
          rw [← e3]
          clear e3
          refine wpAnyL_take 8 (v := ?_) rfl (by kernel_rfl) (by kernel_rfl) (by kernel_rfl) (by kernel_rfl) (fun _ _ _ h => h) (Or.inl ⟨by rfl, ?_⟩) hS3 ?_
          rotate_left
          · (intro w hSw; (try dsimp only at hSw); go_simp) <;> (try with_reducible rfl)
          try simp only [Act.put, List.getElem_toArray, List.getElem_cons_zero, List.getElem_cons_succ, List.setIfInBounds_toArray, List.set_cons_zero, List.set_cons_succ]
          refine wpAnyL_one 9 (by kernel_rfl) rfl (fun K hK => ?_)
          go_simp
          (with_reducible refine HP.out.mono ?_)
          rintro e w4 ⟨y, rfl, hy, hc, hb, ho⟩
          have hys := abc3_size hy
          have hcat : ¬ (9223372036854775807 < u.size + y.size) := by omega
          have HYs := Lib.hid hys
          clear hys
          have HC4 := Lib.hid hc.rest
          have HB4 := Lib.hid (HB3.out.trans hb)
          have hz4 : lo ≤ w4.heap.size := Nat.le_trans hz3 hb.size
          have hS4 : w4.cell? ⟨sb, 0, none⟩ = some (.int .i64 (L : Int)) := hc.rest.box0
          clear hc hb ho hy HP HC3 HB3
          go_wp2_with fail
          refine hK.out _ _ (fun _ => hS4) ?_
          clear hK K
          try simp only [Act.put, List.getElem_toArray, List.getElem_cons_zero, List.getElem_cons_succ, List.setIfInBounds_toArray, List.set_cons_zero, List.set_cons_succ]
          refine wpAnyL_take 10 (v := ?_) rfl (by kernel_rfl) (by kernel_rfl) (by kernel_rfl) (by kernel_rfl) (fun _ _ _ h => h) (Or.inl ⟨by rfl, ?_⟩) hS4 ?_
          rotate_left
          · (intro w hSw; (try dsimp only at hSw); go_simp) <;> (try with_reducible rfl)
          try simp only [Act.put, List.getElem_toArray, List.getElem_cons_zero, List.getElem_cons_succ, List.setIfInBounds_toArray, List.set_cons_zero, List.set_cons_succ]
          refine wpAnyL_one 11 (by kernel_rfl) rfl (fun K hK => ?_)
          go_simp
          refine hK.out _ _ (fun h => absurd h (not_rem (by kernel_rfl))) ?_
          clear hK K
          try simp only [Act.put, List.getElem_toArray, List.getElem_cons_zero, List.getElem_cons_succ, List.setIfInBounds_toArray, List.set_cons_zero, List.set_cons_succ]
          refine wpAnyL_done (by kernel_rfl) ?_ _
          obtain ⟨i4, h4, hi4, hs4⟩ := HC4.out
          have hlk := HL.out ys ya yn yc w4 HC4.out
          have hput := l2Put_c (x := u ++ y) (hs4.perm ((List.Perm.cons _ (List.Perm.swap _ _ _)).trans (List.Perm.swap _ _ _))) hz4 (by have := HY.out.1; omega)
          have HPut := Lib.hid hput
          obtain ⟨-, -, hcl⟩ := HC4.out.out.headBox
          have c1 := (hcl 1 _ rfl).1
          have HU := Lib.hid (show (u ++ y).size ≤ 8 from by rw [bs_size, HYs.out]; omega)
          generalize u ++ y = uy at HPut HU ⊢
          clear hs4 hput hcl hlk hS4 HYs hu hcat
          go_wp2_with fail
          (with_reducible refine HPut.out.mono ?_)
          rintro e w5 ⟨v', zs, rfl, hl, hs5, hb5⟩
          obtain ⟨za, zc, rfl, -⟩ := hs5.rowAt scell_lay
          have hc5 : Cur lo w5 cb K xs.length (Res.box sb [.int .i64 (L : Int), .slice ya yn yc] :: ResTx (.slice za zs.length zc) zs :: Res.box w.heap.size [.int .i64 0, .slice none 0 0] :: rs) := ⟨i4, h4, hi4, hs5.perm ((List.Perm.swap _ _ _).trans (List.Perm.cons _ (List.Perm.swap _ _ _)))⟩
          have hz5 : lo ≤ w5.heap.size := Nat.le_trans hz4 hb5.size
          have HB6 := Lib.hid (hc5.storeBelow (HB4.out.trans hb5) 1 (.slice za zs.length zc))
          have HC6 := Lib.hid (hc5.store hz5 (j := 1) rfl (.slice za zs.length zc))
          obtain ⟨-, -, hcl⟩ := hc5.out.headBox
          have d1 := (hcl 1 _ rfl).1
          have t1 := (hcl 1 _ rfl).2
          have HY6 := Lib.hid (show zs.length + g ≤ 4 ∧ ∀ f, f ∈ zs → f.size ≤ 8 from ⟨by have := HY.out.1; have := hl.1; omega, fun f hf => by
            rcases hl.2 f hf with e | e
            · rw [e]; exact HU.out
            · exact HY.out.2 f e⟩)
          obtain ⟨zl, hzl⟩ : ∃ zl, zl = zs.length := ⟨_, rfl⟩
          rw [← hzl] at HB6 HC6 ⊢
          clear hzl
          clear hl hs5 hb5 hc5 hcl HPut HC4 HB4 HU HY
          go_wp2_with fail
          go_roundg g
          case measure => omega
          case rel => exact ⟨zs, za, zl, zc, by go_num, by omega, HY6, HC6, HB6⟩
        · go_simp
          refine hK.out _ _ (fun _ => (by rw [ebs.out]; exact hSb)) ?_
          clear hK K
          try simp only [Act.put, List.getElem_toArray, List.getElem_cons_zero, List.getElem_cons_succ, List.setIfInBounds_toArray, List.set_cons_zero, List.set_cons_succ]
          rw [ebs.out]
          clear HD HCd HBd hSd hzd ebs
          refine wpAnyL_take 8 (v := ?_) rfl (by kernel_rfl) (by kernel_rfl) (by kernel_rfl) (by kernel_rfl) (fun _ _ _ h => h) (Or.inl ⟨by rfl, ?_⟩) hSb ?_
          rotate_left
          · (intro w hSw; (try dsimp only at hSw); go_simp) <;> (try with_reducible rfl)
          try simp only [Act.put, List.getElem_toArray, List.getElem_cons_zero, List.getElem_cons_succ, List.setIfInBounds_toArray, List.set_cons_zero, List.set_cons_succ]
          refine wpAnyL_one 3 (by kernel_rfl) rfl (fun K hK => ?_)
          go_simp
          (with_reducible refine HDb.out.mono ?_)
          rintro e w3 ⟨u, rfl, hu, hc, hb, ho⟩
          have HC3 := Lib.hid hc
          have HB3 := Lib.hid (HBb.out.trans hb)
          have hz3 : lo ≤ w3.heap.size := Nat.le_trans hzb hb.size
          have hS3 : w3.cell? ⟨sb, 0, none⟩ = some (.int .i64 (L : Int)) := hc.rest.box0
          have HP := Lib.hid (l1PickP_c (N := L) (c := 3) (ls := abc3) (fun w' hb => HK.out w' (HB3.out.trans hb)) HC3.out hz3 hL1 hL3 (by decide))
          clear hc hb ho HDb HCb HBb hSb hzb
          go_wp2_with fail
          refine hK.out _ _ (fun _ => hS3) ?_
          clear hK K
          try simp only [Act.put, List.getElem_toArray, List.getElem_cons_zero, List.getElem_cons_succ, List.setIfInBounds_toArray, List.set_cons_zero, List.set_cons_succ]
          refine wpAnyL_one 9 (by kernel_rfl) rfl (fun K hK => ?_)
          go_simp
          (with_reducible refine HP.out.mono ?_)
          rintro e w4 ⟨y, rfl, hy, hc, hb, ho⟩
          have hys := abc3_size hy
          have hcat : ¬ (9223372036854775807 < u.size + y.size) := by omega
          have HYs := Lib.hid hys
          clear hys
          have HC4 := Lib.hid hc.rest
          have HB4 := Lib.hid (HB3.out.trans hb)
          have hz4 : lo ≤ w4.heap.size := Nat.le_trans hz3 hb.size
          have hS4 : w4.cell? ⟨sb, 0, none⟩ = some (.int .i64 (L : Int)) := hc.rest.box0
          clear hc hb ho hy HP HC3 HB3
          go_wp2_with fail
          refine hK.out _ _ (fun _ => hS4) ?_
          clear hK K
          try simp only [Act.put, List.getElem_toArray, List.getElem_cons_zero, List.getElem_cons_succ, List.setIfInBounds_toArray, List.set_cons_zero, List.set_cons_succ]
          refine wpAnyL_take 10 (v := ?_) rfl (by kernel_rfl) (by kernel_rfl) (by kernel_rfl) (by kernel_rfl) (fun _ _ _ h => h) (Or.inl ⟨by rfl, ?_⟩) hS4 ?_
          rotate_left
          · (intro w hSw; (try dsimp only at hSw); go_simp) <;> (try with_reducible rfl)
          try simp only [Act.put, List.getElem_toArray, List.getElem_cons_zero, List.getElem_cons_succ, List.setIfInBounds_toArray, List.set_cons_zero, List.set_cons_succ]
          refine wpAnyL_one 11 (by kernel_rfl) rfl (fun K hK => ?_)
          go_simp
          refine hK.out _ _ (fun h => absurd h (not_rem (by kernel_rfl))) ?_
          clear hK K
          try simp only [Act.put, List.getElem_toArray, List.getElem_cons_zero, List.getElem_cons_succ, List.setIfInBounds_toArray, List.set_cons_zero, List.set_cons_succ]
          refine wpAnyL_done (by kernel_rfl) ?_ _
          obtain ⟨i4, h4, hi4, hs4⟩ := HC4.out
          have hlk := HL.out ys ya yn yc w4 HC4.out
          have hput := l2Put_c (x := u ++ y) (hs4.perm ((List.Perm.cons _ (List.Perm.swap _ _ _)).trans (List.Perm.swap _ _ _))) hz4 (by have := HY.out.1; omega)
          have HPut := Lib.hid hput
          obtain ⟨-, -, hcl⟩ := HC4.out.out.headBox
          have c1 := (hcl 1 _ rfl).1
          have HU := Lib.hid (show (u ++ y).size ≤ 8 from by rw [bs_size, HYs.out]; omega)
          generalize u ++ y = uy at HPut HU ⊢
          clear hs4 hput hcl hlk hS4 HYs hu hcat
          go_wp2_with fail
          (with_reducible refine HPut.out.mono ?_)
          rintro e w5 ⟨v', zs, rfl, hl, hs5, hb5⟩
          obtain ⟨za, zc, rfl, -⟩ := hs5.rowAt scell_lay
          have hc5 : Cur lo w5 cb K xs.length (Res.box sb [.int .i64 (L : Int), .slice ya yn yc] :: ResTx (.slice za zs.length zc) zs :: Res.box w.heap.size [.int .i64 0, .slice none 0 0] :: rs) := ⟨i4, h4, hi4, hs5.perm ((List.Perm.swap _ _ _).trans (List.Perm.cons _ (List.Perm.swap _ _ _)))⟩
          have hz5 : lo ≤ w5.heap.size := Nat.le_trans hz4 hb5.size
          have HB6 := Lib.hid (hc5.storeBelow (HB4.out.trans hb5) 1 (.slice za zs.length zc))
          have HC6 := Lib.hid (hc5.store hz5 (j := 1) rfl (.slice za zs.length zc))
          obtain ⟨-, -, hcl⟩ := hc5.out.headBox
          have d1 := (hcl 1 _ rfl).1
          have t1 := (hcl 1 _ rfl).2
          have HY6 := Lib.hid (show zs.length + g ≤ 4 ∧ ∀ f, f ∈ zs → f.size ≤ 8 from ⟨by have := HY.out.1; have := hl.1; omega, fun f hf => by
            rcases hl.2 f hf with e | e
            · rw [e]; exact HU.out
            · exact HY.out.2 f e⟩)
          obtain ⟨zl, hzl⟩ : ∃ zl, zl = zs.length := ⟨_, rfl⟩
          rw [← hzl] at HB6 HC6 ⊢
          clear hzl
          clear hl hs5 hb5 hc5 hcl HPut HC4 HB4 HU HY
          go_wp2_with fail
          go_roundg g
          case measure => omega
          case rel => exact ⟨zs, za, zl, zc, by go_num, by omega, HY6, HC6, HB6⟩
end Go.Proofs.Ytcilgihmaaobeaa
end

section
namespace Go.Proofs.Ytcilgihmaaobeaa
open Go.RowKit Go.Deep Go.Sd
def wordD (L : Nat) : Nat → Nat → List Nat
  | 0, _ => []
  | n + 1, i => wordD L n (i / L) ++ [i % L]
def allW (L : Nat) : Nat → List (List Nat)
  | 0 => [[]]
  | n + 1 => (allW L n).flatMap fun w => (List.range L).map fun x => w ++ [x]
theorem range_mul (b : Nat) : ∀ a : Nat, List.range (a * b) = (List.range a).flatMap fun j => (List.range b).map fun x => j * b + x
  | 0 => by simp
  | a + 1 => by
    rw [Nat.add_mul, Nat.one_mul, List.range_add, range_mul b a, List.range_succ, List.flatMap_append]
    simp
theorem allW_eq {L : Nat} (hL : 0 < L) : ∀ n : Nat, allW L n = (List.range (L ^ n)).map (wordD L n)
  | 0 => by simp [allW, wordD]
  | n + 1 => by
    unfold allW
    rw [allW_eq hL n, Nat.pow_succ, range_mul, List.map_flatMap, List.flatMap_map]
    congr 1
    funext j
    rw [List.map_map]
    apply List.map_congr_left
    intro x hx
    have hx' : x < L := List.mem_range.1 hx
    simp only [Function.comp, wordD]
    rw [Nat.mul_comm j L, Nat.mul_add_div hL, Nat.mul_add_mod, Nat.div_eq_of_lt hx', Nat.mod_eq_of_lt hx', Nat.add_zero]
theorem allW_len {L : Nat} (hL : 0 < L) (n : Nat) : (allW L n).length = L ^ n := by rw [allW_eq hL]; simp
theorem wordD_len (L : Nat) : ∀ n i : Nat, (wordD L n i).length = n
  | 0, _ => rfl
  | n + 1, i => by simp [wordD, wordD_len L n]
theorem wordD_lt {L : Nat} (hL : 0 < L) : ∀ (n i x : Nat), x ∈ wordD L n i → x < L
  | 0, _, _, h => by cases h
  | n + 1, i, x, h => by
    rcases List.mem_append.1 h with h | h
    · exact wordD_lt hL n _ x h
    · simp at h; subst h; exact Nat.mod_lt _ hL
theorem allW_mem {L : Nat} (hL : 0 < L) {n : Nat} {w : List Nat} (h : w ∈ allW L n) : w.length = n ∧ ∀ x, x ∈ w → x < L := by
  rw [allW_eq hL] at h
  obtain ⟨i, _, rfl⟩ := List.mem_map.1 h
  exact ⟨wordD_len L n i, wordD_lt hL n i⟩
theorem wordT_size (w : List Nat) : (wordT w).size = w.length := by simp [wordT, ByteArray.size]
theorem pow_le {L n : Nat} (hL : L ≤ 3) (hn : n ≤ 6) : L ^ n ≤ 729 :=
  Nat.le_trans (Nat.pow_le_pow_left hL n) (Nat.pow_le_pow_right (by decide) hn)
end Go.Proofs.Ytcilgihmaaobeaa
end

section
namespace Go.Proofs.Ytcilgihmaaobeaa
open Go.RowKit Go.Deep Go.Sd
section
variable {α : Type}
def pick : List α → List Bool → List α
  | x :: xs, b :: bs => if b = true then x :: pick xs bs else pick xs bs
  | _, _ => []
theorem pick_t (x : α) (xs : List α) (bs : List Bool) : pick (x :: xs) (true :: bs) = x :: pick xs bs := rfl
theorem pick_f (x : α) (xs : List α) (bs : List Bool) : pick (x :: xs) (false :: bs) = pick xs bs := rfl
theorem pick_all : ∀ xs : List α, pick xs (List.replicate xs.length true) = xs
  | [] => rfl
  | x :: xs => by
    show pick (x :: xs) (true :: List.replicate xs.length true) = _
    unfold pick
    rw [if_pos rfl, pick_all xs]
theorem pick_len : ∀ (xs : List α) (l : List Bool), l.length = xs.length → (pick xs l).length = cntT l
  | [], [], _ => rfl
  | [], _ :: _, h => by cases h
  | _ :: _, [], h => by cases h
  | x :: xs, b :: bs, h => by
    have ih := pick_len xs bs (by simpa using h)
    unfold pick
    cases b with
    | true => rw [if_pos rfl, List.length_cons, ih]; simp [cntT]
    | false => rw [if_neg (by decide), ih]; simp [cntT]
theorem pick_mem : ∀ (xs : List α) (l : List Bool) (x : α), x ∈ pick xs l ↔ ∃ i : Nat, On l i ∧ xs[i]? = some x
  | [], _, x => by simp [pick]
  | _ :: _, [], x => by simp [pick, On]
  | y :: ys, b :: bs, x => by
    have ih := pick_mem ys bs x
    have key : (∃ i : Nat, On (b :: bs) i ∧ (y :: ys)[i]? = some x) ↔ (b = true ∧ y = x) ∨ ∃ i : Nat, On bs i ∧ ys[i]? = some x := by
      constructor
      · rintro ⟨i, h1, h2⟩
        cases i with
        | zero =>
          left
          have e1 : b = true := by simpa [On] using h1
          have e2 : y = x := by simpa using h2
          exact ⟨e1, e2⟩
        | succ i => right; exact ⟨i, by simpa [On] using h1, by simpa using h2⟩
      · rintro (⟨h1, h2⟩ | ⟨i, h1, h2⟩)
        · exact ⟨0, by simp [On, h1], by simp [h2]⟩
        · exact ⟨i + 1, by simpa [On] using h1, by simpa using h2⟩
    rw [key, ← ih]
    cases b with
    | true => rw [pick_t, List.mem_cons]; simp [eq_comm]
    | false => rw [pick_f]; simp
/-- What is left of a mask where something holds. -/
def maskF (p : α → Bool) : List α → List Bool → List Bool
  | x :: xs, b :: bs => (b && p x) :: maskF p xs bs
  | _, bs => bs
theorem maskF_len (p : α → Bool) : ∀ (xs : List α) (l : List Bool), (maskF p xs l).length = l.length
  | [], _ => by unfold maskF; rfl
  | _ :: _, [] => rfl
  | _ :: xs, _ :: bs => by unfold maskF; rw [List.length_cons, List.length_cons, maskF_len p xs bs]
theorem pick_filter (p : α → Bool) : ∀ (xs : List α) (l : List Bool), (pick xs l).filter p = pick xs (maskF p xs l)
  | [], l => by simp [pick]
  | _ :: _, [] => by simp [pick, maskF]
  | x :: xs, b :: bs => by
    have ih := pick_filter p xs bs
    unfold maskF
    cases b with
    | true =>
      rw [pick_t, List.filter_cons]
      cases hp : p x with
      | true => rw [if_pos rfl, ih]; rfl
      | false => rw [if_neg (by decide), ih]; rfl
    | false => rw [pick_f, ih]; rfl
theorem maskF_on (p : α → Bool) : ∀ (xs : List α) (l : List Bool), l.length = xs.length → ∀ i, On (maskF p xs l) i ↔ On l i ∧ ∃ x, xs[i]? = some x ∧ p x = true
  | [], [], _, i => by simp [maskF, On]
  | [], _ :: _, h, _ => by cases h
  | _ :: _, [], h, _ => by cases h
  | x :: xs, b :: bs, h, i => by
    have ih := maskF_on p xs bs (by simpa using h)
    unfold maskF
    cases i with
    | zero => simp [On]
    | succ i =>
      have := ih i
      simpa [On] using this
end
/-- A word of two letters may be followed by another. -/
def goesB (F : List ByteArray) (u v : List Nat) : Bool := decide (u.getD 1 0 = v.getD 0 0) && avoM F (wordT (u ++ v.drop 1))
def EG (F : List ByteArray) (W : List (List Nat)) (i j : Nat) : Prop := ∃ u v, W[i]? = some u ∧ W[j]? = some v ∧ goesB F u v = true
def avoW (F : List ByteArray) (L : Nat) : List (List Nat) := (allW L 2).filter fun wd => avoM F (wordT wd)
noncomputable def pairsM (F : List ByteArray) (L : Nat) : List (List Nat) := pick (avoW F L) (liveL (EG F (avoW F L)) (avoW F L).length)
/-- What is kept in one pass. -/
def keepB (F : List ByteArray) (out : List (List Nat)) (u : List Nat) : Bool := out.any (fun v => goesB F u v) && out.any (fun v => goesB F v u)
theorem keep_rnd (F : List ByteArray) (W : List (List Nat)) (l : List Bool) (h : l.length = W.length) : Rnd (EG F W) l (maskF (keepB F (pick W l)) W l) := by
  refine ⟨maskF_len _ _ _, fun i => ?_⟩
  rw [maskF_on _ _ _ h]
  constructor
  · rintro ⟨h1, x, hx, hk⟩
    refine ⟨h1, ?_⟩
    unfold keepB at hk
    rw [Bool.and_eq_true, List.any_eq_true, List.any_eq_true] at hk
    obtain ⟨⟨v, hv, hg⟩, u, hu, hg2⟩ := hk
    obtain ⟨j, hj, hjv⟩ := (pick_mem _ _ _).1 hv
    obtain ⟨k, hk, hku⟩ := (pick_mem _ _ _).1 hu
    exact ⟨⟨j, hj, x, v, hx, hjv, hg⟩, k, hk, u, x, hku, hx, hg2⟩
  · rintro ⟨h1, ⟨j, hj, x, v, hx, hv, hg⟩, k, hk, u, x', hu, hx', hg2⟩
    rw [hx] at hx'
    cases hx'
    refine ⟨h1, x, hx, ?_⟩
    unfold keepB
    rw [Bool.and_eq_true, List.any_eq_true, List.any_eq_true]
    exact ⟨⟨v, (pick_mem _ _ _).2 ⟨j, hj, hv⟩, hg⟩, u, (pick_mem _ _ _).2 ⟨k, hk, hu⟩, hg2⟩
/-- Where a pass keeps all, the end is reached. -/
theorem keep_end {F : List ByteArray} {W : List (List Nat)} {l : List Bool} (hS : Sup (EG F W) W.length l) (h : (pick W (maskF (keepB F (pick W l)) W l)).length = (pick W l).length) : pick W l = pick W (liveL (EG F W) W.length) := by
  have hl := hS.1
  have hr := keep_rnd F W l hl
  rw [pick_len _ _ (by rw [maskF_len, hl]), pick_len _ _ hl] at h
  have e := (cntT_mono hr.1 (fun i hi => ((hr.2 i).1 hi).1)).2 h
  have hc : Clos (EG F W) W.length (On l) := fun i hi => by
    have h2 := (hr.2 i).1 (by rw [e]; exact hi)
    exact ⟨by have := hi.lt; omega, h2.2⟩
  rw [← live_of hS hc]
/-- A pass keeps what is above all. -/
theorem keep_sup {F : List ByteArray} {W : List (List Nat)} {l : List Bool} (hS : Sup (EG F W) W.length l) : Sup (EG F W) W.length (maskF (keepB F (pick W l)) W l) := by
  have hr := keep_rnd F W l hS.1
  refine ⟨by rw [maskF_len]; exact hS.1, fun i hg => (hr.2 i).2 ⟨hS.2 i hg, hS.both hg⟩⟩
theorem keep_less {F : List ByteArray} {W : List (List Nat)} {l : List Bool} (hl : l.length = W.length) (h : (pick W (maskF (keepB F (pick W l)) W l)).length ≠ (pick W l).length) : cntT (maskF (keepB F (pick W l)) W l) < cntT l := by
  have hr := keep_rnd F W l hl
  rw [pick_len _ _ (by rw [maskF_len, hl]), pick_len _ _ hl] at h
  have := (cntT_mono hr.1 (fun i hi => ((hr.2 i).1 hi).1)).1
  omega
noncomputable def statesM (F : List ByteArray) (L : Nat) : List (List Nat) := (allW L 2).filter fun wd => avoM F (wordT wd) && hasB ((pairsM F L).map wordT) (wordT wd)
end Go.Proofs.Ytcilgihmaaobeaa
end

section
namespace Go.Proofs.Ytcilgihmaaobeaa
open Go.RowKit Go.Deep Go.Sd
set_option linter.unusedSimpArgs false
/-- A word of two letters. -/
def Two (u : List Nat) : Prop := ∃ a b, u = [a, b] ∧ a < 3 ∧ b < 3
theorem byte_of {a : Nat} (h : a < 3) : (UInt8.ofNat (97 + a)).toNat = 97 + a := by
  rw [UInt8.toNat_ofNat']
  omega
/-- What the walks read of a word of two letters. -/
theorem Two.facts {u : List Nat} (h : Two u) : (wordT u).size = 2 ∧ (∀ h, ((wordT u)[0]'h).toNat = 97 + u.getD 0 0) ∧ (∀ h, ((wordT u)[1]'h).toNat = 97 + u.getD 1 0) ∧ (wordT u).extract 1 2 = wordT (u.drop 1) ∧ (wordT u).extract 0 2 = wordT u := by
  obtain ⟨a, b, rfl, ha, hb⟩ := h
  refine ⟨rfl, fun _ => byte_of ha, fun _ => byte_of hb, ?_, ?_⟩
  · apply ByteArray.ext
    apply Array.toList_inj.1
    rw [extract_list]
    rfl
  · apply ByteArray.ext
    apply Array.toList_inj.1
    rw [extract_list]
    rfl
theorem wordT_append (u v : List Nat) : wordT u ++ wordT v = wordT (u ++ v) := by
  apply ByteArray.ext
  apply Array.toList_inj.1
  simp [wordT]
theorem avo_q {w : World} {v : Value} {F : List ByteArray} {s : ByteArray} (h : TsR w v F) (hs : s.size ≤ 1000) (hf : ∀ f, f ∈ F → f.size ≤ 1048576) :
    Calls Try.prog 88 #[v, .string s] w (Reads w (.bool (avoM F s))) :=
  (l3Avoids_c h hs hf).mono fun _ _ h => ⟨h.1, by rw [← h.2]; exact Drawn.refl _⟩
theorem two_add' {u v : ByteArray} (hu : u.size = 2) (hv : v.size = 1) : ¬ u.size + v.size > 9223372036854775807 := by omega
theorem _root_.Go.Sd.SlOf.dn' {w : World} {v : Value} {xs : List ByteArray} (h : TsR w v xs) (n : Nat) : TsR (w.drewN n) v xs := TsR.frame _ _ _ _ h (below_drewN (Below.refl _ _) n)
set_option maxHeartbeats 2000000 in
set_option maxRecDepth 100000 in
theorem l3GoesT_c {w : World} {vs vl : Value} {z : Sh} {out : List (List Nat)} {u : List Nat} (hz : ShR w vs z) (hf : ∀ f, f ∈ z.2 → f.size ≤ 1048576) (hl : TsR w vl (out.map wordT)) (hu : Two u) (ho : ∀ v, v ∈ out → Two v) :
    Calls Try.prog 126 #[vs, vl, .string (wordT u), .bool true] w fun e w' => e = .returned (.bool (out.any fun v => goesB z.2 u v)) ∧ Below w.heap.size w w' := by
  obtain ⟨L, F⟩ := z
  obtain ⟨va, rfl, ht⟩ := hz
  simp only at ht hf
  obtain ⟨w0, e0, hb0, c0, c1, m0⟩ := boxA_ex w 44 (.int .i64 L) va
  have HFr := Lib.hid (TsR.frame _ _ _ _ ht hb0)
  have hl0 := TsR.frame _ _ _ _ hl hb0
  have HB := Lib.hid hb0
  have Ho := Lib.hid ho
  have Hf := Lib.hid hf
  have hlen := hl0.len
  obtain ⟨a, c, rfl, -, -, hcell⟩ := hl0.shape
  rw [List.length_map] at hcell hlen
  obtain ⟨va1, va2, rfl, -⟩ := HFr.out.shape
  generalize hfl : F.length = fl at c1 e0 HFr ⊢
  have Hfl := Lib.hid hfl
  have HT := Lib.hid (fun (k : Nat) (v : List Nat) (h : out[k]? = some v) (h2 : goesB F u v = true) => (show (out.any fun v => goesB F u v) = true from List.any_eq_true.2 ⟨v, List.mem_of_getElem? h, h2⟩))
  have HN := Lib.hid (fun (h : ∀ (k : Nat) (v : List Nat), out[k]? = some v → (goesB F u v) = false) => (show (out.any fun v => goesB F u v) = false from by
    rw [List.any_eq_false]
    intro v hv
    obtain ⟨k, hk⟩ := List.getElem?_of_mem hv
    rw [h k v hk]
    decide))
  have HG := Lib.hid (fun (v : List Nat) => (show (goesB F u v) = (decide (u.getD 1 0 = v.getD 0 0) && avoM F (wordT (u ++ v.drop 1))) from rfl))
  generalize (out.any fun v => goesB F u v) = T at HT HN ⊢
  obtain ⟨n, hn⟩ : ∃ n, n = out.length := ⟨_, rfl⟩
  have Hn := Lib.hid hn
  rw [List.length_map, ← hn]
  rw [← hn] at hcell hlen
  have Hcell := Lib.hid hcell
  obtain ⟨hus, hu0, hu1, hue, -⟩ := hu.facts
  obtain ⟨su, hsu⟩ : ∃ x, x = wordT u := ⟨_, rfl⟩
  obtain ⟨ui, hui⟩ : ∃ x, x = 97 + u.getD 1 0 := ⟨_, rfl⟩
  have Hui := Lib.hid hui
  rw [← hui] at hu1
  rw [← hsu] at hus hu0 hu1 hue ⊢
  have Hsu := Lib.hid hsu
  have Hue := Lib.hid hue
  clear hcell hn ht hl hl0 hf hfl ho hb0 hsu hui hue
  go_enter Try.func126, Try.ntmps126
  go_wp2
  go_loopg [9] n (fun g i wr => ∃ (j : Nat), i = .int .i64 j ∧ j + g = n ∧ Hid (∀ (k : Nat) (v : List Nat), k < j → out[k]? = some v → (goesB F u v) = false) ∧ Drawn w0 wr)
  case atStart => exact ⟨0, rfl, by omega, Lib.hid (fun k v hk => absurd hk (Nat.not_lt_zero _)), Drawn.refl _⟩
  case round =>
    obtain ⟨j, rfl, hj, HK, hdr⟩ := hrel
    by_cases h1 : j < n
    · have h1i : (j : Int) < (n : Int) := by omega
      obtain ⟨g, rfl⟩ : ∃ x, gk = x + 1 := ⟨gk - 1, by omega⟩
      obtain ⟨b, o, rfl, -, hx⟩ := Hcell.out (by omega)
      obtain ⟨v, hv, -⟩ := at_lt (xs := out) (k := j) (by rw [← Hn.out]; exact h1)
      obtain ⟨y, hy, hy2⟩ := hx j (wordT v) (by rw [List.getElem?_map, hv]; rfl)
      have hy2' : y = .string (wordT v) := hy2
      subst hy2'
      rw [← hdr.cell] at c0 c1 hy
      obtain ⟨hvs, hv0, hv1, hve, -⟩ := (Ho.out v (List.mem_of_getElem? hv)).facts
      obtain ⟨sv, hsv⟩ : ∃ x, x = wordT v := ⟨_, rfl⟩
      obtain ⟨vi, hvi⟩ : ∃ x, x = 97 + v.getD 0 0 := ⟨_, rfl⟩
      have Hvi := Lib.hid hvi
      rw [← hvi] at hv0
      rw [← hsv] at hvs hv0 hv1 hve hy
      have Hsv := Lib.hid hsv
      have Hve := Lib.hid hve
      have hex : (sv).extract 1 (sv).size = (sv).extract 1 2 := by rw [hvs]
      have hes : ((sv).extract 1 2).size = 1 := by rw [ByteArray.size_extract, hvs]; rfl
      have HA := Lib.hid (fun (wb : World) (hd : Drawn w0 wb) (m : Nat) => Reads.quiet (avo_q (s := su ++ sv.extract 1 2) ((hd.read TsR.frame HFr.out).dn' m) (by rw [ByteArray.size_append, hes, hus]; omega) Hf.out))
      have hcat : (su ++ sv.extract 1 2) = (wordT (u ++ v.drop 1)) := by rw [Hve.out, Hsu.out, wordT_append]
      have hcatA : avoM F (su ++ sv.extract 1 2) = avoM F (wordT (u ++ v.drop 1)) := by rw [hcat]
      clear hcat
      have hnx : (goesB F u v) = false → Hid (∀ (k : Nat) (v : List Nat), k < j + 1 → out[k]? = some v → (goesB F u v) = false) := fun hg => Lib.hid fun k v' hk hv' => by
        by_cases e : k = j
        · rw [e, hv] at hv'
          cases hv'
          exact hg
        · exact HK.out k v' (by omega) hv'
      have hyes : (goesB F u v) = true → Hid (T = true) := fun hg => Lib.hid (HT.out j v hv hg)
      have hgv := HG.out v
      clear hx hv hy2 hsv hvi hve
      have hs0 : ¬ (su).size + ((sv).extract 1 2).size > 9223372036854775807 := two_add' (hus) hes
      by_cases hq : u.getD 1 0 = v.getD 0 0
      · have t0 : vi = ui := by rw [Hvi.out, Hui.out, hq]
        have t1 : ((vi : Int) == (ui : Int)) = true := by rw [t0]; simp
        clear t0
        rw [decide_eq_true hq, Bool.true_and] at hgv
        cases hav : avoM F (wordT (u ++ v.drop 1)) with
        | true =>
          have hT := hyes (by rw [hgv, hav])
          rw [hcatA, hav] at HA
          clear hgv hav hyes hnx HK hcatA
          go_wp2
          go_quiet ((go_at_call 88; refine HA.out _ ?_ _; first | exact hdq | exact hdr))
          go_wp2
          go_ret
          exact ⟨by rw [hT.out]; rfl, HB.out.trans ((hdr.drewN _).below _)⟩
        | false =>
          have hK2 := hnx (by rw [hgv, hav])
          rw [hcatA, hav] at HA
          clear hgv hav hyes hnx HK hcatA
          go_wp2
          go_quiet ((go_at_call 88; refine HA.out _ ?_ _; first | exact hdq | exact hdr))
          go_wp2
          go_quiet (fail)
          go_wp2
          go_roundg g
          case measure => omega
          case rel => exact ⟨j + 1, by go_num, by omega, hK2, hdr.drewN _⟩
      · have t1 : ((vi : Int) == (ui : Int)) = false := by
          have : vi ≠ ui := by rw [Hvi.out, Hui.out]; omega
          simp; omega
        rw [decide_eq_false hq, Bool.false_and] at hgv
        have hK2 := hnx hgv
        clear hgv hyes hnx HK HA hcatA
        go_wp2
        go_quiet (fail)
        go_wp2
        go_quiet (fail)
        go_wp2
        go_roundg g
        case measure => omega
        case rel => exact ⟨j + 1, by go_num, by omega, hK2, hdr.drewN _⟩
    · have h1i : ¬ (j : Int) < (n : Int) := by omega
      have hT := Lib.hid (HN.out fun k v hk => HK.out k v (by have := (List.getElem?_eq_some_iff.1 hk).1; rw [← Hn.out] at this; omega) hk)
      clear HK
      go_wp2
      go_ret
      exact ⟨by rw [hT.out]; rfl, HB.out.trans (hdr.below _)⟩
set_option maxHeartbeats 2000000 in
set_option maxRecDepth 100000 in
theorem l3GoesF_c {w : World} {vs vl : Value} {z : Sh} {out : List (List Nat)} {u : List Nat} (hz : ShR w vs z) (hf : ∀ f, f ∈ z.2 → f.size ≤ 1048576) (hl : TsR w vl (out.map wordT)) (hu : Two u) (ho : ∀ v, v ∈ out → Two v) :
    Calls Try.prog 126 #[vs, vl, .string (wordT u), .bool false] w fun e w' => e = .returned (.bool (out.any fun v => goesB z.2 v u)) ∧ Below w.heap.size w w' := by
  obtain ⟨L, F⟩ := z
  obtain ⟨va, rfl, ht⟩ := hz
  simp only at ht hf
  obtain ⟨w0, e0, hb0, c0, c1, m0⟩ := boxA_ex w 44 (.int .i64 L) va
  have HFr := Lib.hid (TsR.frame _ _ _ _ ht hb0)
  have hl0 := TsR.frame _ _ _ _ hl hb0
  have HB := Lib.hid hb0
  have Ho := Lib.hid ho
  have Hf := Lib.hid hf
  have hlen := hl0.len
  obtain ⟨a, c, rfl, -, -, hcell⟩ := hl0.shape
  rw [List.length_map] at hcell hlen
  obtain ⟨va1, va2, rfl, -⟩ := HFr.out.shape
  generalize hfl : F.length = fl at c1 e0 HFr ⊢
  have Hfl := Lib.hid hfl
  have HT := Lib.hid (fun (k : Nat) (v : List Nat) (h : out[k]? = some v) (h2 : goesB F v u = true) => (show (out.any fun v => goesB F v u) = true from List.any_eq_true.2 ⟨v, List.mem_of_getElem? h, h2⟩))
  have HN := Lib.hid (fun (h : ∀ (k : Nat) (v : List Nat), out[k]? = some v → (goesB F v u) = false) => (show (out.any fun v => goesB F v u) = false from by
    rw [List.any_eq_false]
    intro v hv
    obtain ⟨k, hk⟩ := List.getElem?_of_mem hv
    rw [h k v hk]
    decide))
  have HG := Lib.hid (fun (v : List Nat) => (show (goesB F v u) = (decide (v.getD 1 0 = u.getD 0 0) && avoM F (wordT (v ++ u.drop 1))) from rfl))
  generalize (out.any fun v => goesB F v u) = T at HT HN ⊢
  obtain ⟨n, hn⟩ : ∃ n, n = out.length := ⟨_, rfl⟩
  have Hn := Lib.hid hn
  rw [List.length_map, ← hn]
  rw [← hn] at hcell hlen
  have Hcell := Lib.hid hcell
  obtain ⟨hus, hu0, hu1, hue, -⟩ := hu.facts
  obtain ⟨su, hsu⟩ : ∃ x, x = wordT u := ⟨_, rfl⟩
  obtain ⟨ui, hui⟩ : ∃ x, x = 97 + u.getD 0 0 := ⟨_, rfl⟩
  have Hui := Lib.hid hui
  rw [← hui] at hu0
  rw [← hsu] at hus hu0 hu1 hue ⊢
  have Hsu := Lib.hid hsu
  have Hue := Lib.hid hue
  clear hcell hn ht hl hl0 hf hfl ho hb0 hsu hui hue
  go_enter Try.func126, Try.ntmps126
  go_wp2
  go_loopg [9] n (fun g i wr => ∃ (j : Nat), i = .int .i64 j ∧ j + g = n ∧ Hid (∀ (k : Nat) (v : List Nat), k < j → out[k]? = some v → (goesB F v u) = false) ∧ Drawn w0 wr)
  case atStart => exact ⟨0, rfl, by omega, Lib.hid (fun k v hk => absurd hk (Nat.not_lt_zero _)), Drawn.refl _⟩
  case round =>
    obtain ⟨j, rfl, hj, HK, hdr⟩ := hrel
    by_cases h1 : j < n
    · have h1i : (j : Int) < (n : Int) := by omega
      obtain ⟨g, rfl⟩ : ∃ x, gk = x + 1 := ⟨gk - 1, by omega⟩
      obtain ⟨b, o, rfl, -, hx⟩ := Hcell.out (by omega)
      obtain ⟨v, hv, -⟩ := at_lt (xs := out) (k := j) (by rw [← Hn.out]; exact h1)
      obtain ⟨y, hy, hy2⟩ := hx j (wordT v) (by rw [List.getElem?_map, hv]; rfl)
      have hy2' : y = .string (wordT v) := hy2
      subst hy2'
      rw [← hdr.cell] at c0 c1 hy
      obtain ⟨hvs, hv0, hv1, hve, -⟩ := (Ho.out v (List.mem_of_getElem? hv)).facts
      obtain ⟨sv, hsv⟩ : ∃ x, x = wordT v := ⟨_, rfl⟩
      obtain ⟨vi, hvi⟩ : ∃ x, x = 97 + v.getD 1 0 := ⟨_, rfl⟩
      have Hvi := Lib.hid hvi
      rw [← hvi] at hv1
      rw [← hsv] at hvs hv0 hv1 hve hy
      have Hsv := Lib.hid hsv
      have Hve := Lib.hid hve
      have hex : (su).extract 1 (su).size = (su).extract 1 2 := by rw [hus]
      have hes : ((su).extract 1 2).size = 1 := by rw [ByteArray.size_extract, hus]; rfl
      have HA := Lib.hid (fun (wb : World) (hd : Drawn w0 wb) (m : Nat) => Reads.quiet (avo_q (s := sv ++ su.extract 1 2) ((hd.read TsR.frame HFr.out).dn' m) (by rw [ByteArray.size_append, hes, hvs]; omega) Hf.out))
      have hcat : (sv ++ su.extract 1 2) = (wordT (v ++ u.drop 1)) := by rw [Hue.out, Hsv.out, wordT_append]
      have hcatA : avoM F (sv ++ su.extract 1 2) = avoM F (wordT (v ++ u.drop 1)) := by rw [hcat]
      clear hcat
      have hnx : (goesB F v u) = false → Hid (∀ (k : Nat) (v : List Nat), k < j + 1 → out[k]? = some v → (goesB F v u) = false) := fun hg => Lib.hid fun k v' hk hv' => by
        by_cases e : k = j
        · rw [e, hv] at hv'
          cases hv'
          exact hg
        · exact HK.out k v' (by omega) hv'
      have hyes : (goesB F v u) = true → Hid (T = true) := fun hg => Lib.hid (HT.out j v hv hg)
      have hgv := HG.out v
      clear hx hv hy2 hsv hvi hve
      have hs0 : ¬ (sv).size + ((su).extract 1 2).size > 9223372036854775807 := two_add' (hvs) hes
      by_cases hq : v.getD 1 0 = u.getD 0 0
      · have t0 : vi = ui := by rw [Hvi.out, Hui.out, hq]
        have t1 : ((vi : Int) == (ui : Int)) = true := by rw [t0]; simp
        clear t0
        rw [decide_eq_true hq, Bool.true_and] at hgv
        cases hav : avoM F (wordT (v ++ u.drop 1)) with
        | true =>
          have hT := hyes (by rw [hgv, hav])
          rw [hcatA, hav] at HA
          clear hgv hav hyes hnx HK hcatA
          go_wp2
          go_quiet (fail)
          rename_i nq
          have hdq := hdr.drewN nq
          have c0q : (wr.drewN nq).cell? ⟨w.heap.size, 0, none⟩ = _ := c0
          have c1q : (wr.drewN nq).cell? ⟨w.heap.size, 1, none⟩ = _ := c1
          have hyq : (wr.drewN nq).cell? ⟨b, o + j, none⟩ = _ := hy
          generalize wr.drewN nq = wq at hdq c0q c1q hyq ⊢
          go_wp2
          go_quiet ((go_at_call 88; refine HA.out _ ?_ _; first | exact hdq | exact hdr))
          go_wp2
          go_ret
          exact ⟨by rw [hT.out]; rfl, HB.out.trans ((hdq.drewN _).below _)⟩
        | false =>
          have hK2 := hnx (by rw [hgv, hav])
          rw [hcatA, hav] at HA
          clear hgv hav hyes hnx HK hcatA
          go_wp2
          go_quiet (fail)
          rename_i nq
          have hdq := hdr.drewN nq
          have c0q : (wr.drewN nq).cell? ⟨w.heap.size, 0, none⟩ = _ := c0
          have c1q : (wr.drewN nq).cell? ⟨w.heap.size, 1, none⟩ = _ := c1
          have hyq : (wr.drewN nq).cell? ⟨b, o + j, none⟩ = _ := hy
          generalize wr.drewN nq = wq at hdq c0q c1q hyq ⊢
          go_wp2
          go_quiet ((go_at_call 88; refine HA.out _ ?_ _; first | exact hdq | exact hdr))
          go_wp2
          go_roundg g
          case measure => omega
          case rel => exact ⟨j + 1, by go_num, by omega, hK2, hdq.drewN _⟩
      · have t1 : ((vi : Int) == (ui : Int)) = false := by
          have : vi ≠ ui := by rw [Hvi.out, Hui.out]; omega
          simp; omega
        rw [decide_eq_false hq, Bool.false_and] at hgv
        have hK2 := hnx hgv
        clear hgv hyes hnx HK HA hcatA
        go_wp2
        go_quiet (fail)
        go_wp2
        go_quiet (fail)
        go_wp2
        go_roundg g
        case measure => omega
        case rel => exact ⟨j + 1, by go_num, by omega, hK2, hdr.drewN _⟩
    · have h1i : ¬ (j : Int) < (n : Int) := by omega
      have hT := Lib.hid (HN.out fun k v hk => HK.out k v (by have := (List.getElem?_eq_some_iff.1 hk).1; rw [← Hn.out] at this; omega) hk)
      clear HK
      go_wp2
      go_ret
      exact ⟨by rw [hT.out]; rfl, HB.out.trans (hdr.below _)⟩
end Go.Proofs.Ytcilgihmaaobeaa
end
