/-
  Laws for this claim's walks, contracts of the functions that it reaches.
-/
import Derived.Test.YtcilgihmaaobeaaGreatDoorFnLabelsM27
set_option linter.unusedVariables false
set_option linter.unusedSimpArgs false
section
namespace Go.Sd
open Go.RowKit Go.Deep
/-- The end of a slice of texts, where a slice at its capacity's end keeps its address. -/
theorem slot_tail {α : Type} {R : World → Value → α → Prop} {w : World} {b o n c : Nat} {xs : List α} {x : α} (h : SlOf R w (.slice (some ⟨b, o, none⟩) n c) (x :: xs)) : SlOf R w (.slice (some (if c = 1 then ⟨b, o, none⟩ else ⟨b, o + 1, none⟩)) (n - 1) (c - 1)) xs := by
  obtain ⟨vs, ⟨hl, a', c', hv, hnc, hcm, hn, hx⟩, hvl, hvr⟩ := h
  simp only [Value.slice.injEq] at hv
  obtain ⟨rfl, rfl, rfl⟩ := hv
  simp only [List.length_cons] at hvl
  refine ⟨vs.drop 1, ⟨by simp; omega, some (if c = 1 then ⟨b, o, none⟩ else ⟨b, o + 1, none⟩), c - 1, by simp, by simp; omega, by omega, (fun h => nomatch h), ?_⟩, by simp; omega, fun i u y hu hy => ?_⟩
  · by_cases hc1 : c = 1
    · left
      exact List.drop_eq_nil_of_le (by omega)
    · rcases hx with h0 | ⟨b', o', e, hb, hc⟩
      · left; simp [h0]
      · simp only [Option.some.injEq, Addr.mk.injEq] at e
        obtain ⟨rfl, rfl, -⟩ := e
        refine Or.inr ⟨b, o + 1, by rw [if_neg hc1], hb, fun i u hu => ?_⟩
        rw [List.getElem?_drop] at hu
        rw [Nat.add_assoc]
        exact hc (1 + i) u hu
  · rw [List.getElem?_drop] at hu
    exact hvr (1 + i) u y hu (by rw [Nat.add_comm 1 i, List.getElem?_cons_succ]; exact hy)
theorem txt_at {w : World} {v : Value} {xs : List ByteArray} (h : SlOf (ValR Value.string) w v xs) {k : Nat} {x : ByteArray} (hx : xs[k]? = some x) : ∃ b o c, v = .slice (some ⟨b, o, none⟩) xs.length c ∧ w.cell? ⟨b, o + k, none⟩ = some (.string x) := by
  obtain ⟨a, c, rfl, -, -, hc⟩ := h.shape
  obtain ⟨hk, -⟩ := List.getElem?_eq_some_iff.1 hx
  obtain ⟨b, o, rfl, -, hcl⟩ := hc (by omega)
  obtain ⟨u, hu, hux⟩ := hcl k x hx
  exact ⟨b, o, c, rfl, by rw [hu, show u = .string x from hux]⟩
end Go.Sd
namespace Go.Proofs.YtcilgihmaaobeaaGreatDoor
open Go.RowKit Go.Deep Go.Sd
set_option linter.unusedSimpArgs false
theorem New.ofStrs {lo : Nat} {w : World} {v : Value} {d : Int} {F : List ByteArray} (h : New OStrs lo w v F) : New OSh lo w (.agg #[.int .i64 d, v]) (d, F) := by
  obtain ⟨G, hG, hf⟩ := h
  exact ⟨G, ⟨v, rfl, hG⟩, hf⟩
/-- A shift as the draws make it: small. -/
def SmSh (z : Sh) : Prop := 0 ≤ z.1 ∧ z.1 ≤ 9 ∧ z.2.length ≤ 9 ∧ ∀ f, f ∈ z.2 → f.size ≤ 8
theorem tail1 {b o n c : Nat} (h1 : 1 ≤ n) (w : World) : (Instr.slice 29 (.slice (some ⟨b, o, none⟩) n c) (some (.int .i64 1)) none none).run Tryz.prog w = .ok (.slice (some (if c = 1 then ⟨b, o, none⟩ else ⟨b, o + 1, none⟩)) (n - 1) (c - 1)) w := by
  have h2 : (1 : Int) ≤ (n : Int) := by omega
  by_cases e : c = 1
  · rw [if_pos e]
    simp [go_sem, h2, e]
  · rw [if_neg e]
    simp [go_sem, h2, e]
set_option maxHeartbeats 4000000 in
set_option maxRecDepth 100000 in
theorem ParseShift_c {w : World} {t : ByteArray} {d : Nat} {F : List ByteArray} (ht : t.size ≤ 100) (hsp : splitB t 32 = fmtN d :: F) (h9 : d ≤ 9) (hF : F.length ≤ 8) (hf : ∀ f, f ∈ F → f.size ≤ 8) :
    Calls Tryz.prog 100 #[.string t] w fun e w' => ∃ (v : Value) (b : Bool) (z : Sh), e = .returned (.tuple #[v, .bool b]) ∧ SmSh z ∧ New OSh w.heap.size w' v z ∧ Below w.heap.size w w' := by
  have HS := Lib.hid (fun w1 => (show Calls Tryz.prog 119 #[.string t, .int .u8 32] w1 (Makes OTxt w1 (fmtN d :: F)) from by rw [← hsp]; exact SplitByte_c (w := w1) (s := t) (c := 32) (by omega) (by omega)))
  have HPI := Lib.hid (fun w1 => ParseInt_dig (w := w1) h9)
  have HIs := Lib.hid (fun w1 v (h : ShR w1 v ((d : Int), F)) => spec_IsShift_c h (fun f h => by have := hf f h; omega))
  have HSm := Lib.hid (show SmSh ((d : Int), F) from ⟨by simp, by simp; omega, by simp; omega, hf⟩)
  have HSm0 := Lib.hid (show SmSh (0, []) from ⟨by simp, by simp, by simp, by simp⟩)
  have HF := Lib.hid hF
  generalize shiftM ((d : Int), F) = ok at HIs
  obtain ⟨wA, eA, hA0⟩ : ∃ wA, wA = w.alloc (.cells #[.int .i64 0, .slice none 0 0] 37) ∧ Below w.heap.size w wA := ⟨_, rfl, (Below.refl _ _).alloc (Nat.le_refl _) _⟩
  have R0 := Lib.hid (show wA.cell? ⟨w.heap.size, 0, none⟩ = some (.int .i64 0) from by rw [eA]; simp [go_sem])
  have R1 := Lib.hid (show wA.cell? ⟨w.heap.size, 1, none⟩ = some (.slice none 0 0) from by rw [eA]; simp [go_sem])
  have F0 := Lib.hid (show wA.frozen? ⟨w.heap.size, 0, none⟩ = false from by rw [eA]; simp [go_sem])
  have F1 := Lib.hid (show wA.frozen? ⟨w.heap.size, 1, none⟩ = false from by rw [eA]; simp [go_sem])
  have zA : w.heap.size < wA.heap.size := by rw [eA]; simp
  have HA := Lib.hid hA0
  have eW := eA.symm
  clear eA hA0 hsp hF hf
  go_enter Tryz.func100, Tryz.ntmps100
  go_wp2_with fail
  (with_reducible refine (HS.out _).mono ?_)
  rintro e w1 ⟨vp, rfl, hn, hb1⟩
  obtain ⟨pb, po, pc, rfl, g0⟩ := txt_at (New.txt hn) (k := 0) (x := fmtN d) rfl
  rw [Nat.add_zero] at g0
  have htl := slot_tail (New.txt hn)
  have hcl : (fmtN d :: F).length = F.length + 1 := rfl
  rw [hcl] at htl hn ⊢
  rw [Nat.add_sub_cancel] at htl
  replace R0 := Lib.hid ((hb1.cell (p := ⟨w.heap.size, 0, none⟩) zA).trans R0.out)
  replace R1 := Lib.hid ((hb1.cell (p := ⟨w.heap.size, 1, none⟩) zA).trans R1.out)
  replace F0 := Lib.hid ((hb1.frozen (p := ⟨w.heap.size, 0, none⟩) zA).trans F0.out)
  replace F1 := Lib.hid ((hb1.frozen (p := ⟨w.heap.size, 1, none⟩) zA).trans F1.out)
  replace HA := Lib.hid (HA.out.trans (hb1.mono HA.out.size))
  replace zA : w.heap.size < w1.heap.size := Nat.lt_of_lt_of_le zA hb1.size
  have HT := Lib.hid htl
  clear hb1 eW HS hn htl hcl
  go_wp2_with fail
  (with_reducible refine (HPI.out _).mono ?_)
  rintro e w2 ⟨rfl, hb2⟩
  replace g0 := (hb2.cell (p := ⟨pb, po, none⟩) (World.block_lt_of_cell? _ _ g0)).trans g0
  replace R0 := Lib.hid ((hb2.cell (p := ⟨w.heap.size, 0, none⟩) zA).trans R0.out)
  replace R1 := Lib.hid ((hb2.cell (p := ⟨w.heap.size, 1, none⟩) zA).trans R1.out)
  replace F0 := Lib.hid ((hb2.frozen (p := ⟨w.heap.size, 0, none⟩) zA).trans F0.out)
  replace F1 := Lib.hid ((hb2.frozen (p := ⟨w.heap.size, 1, none⟩) zA).trans F1.out)
  replace HA := Lib.hid (HA.out.trans (hb2.mono HA.out.size))
  replace zA : w.heap.size < w2.heap.size := Nat.lt_of_lt_of_le zA hb2.size
  replace HT := Lib.hid (SlOf.frame (fun _ _ _ _ h _ => h) _ _ _ _ HT.out hb2)
  have hsl := fun w' => tail1 (b := pb) (o := po) (n := F.length + 1) (c := pc) (by omega) w'
  rw [Nat.add_sub_cancel] at hsl
  obtain ⟨ad, had⟩ : ∃ y, y = (if pc = 1 then (⟨pb, po, none⟩ : Addr) else ⟨pb, po + 1, none⟩) := ⟨_, rfl⟩
  rw [← had] at HT
  simp only [← had] at hsl
  have hbe : Below w2.heap.size w2 (w2.alloc (.cells #[] 9)) := (Below.refl _ _).alloc (Nat.le_refl _) _
  have HTz := Lib.hid (SlOf.frame (fun _ _ _ _ h _ => h) _ _ _ _ HT.out hbe)
  have HBe := Lib.hid hbe
  clear hb2 HPI had hbe
  go_wp2_with (first | (at_builtin; refine wpl_append_vals (f := Value.string) (fun _ => rfl) rfl (.tmp 18) (.tmp 20) 29 rfl 9 (.string ⟨#[]⟩) 16 Tryz.underlying29 infoTx rfl (New.empty (R := OValR Value.string) (lo := w2.heap.size) w2 (Nat.le_refl _)) (by simp) HTz.out rfl rfl (by have := HF.out; simp only [List.length_nil]; omega) (by have := HF.out; simp only [List.length_nil]; omega) ?_; intro v4 w4 hn4 _ _ hb4; obtain ⟨xa, xn, xc, rfl⟩ := hn4.slice; have Hn4 := Lib.hid hn4; have HB4 := Lib.hid (HBe.out.trans hb4); clear hn4 hb4) | fail)
  have hn4 : New OStrs w2.heap.size w4 (.slice xa xn xc) F := Hn4.out
  obtain ⟨w5, e5, hb5, c0, c1, m5⟩ := boxA_ex w4 37 (.int .i64 (d : Int)) (.slice xa xn xc)
  rw [e5]
  have hn5 : New OStrs w2.heap.size w5 (.slice xa xn xc) F := New.keep OStrs.kept hn4 hb5 (Nat.le_refl _)
  (with_reducible refine (HIs.out w5 (.agg #[.int .i64 (d : Int), .slice xa xn xc]) (show ShR w5 (.agg #[.int .i64 (d : Int), .slice xa xn xc]) ((d : Int), F) from New.sh (New.ofStrs hn5))).mono ?_)
  rintro e w6 ⟨rfl, hb6⟩
  have hn6 : New OStrs w2.heap.size w6 (.slice xa xn xc) F := New.keep OStrs.kept hn5 hb6 (Nat.le_refl _)
  have hb26 : Below w2.heap.size w2 w6 := (HB4.out.trans (hb5.mono HB4.out.size)).trans (hb6.mono (Nat.le_trans HB4.out.size hb5.size))
  replace c0 := (hb6.cell (p := ⟨w4.heap.size, 0, none⟩) m5).trans c0
  replace c1 := (hb6.cell (p := ⟨w4.heap.size, 1, none⟩) m5).trans c1
  replace R0 := Lib.hid ((hb26.cell (p := ⟨w.heap.size, 0, none⟩) zA).trans R0.out)
  replace R1 := Lib.hid ((hb26.cell (p := ⟨w.heap.size, 1, none⟩) zA).trans R1.out)
  replace F0 := Lib.hid ((hb26.frozen (p := ⟨w.heap.size, 0, none⟩) zA).trans F0.out)
  replace F1 := Lib.hid ((hb26.frozen (p := ⟨w.heap.size, 1, none⟩) zA).trans F1.out)
  replace HA := Lib.hid (HA.out.trans (hb26.mono HA.out.size))
  have Hn6 := Lib.hid hn6
  have hne : w.heap.size ≠ w4.heap.size := by have := HB4.out.size; omega
  clear hn4 hn5 hn6 hb5 hb6 hb26 e5 hsl HIs Hn4 HT HTz HBe HB4 g0 h9 ht
  cases ok with
  | false =>
    have r0 := R0.out
    have r1 := R1.out
    have t0 := F0.out
    have t1 := F1.out
    go_wp2
    have s0 := World.cell?_setCell_same w6 _ (.int .i64 0) R0.out
    have u1 := (World.cell?_setCell_other _ ⟨w.heap.size, 0, none⟩ _ (.int .i64 0) (by simp)).trans R1.out
    have s1 := World.cell?_setCell_same _ _ (.slice none 0 0) u1
    have s2 := (World.cell?_setCell_other _ ⟨w.heap.size, 1, none⟩ ⟨w.heap.size, 0, none⟩ (.slice none 0 0) (by simp)).trans s0
    refine bodyPost_ret (v := .tuple #[.agg #[.int .i64 0, .slice none 0 0], .bool false]) (by simp [results, Tryz.results100, go_sem, s0, s1, s2]) rfl ?_
    exact ⟨_, false, (0, []), rfl, HSm0.out, New.ofStrs (New.nil _ _), ((HA.out.setCell (p := ⟨w.heap.size, 0, none⟩) (by simp) _).setCell (p := ⟨w.heap.size, 1, none⟩) (by simp) _)⟩
  | true =>
    have r0 := R0.out
    have r1 := R1.out
    have t0 := F0.out
    have t1 := F1.out
    go_wp2
    have s0 := World.cell?_setCell_same w6 _ (.int .i64 (d : Int)) R0.out
    have u1 := (World.cell?_setCell_other _ ⟨w.heap.size, 0, none⟩ _ (.int .i64 (d : Int)) (by simp)).trans R1.out
    have s1 := World.cell?_setCell_same _ _ (.slice xa xn xc) u1
    have s2 := (World.cell?_setCell_other _ ⟨w.heap.size, 1, none⟩ ⟨w.heap.size, 0, none⟩ (.slice xa xn xc) (by simp)).trans s0
    refine bodyPost_ret (v := .tuple #[.agg #[.int .i64 (d : Int), .slice xa xn xc], .bool true]) (by simp [results, Tryz.results100, go_sem, s0, s1, s2]) rfl ?_
    exact ⟨_, true, ((d : Int), F), rfl, HSm.out, New.ofStrs ((New.storeLow OStrs.held (New.storeLow OStrs.held Hn6.out zA _) zA _).mono (Nat.le_of_lt zA)), ((HA.out.setCell (p := ⟨w.heap.size, 0, none⟩) (by simp) _).setCell (p := ⟨w.heap.size, 1, none⟩) (by simp) _)⟩
end Go.Proofs.YtcilgihmaaobeaaGreatDoor
end

section
namespace Go.Proofs.YtcilgihmaaobeaaGreatDoor
open Go.RowKit Go.Deep Go.Sd
set_option linter.unusedSimpArgs false
abbrev extW (L : Nat) (w : List Nat) : List (List Nat) := (List.range L).map fun x => w ++ [x]
set_option maxHeartbeats 4000000 in
set_option maxRecDepth 100000 in
theorem l2All_c {w : World} {L n : Nat} (hL0 : 0 < L) (hL : L ≤ 3) (hn : n ≤ 6) :
    Calls Tryz.prog 58 #[.int .i64 L, .int .i64 n] w (Makes (OStrL 9) w ((allW L n).map wordT)) := by
  have Hln := Lib.hid (fun i (hi : i ≤ n) => (show (allW L i).length ≤ 729 from by rw [allW_len hL0]; exact pow_le hL (by omega)))
  have Hme := Lib.hid (fun i wd (h : wd ∈ allW L i) => allW_mem hL0 h)
  have HLn := Lib.hid hL0
  have H0 := Lib.hid (show New (OStrL 9) w.heap.size (w.alloc (.cells #[.string ⟨#[]⟩] 9)) (.slice (some ⟨w.heap.size, 0, none⟩) 1 1) ((allW L 0).map wordT) from New.oneG (e := 9) OStr.kept (lo := w.heap.size) (w := w) (u := .string ⟨#[]⟩) (x := ⟨#[]⟩) ⟨[], ⟨rfl, rfl⟩, by simp [Fresh]⟩ (Nat.le_refl _))
  have HB0 := Lib.hid (show Below w.heap.size w (w.alloc (.cells #[.string ⟨#[]⟩] 9)) from (Below.refl _ _).alloc (Nat.le_refl _) _)
  clear hL0
  go_enter Tryz.func58, Tryz.ntmps58
  go_wp2
  go_loopg [5, 6] n (fun g vs i wr => ∃ (k : Nat) (a : Option Addr) (c : Nat), vs = .slice a (allW L k).length c ∧ i = .int .i64 k ∧ k + g = n ∧ Hid (New (OStrL 9) w.heap.size wr (.slice a (allW L k).length c) ((allW L k).map wordT)) ∧ Hid (Below w.heap.size w wr))
  case atStart => exact ⟨0, _, _, rfl, rfl, by omega, H0, HB0⟩
  case round =>
    clear H0 HB0
    obtain ⟨k, a, c, rfl, rfl, hk, HN, HB⟩ := hrel
    obtain ⟨wq, rfl⟩ : ∃ x, x = wr := ⟨_, rfl⟩
    by_cases hlt : k < n
    · have hz := HB.out.size
      have HA := Lib.hid (show allW L (k + 1) = (allW L k).flatMap (extW L) from rfl)
      have hAl := Hln.out k (by omega)
      have hAl1 := Hln.out (k + 1) (by omega)
      have HAm := Lib.hid (fun wd h => Hme.out k wd h)
      have hki : (k : Int) < (n : Int) := by omega
      rw [HA.out] at hAl1
      have HS1 := Lib.hid ((Sep.one (OwnOf.kept OStr.kept).held HN.out).new (OwnOf.kept OStr.kept).held ((Below.refl _ _).alloc (Nat.le_refl _) _) hz (New.empty (e := 9) (R := OValR Value.string) wq (Nat.le_refl _)))
      obtain ⟨w2, e2⟩ : ∃ x, x = wq.alloc (.cells #[] 9) := ⟨_, rfl⟩
      rw [← e2] at HS1
      have HB1 := Lib.hid (show Below w.heap.size w w2 from by rw [e2]; exact HB.out.alloc hz _)
      have e2s := e2.symm
      generalize allW L k = A at HN HA hAl hAl1 HAm HS1 ⊢
      clear e2 HN HB
      go_wp2
      clear e2s
      go_loopg [7, 8] A.length (fun g2 vn i wr => ∃ (j : Nat) (na : Option Addr) (nc : Nat), vn = .slice na ((A.take j).flatMap (extW L)).length nc ∧ i = .int .i64 j ∧ j + g2 = A.length ∧ Hid (Sep w.heap.size wr [Res.strs 9 (.slice na ((A.take j).flatMap (extW L)).length nc) (((A.take j).flatMap (extW L)).map wordT), Res.strs 9 (.slice a A.length c) (A.map wordT)]) ∧ Hid (Below w.heap.size w wr))
      case atStart => exact ⟨0, _, _, rfl, rfl, by omega, HS1, HB1⟩
      case round =>
        clear HS1 HB1 hz
        obtain ⟨j, na, nc, rfl, rfl, hj, HS, HB⟩ := hrel
        obtain ⟨wj, rfl⟩ : ∃ x, x = wr := ⟨_, rfl⟩
        by_cases hjl : j < A.length
        · obtain ⟨wd, hwd, _⟩ := at_lt hjl
          have HT := Lib.hid (show (A.take (j + 1)).flatMap (extW L) = (A.take j).flatMap (extW L) ++ extW L wd from by rw [← take_snoc' hwd, List.flatMap_append]; simp)
          have Hle := Lib.hid (show ((A.take (j + 1)).flatMap (extW L)).length ≤ 729 from by
            have h1 : (A.flatMap (extW L)).length = ((A.take (j + 1)).flatMap (extW L)).length + ((A.drop (j + 1)).flatMap (extW L)).length := by rw [← List.length_append, ← List.flatMap_append, List.take_append_drop]
            omega)
          have hm := HAm.out wd (List.mem_of_getElem? hwd)
          have Hwd := Lib.hid hwd
          have hji : (j : Int) < (A.length : Int) := by omega
          generalize (A.take j).flatMap (extW L) = B at HS HT ⊢
          have HS0 := Lib.hid (show Sep w.heap.size wj [Res.strs 9 (.slice na (B ++ (extW L wd).take 0).length nc) ((B ++ (extW L wd).take 0).map wordT), Res.strs 9 (.slice a A.length c) (A.map wordT)] from by simpa using HS.out)
          clear HS hwd
          go_wp2
          go_loopg [7, 9] L (fun g3 vn i wr => ∃ (x : Nat) (na : Option Addr) (nc : Nat), vn = .slice na (B ++ (extW L wd).take x).length nc ∧ i = .int .i64 x ∧ x + g3 = L ∧ Hid (Sep w.heap.size wr [Res.strs 9 (.slice na (B ++ (extW L wd).take x).length nc) ((B ++ (extW L wd).take x).map wordT), Res.strs 9 (.slice a A.length c) (A.map wordT)]) ∧ Hid (Below w.heap.size w wr))
          case atStart => exact ⟨0, na, nc, by simp, rfl, by omega, HS0, HB⟩
          case round =>
            clear HS0 HB
            obtain ⟨x, na, nc, rfl, rfl, hx, HS, HB⟩ := hrel
            obtain ⟨wx, rfl⟩ : ∃ x, x = wr := ⟨_, rfl⟩
            by_cases hxl : x < L
            · obtain ⟨_, _, hv, hq⟩ := HS.out.swap.strsAt
              obtain ⟨b, e1, hb, hc⟩ := hq (by simp; omega)
              simp at hv
              obtain ⟨rfl, rfl⟩ := hv
              subst e1
              have g0 := hc j (wordT wd) (by simp [Hwd.out])
              have hz := HB.out.size
              have hxi : (x : Int) < (L : Int) := by omega
              have hext : (extW L wd).take (x + 1) = (extW L wd).take x ++ [wd ++ [x]] := (take_snoc' (by simp [List.getElem?_range hxl])).symm
              have hBl : (B ++ (extW L wd).take x).length ≤ 729 := by
                have h1 := Hle.out
                rw [HT.out] at h1
                have h2 : ((extW L wd).take x).length ≤ (extW L wd).length := by rw [List.length_take]; omega
                simp only [List.length_append] at h1 ⊢
                omega
              have hb6a : Below wx.heap.size wx ((wx.alloc (.cells #[.string (wordT (wd ++ [x]))] 9)).drew) := ((Below.refl _ _).alloc (Nat.le_refl _) _).drew
              obtain ⟨v7, w7, hr7, hS7, hb7⟩ := Sep.push (P := Tryz.prog) OStr.kept 29 29 (.string ⟨#[]⟩) 16 Tryz.underlying29 infoStr rfl HS.out hz hb6a (q := .string (wordT (wd ++ [x]))) (x := wordT (wd ++ [x])) ⟨[], ⟨rfl, rfl⟩, by simp [Fresh]⟩ (bb := wx.heap.size) (c := 1) (World.cell?_alloc_at _ _ _ 0 rfl) (by simp only [List.length_map]; omega) (by simp only [List.length_map]; omega)
              have e7 : (B ++ (extW L wd).take x).map wordT ++ [wordT (wd ++ [x])] = (B ++ (extW L wd).take (x + 1)).map wordT := by rw [hext]; simp
              obtain ⟨na', nc', rfl, _⟩ := hS7.strsAt
              have e7' : ((B ++ (extW L wd).take x).map wordT ++ [wordT (wd ++ [x])]).length = (B ++ (extW L wd).take x).length + 1 := by simp only [List.length_append, List.length_map, List.length_cons, List.length_nil]
              have e8 : (B ++ (extW L wd).take (x + 1)).length = (B ++ (extW L wd).take x).length + 1 := by rw [hext]; simp only [List.length_append, List.length_cons, List.length_nil]; omega
              rw [e7'] at hr7 hS7
              rw [e7] at hS7
              have HS7 := Lib.hid hS7
              have HB7 := Lib.hid (HB.out.trans hb7)
              have Hr := Lib.hid hr7
              have E8 := Lib.hid e8
              have habc := fun w => abc_slice (x := x) (by omega) w
              have hcat := wordT_snoc wd x
              have hsz1 : (wordT [x]).size = 1 := by simp [wordT, ByteArray.size]
              have hws : (wordT wd).size = wd.length := wordT_size wd
              have hsz2 : ¬ (9223372036854775807 < wd.length + 1) := by rw [hm.1]; omega
              have hSd : wx.drew.cell? ⟨b, j, none⟩ = some (.string (wordT wd)) := g0
              have hS1 : ((wx.alloc (.cells #[.string (wordT (wd ++ [x]))] 9)).drew).cell? ⟨b, j, none⟩ = some (.string (wordT wd)) := (hb6a.cell (p := ⟨b, j, none⟩) hb).trans g0
              generalize (B ++ (extW L wd).take x).length = bl at Hr hBl E8 HS7 ⊢
              have hx3 : IntKind.i64.wrap ((x : Int) + 1) = (x : Int) + 1 := IntWalk.i64_in _ (by omega)
              clear HS HB hS7 hb7 hr7 hb6a e7 e7' e8 hq hc hext hm g0
              go_wp2
              refine wp_region_M 12 (fun w' => w'.cell? ⟨b, j, none⟩ = some (.string (wordT wd))) (by kernel_rfl) ?_
              refine wpAnyM_take 0 (v := ?_) rfl (by kernel_rfl) (by kernel_rfl) (by kernel_rfl) (by kernel_rfl) (fun _ _ _ h => h) (Or.inl ⟨by rfl, ?_⟩) hSd ?_
              rotate_left
              · (intro w hSw; (try dsimp only at hSw); go_simp) <;> (try with_reducible rfl)
              try simp only [Act.put, List.setIfInBounds_toArray, List.set_cons_zero, List.set_cons_succ]
              refine wpAnyM_take 1 (v := ?_) rfl (by kernel_rfl) (by kernel_rfl) (by kernel_rfl) (by kernel_rfl) (fun _ _ _ h => h) (Or.inl ⟨by rfl, ?_⟩) hSd ?_
              rotate_left
              · (intro w hSw; (try dsimp only at hSw); go_simp) <;> (try with_reducible rfl)
              try simp only [Act.put, List.setIfInBounds_toArray, List.set_cons_zero, List.set_cons_succ]
              refine wpAnyM_take 2 (v := ?_) rfl (by kernel_rfl) (by kernel_rfl) (by kernel_rfl) (by kernel_rfl) (fun _ _ _ h => h) (Or.inl ⟨by rfl, ?_⟩) hSd ?_
              rotate_left
              · (intro w hSw; (try dsimp only at hSw); go_simp) <;> (try with_reducible rfl)
              try simp only [Act.put, List.setIfInBounds_toArray, List.set_cons_zero, List.set_cons_succ]
              refine wpAnyM_take 3 (v := ?_) rfl (by kernel_rfl) (by kernel_rfl) (by kernel_rfl) (by kernel_rfl) (fun _ _ _ h => h) (Or.inl ⟨by rfl, ?_⟩) hSd ?_
              rotate_left
              · (intro w hSw; (try dsimp only at hSw); go_simp) <;> (try with_reducible rfl)
              try simp only [Act.put, List.setIfInBounds_toArray, List.set_cons_zero, List.set_cons_succ]
              refine wpAnyM_take 4 (v := ?_) rfl (by kernel_rfl) (by kernel_rfl) (by kernel_rfl) (by kernel_rfl) (fun _ _ _ h => h) (Or.inl ⟨by rfl, ?_⟩) hSd ?_
              rotate_left
              · (intro w hSw; (try dsimp only at hSw); go_simp) <;> (try with_reducible rfl)
              try simp only [Act.put, List.setIfInBounds_toArray, List.set_cons_zero, List.set_cons_succ]
              refine wpAnyM_take 5 (v := ?_) rfl (by kernel_rfl) (by kernel_rfl) (by kernel_rfl) (by kernel_rfl) (fun _ _ _ h => h) (Or.inl ⟨by rfl, ?_⟩) hSd ?_
              rotate_left
              · (intro w hSw; (try dsimp only at hSw); go_simp) <;> (try with_reducible rfl)
              try simp only [Act.put, List.setIfInBounds_toArray, List.set_cons_zero, List.set_cons_succ]
              refine wpAnyM_take 6 (v := ?_) rfl (by kernel_rfl) (by kernel_rfl) (by kernel_rfl) (by kernel_rfl) (fun _ _ _ h => h) (Or.inl ⟨by rfl, ?_⟩) hSd ?_
              rotate_left
              · (intro w hSw; (try dsimp only at hSw); go_simp) <;> (try with_reducible rfl)
              try simp only [Act.put, List.setIfInBounds_toArray, List.set_cons_zero, List.set_cons_succ]
              refine wpAnyM_take 7 (v := ?_) rfl (by kernel_rfl) (by kernel_rfl) (by kernel_rfl) (by kernel_rfl) (fun _ _ _ h => h) (Or.inl ⟨by rfl, ?_⟩) hSd ?_
              rotate_left
              · (intro w hSw; (try dsimp only at hSw); go_simp) <;> (try with_reducible rfl)
              try simp only [Act.put, List.setIfInBounds_toArray, List.set_cons_zero, List.set_cons_succ]
              refine wpAnyM_take 8 (v := ?_) rfl (by kernel_rfl) (by kernel_rfl) (by kernel_rfl) (by kernel_rfl) (fun _ _ _ h => h) (Or.inl ⟨by rfl, ?_⟩) hSd ?_
              rotate_left
              · (intro w hSw; (try dsimp only at hSw); go_simp) <;> (try with_reducible rfl)
              try simp only [Act.put, List.setIfInBounds_toArray, List.set_cons_zero, List.set_cons_succ]
              refine wpAnyM_take 9 (v := ?_) rfl (by kernel_rfl) (by kernel_rfl) (by kernel_rfl) (by kernel_rfl) (fun _ _ _ h => h) (Or.inl ⟨by rfl, ?_⟩) hSd ?_
              rotate_left
              · (intro w hSw; (try dsimp only at hSw); go_simp) <;> (try with_reducible rfl)
              try simp only [Act.put, List.setIfInBounds_toArray, List.set_cons_zero, List.set_cons_succ]
              refine wpAnyM_one 10 (by kernel_rfl) rfl (fun K hK => ?_)
              go_simp
              refine hK.out _ _ (fun _ => hS1) ?_
              clear hK K
              try simp only [Act.put, List.setIfInBounds_toArray, List.set_cons_zero, List.set_cons_succ]
              refine wpAnyM_one 11 (by kernel_rfl) rfl (fun K hK => ?_)
              refine step_append_run (by rfl) (.tmp 28) (.tmp 38) 29 (by rfl) (by rfl) (by rfl) Hr.out ?_
              refine hK.out _ _ (fun h => absurd h (not_remM (by kernel_rfl))) ?_
              clear hK K
              try simp only [Act.put, List.setIfInBounds_toArray, List.set_cons_zero, List.set_cons_succ]
              refine wpAnyM_one 12 (by kernel_rfl) rfl (fun K hK => ?_)
              go_simp
              refine hK.out _ _ (fun h => absurd h (not_remM (by kernel_rfl))) ?_
              clear hK K
              try simp only [Act.put, List.setIfInBounds_toArray, List.set_cons_zero, List.set_cons_succ]
              refine wpAnyM_done (by kernel_rfl) ?_ _
              all_goals (
                go_wp2
                go_roundg (L - (x + 1))
                case measure => omega
                case rel => exact ⟨x + 1, _, _, by rw [E8.out], by go_num, by omega, by rw [E8.out]; exact HS7, HB7⟩)
            · have hxe : x = L := by omega
              have HS2 := Lib.hid (show Sep w.heap.size wx [Res.strs 9 (.slice na ((A.take (j + 1)).flatMap (extW L)).length nc) (((A.take (j + 1)).flatMap (extW L)).map wordT), Res.strs 9 (.slice a A.length c) (A.map wordT)] from by
                have h := HS.out
                rw [List.take_of_length_le (by simp; omega)] at h
                rw [HT.out]
                exact h)
              have E2 := Lib.hid (show (B ++ (extW L wd).take x).length = ((A.take (j + 1)).flatMap (extW L)).length from by rw [List.take_of_length_le (by simp; omega), HT.out])
              have hxi : ¬ ((x : Int) < (L : Int)) := by omega
              generalize (B ++ (extW L wd).take x).length = bl at E2 ⊢
              clear HS hxe HT
              go_wp2
              go_roundg (A.length - (j + 1))
              case measure => omega
              case rel => exact ⟨j + 1, na, nc, by rw [E2.out], by go_num, by omega, HS2, HB⟩
        · have HR := Lib.hid (show New (OStrL 9) w.heap.size wj (.slice na (allW L (k + 1)).length nc) ((allW L (k + 1)).map wordT) from by
            have h := HS.out.headNew
            rw [List.take_of_length_le (by omega)] at h
            rw [HA.out]
            exact h)
          have E2 := Lib.hid (show ((A.take j).flatMap (extW L)).length = (allW L (k + 1)).length from by rw [List.take_of_length_le (by omega), HA.out])
          have hji : ¬ ((j : Int) < (A.length : Int)) := by omega
          generalize ((A.take j).flatMap (extW L)).length = bl at E2 ⊢
          clear HS HA
          go_wp2
          go_roundg (n - (k + 1))
          case measure => omega
          case rel => exact ⟨k + 1, na, nc, by rw [E2.out], by go_num, by omega, HR, HB⟩
    · obtain rfl : k = n := by omega
      have hki : ¬ ((k : Int) < (k : Int)) := by omega
      have HR := Lib.hid HN.out
      generalize (allW L k).length = bl at HR ⊢
      clear HN
      go_wp2
      go_ret
      exact ⟨_, rfl, HR.out, HB.out⟩
end Go.Proofs.YtcilgihmaaobeaaGreatDoor
end

section
namespace Go.Proofs.YtcilgihmaaobeaaGreatDoor
open Go.RowKit Go.Deep Go.Sd
set_option linter.unusedSimpArgs false
set_option maxHeartbeats 2000000 in
set_option maxRecDepth 100000 in
theorem filteredM_c {w : World} {L n : Nat} (hL0 : 0 < L) (hL : L ≤ 3) (hn : n ≤ 6) {F : FuncId} {recv : Value} {f : List Nat → Bool} (hcf : ∀ (args : Array Value) (w : World), (callFunc F args).run Tryz.prog w = .ok (.enter F args) w) (hF : ∀ w1 wd, Below w.heap.size w w1 → wd.length = n → (∀ x, x ∈ wd → x < L) → Calls Tryz.prog F #[recv, .string (wordT wd)] w1 fun e w' => e = .returned (.bool (f wd)) ∧ Below w1.heap.size w1 w') :
    Calls Tryz.prog 37 #[.int .i64 L, .int .i64 n, .func (.func F) #[recv] #[]] w (Makes (OStrL 9) w (((allW L n).filter f).map wordT)) := by
  have HW := Lib.hid (fun w1 => wordsOf_c (w := w1) hL0 hL hn)
  have Hm := Lib.hid (fun wd (h : wd ∈ allW L n) => allW_mem hL0 h)
  have HF := Lib.hid hF
  have hM : (allW L n).length ≤ 729 := by rw [allW_len hL0]; exact pow_le hL hn
  have H0 := Lib.hid (New.empty (e := 9) (R := OValR Value.string) w (Nat.le_refl _))
  generalize allW L n = A at HW Hm hM ⊢
  clear hF
  obtain ⟨w0, e0⟩ : ∃ x, x = w.alloc (.cells #[] 9) := ⟨_, rfl⟩
  have B0 := Lib.hid (show Below w.heap.size w w0 from by rw [e0]; exact (Below.refl _ _).alloc (Nat.le_refl _) _)
  rw [← e0] at H0
  have e0s := e0.symm
  clear e0
  go_enter Tryz.func37, Tryz.ntmps37
  go_wp2_with fail
  refine (HW.out _).mono ?_
  rintro e w1 ⟨r, rfl, hn1, hb1⟩
  have hzw := B0.out.size
  have hs1 := ((Sep.one (OwnOf.kept OStr.kept).held H0.out).new (OwnOf.kept OStr.kept).held hb1 hzw hn1).swap
  obtain ⟨ra, rc, er, _⟩ := hs1.swap.strsAt
  subst er
  rw [List.length_map] at hs1 ⊢
  have HS1 := Lib.hid hs1
  have HB1 := Lib.hid (B0.out.trans (hb1.mono hzw))
  clear hn1 hb1 hs1 H0 B0 e0s
  go_wp2
  go_loopg [7, 15] A.length (fun g vs i wr => ∃ (k : Nat) (a : Option Addr) (c : Nat), vs = .slice a ((A.take k).filter f).length c ∧ i = .int .i64 k ∧ k + g = A.length ∧ Hid (Sep w.heap.size wr [Res.strs 9 (.slice a ((A.take k).filter f).length c) (((A.take k).filter f).map wordT), Res.strs 9 (.slice ra A.length rc) (A.map wordT)]) ∧ Hid (Below w.heap.size w wr))
  case atStart => exact ⟨0, _, _, rfl, rfl, by omega, HS1, HB1⟩
  case round =>
    clear HS1 HB1
    obtain ⟨k, a, c, rfl, rfl, hk, HS, HB⟩ := hrel
    by_cases hlt : k < A.length
    · obtain ⟨wd, hwd, _⟩ := at_lt hlt
      obtain ⟨_, _, hv, hq⟩ := HS.out.swap.strsAt
      obtain ⟨b, e1, hb, hc⟩ := hq (by simp; omega)
      simp at hv
      obtain ⟨rfl, rfl⟩ := hv
      subst e1
      have g0 := hc k (wordT wd) (by simp [hwd])
      have hm := Hm.out wd (List.mem_of_getElem? hwd)
      have C1 := Lib.hid (HF.out wr wd HB.out hm.1 hm.2)
      have hz := HB.out.size
      have hki : (k : Int) < (A.length : Int) := by omega
      have HT := Lib.hid (show (A.take (k + 1)).filter f = (A.take k).filter f ++ (if f wd = true then [wd] else []) from by rw [← take_snoc' hwd, List.filter_append]; congr 1; simp [List.filter_cons])
      have hfl : ((A.take k).filter f).length ≤ 729 := Nat.le_trans (List.length_filter_le _ _) (by simp; omega)
      generalize hfn : (A.take k).filter f = fl at HS HT hfl
      clear hfn hwd hq hc hm
      go_wp2_with fail
      refine C1.out.mono ?_
      rintro e w2 ⟨rfl, hb2⟩
      have HS2 := Lib.hid (HS.out.below hb2 (Nat.le_refl _))
      have HB2 := Lib.hid (HB.out.trans (hb2.mono hz))
      have g2 := (hb2.cell (p := ⟨b, k, none⟩) hb).trans g0
      have hz2 := HB2.out.size
      clear C1 hb2 HS HB g0 hb
      cases hf : f wd with
      | false =>
        have HT2 := Lib.hid (show (A.take (k + 1)).filter f = fl from by rw [HT.out, hf]; simp)
        clear HT
        go_wp2
        go_roundg (A.length - (k + 1))
        case measure => omega
        case rel => exact ⟨k + 1, _, _, by rw [HT2.out], by go_num, by omega, by rw [HT2.out]; exact HS2, HB2⟩
      | true =>
        have HT2 := Lib.hid (show (A.take (k + 1)).filter f = fl ++ [wd] from by rw [HT.out, hf]; simp)
        obtain ⟨v', w3, hr, hs3, hb3⟩ := Sep.push (P := Tryz.prog) OStr.kept 29 29 (.string ⟨#[]⟩) 16 Tryz.underlying29 infoStr rfl HS2.out hz2 (w1 := w2.alloc (.cells #[.string (wordT wd)] 9)) ((Below.refl _ _).alloc (Nat.le_refl _) _) (q := .string (wordT wd)) (x := wordT wd) ⟨[], ⟨rfl, rfl⟩, by simp [Fresh]⟩ (bb := w2.heap.size) (c := 1) (World.cell?_alloc_at _ _ _ 0 rfl) (by simp; omega) (by simp; omega)
        obtain ⟨a', c', ev, _⟩ := hs3.strsAt
        subst ev
        have e5 : (fl.map wordT ++ [wordT wd]).length = (fl ++ [wd]).length := by simp
        have e6 : fl.map wordT ++ [wordT wd] = (fl ++ [wd]).map wordT := by simp
        rw [e5, e6] at hs3
        rw [e5] at hr
        have e7 : (fl ++ [wd]).length = fl.length + 1 := by simp
        rw [e7] at hs3 hr
        have HS3 := Lib.hid hs3
        have HB3 := Lib.hid (HB2.out.trans hb3)
        have Hr := Lib.hid hr
        have E7 := Lib.hid e7
        clear HT hs3 hr hb3 e5 e6 e7 HS2 HB2
        go_wp2_with (first
          | (at_builtin; refine wpl_append_run rfl (.tmp 22) (.tmp 24) 29 rfl rfl rfl Hr.out ?_)
          | fail)
        go_roundg (A.length - (k + 1))
        case measure => omega
        case rel => exact ⟨k + 1, _, _, by rw [HT2.out, E7.out], by go_num, by omega, by rw [HT2.out, E7.out]; exact HS3, HB3⟩
    · have HR := Lib.hid (show New (OStrL 9) w.heap.size wr (.slice a ((A.take k).filter f).length c) ((A.filter f).map wordT) from by have h := HS.out.headNew; rw [List.take_of_length_le (by omega)] at h ⊢; exact h)
      have hki : ¬ ((k : Int) < (A.length : Int)) := by omega
      generalize ((A.take k).filter f).length = fl at HR
      clear HS
      go_wp2
      go_ret
      exact ⟨_, rfl, HR.out, HB.out⟩
end Go.Proofs.YtcilgihmaaobeaaGreatDoor
end
