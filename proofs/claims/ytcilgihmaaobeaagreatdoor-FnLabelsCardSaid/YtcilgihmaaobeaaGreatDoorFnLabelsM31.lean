/-
  Laws for this claim's walks, contracts of the functions that it reaches.
-/
import Derived.Test.YtcilgihmaaobeaaGreatDoorFnLabelsM28
import Derived.Test.YtcilgihmaaobeaaGreatDoorFnLabelsM26
set_option linter.unusedVariables false
set_option linter.unusedSimpArgs false
section
namespace Go.Proofs.YtcilgihmaaobeaaGreatDoor
open Go.RowKit Go.Deep Go.Sd
set_option linter.unusedSimpArgs false
/-- The one cell of a text. -/
def scell (x : ByteArray) : List Value := [.string x]
theorem scell_lay : Lay 1 scell := ⟨by decide, fun _ => rfl, fun x u h => by
  have e : u = .string x := by simpa [scell] using h
  rw [e]; rfl⟩
theorem scell_flat : ∀ (xs : List ByteArray), xs.flatMap scell = xs.map Value.string
  | [] => rfl
  | x :: xs => by rw [List.flatMap_cons, scell_flat xs]; rfl
abbrev ResTx (v : Value) (xs : List ByteArray) : Res := Res.row 9 1 scell v xs
theorem RowG.strs {w : World} {v : Value} {xs : List ByteArray} {F : List Nat} (h : RowG 9 1 scell w v xs F) : OStrs w v xs F := by
  obtain ⟨h1, rfl⟩ := h
  rw [scell_flat] at h1
  refine ⟨xs.map Value.string, List.replicate xs.length [], h1, by simp, fun i u x G hu hx hG => ?_, ?_⟩
  · rw [List.getElem?_map, hx] at hu
    simp at hu
    exact ⟨hu.symm, (List.mem_replicate.1 (List.mem_of_getElem? hG)).2⟩
  · rw [show (List.replicate xs.length ([] : List Nat)).flatten = [] from List.flatten_eq_nil_iff.2 fun G hG => (List.mem_replicate.1 hG).2]
    simp
theorem stail {b n c k : Nat} (hk : k ≤ n) (w : World) : (Instr.slice 29 (.slice (some ⟨b, 0, none⟩) n c) (some (.int .i64 (k : Int))) none none).run Tryz.prog w = .ok (.slice (some (if c = k then ⟨b, 0, none⟩ else ⟨b, k * 1, none⟩)) (n - k) (c - k)) w := by
  have h0 : (0 : Int) ≤ (k : Int) := by omega
  have h1 : (k : Int) ≤ (n : Int) := by omega
  by_cases e : c = k
  · rw [if_pos e]
    simp [go_sem, h0, h1, e]
  · rw [if_neg e]
    simp [go_sem, h0, h1, e]
theorem shead {b n c k : Nat} (hk : k ≤ c) (w : World) : (Instr.slice 29 (.slice (some ⟨b, 0, none⟩) n c) none (some (.int .i64 (k : Int))) none).run Tryz.prog w = .ok (.slice (some ⟨b, 0, none⟩) k c) w := by
  have h0 : (0 : Int) ≤ (k : Int) := by omega
  have h1 : (k : Int) ≤ (c : Int) := by omega
  by_cases e : c = 0
  · subst e
    obtain rfl : k = 0 := by omega
    simp [go_sem]
  · simp [go_sem, h0, h1, e]
theorem stail0 (w : World) : (Instr.slice 29 (.slice none 0 0) (some (.int .i64 ((0 : Nat) : Int))) none none).run Tryz.prog w = .ok (.slice none 0 0) w := by simp [go_sem]
theorem shead0 (w : World) : (Instr.slice 29 (.slice none 0 0) none (some (.int .i64 ((0 : Nat) : Int))) none).run Tryz.prog w = .ok (.slice none 0 0) w := by simp [go_sem]
/-- Both parts of an own slice of texts. -/
theorem scut {lo : Nat} {w : World} {v : Value} {xs : List ByteArray} {rs : List Res} (h : Sep lo w (ResTx v xs :: rs)) {k : Nat} (hk : k ≤ xs.length) :
    ∃ ta tc ha hc, (∀ w' : World, (Instr.slice 29 v (some (.int .i64 (k : Int))) none none).run Tryz.prog w' = .ok (.slice ta (xs.length - k) tc) w') ∧ RowRd scell w (.slice ta (xs.length - k) tc) (xs.drop k) ∧ (∀ ad, ta = some ad → ad.block < w.heap.size) ∧
      (∀ w' : World, (Instr.slice 29 v none (some (.int .i64 (k : Int))) none).run Tryz.prog w' = .ok (.slice ha k hc) w') ∧ ∀ (w' : World) (rs' : List Res), Sep lo w' (ResTx v xs :: rs') → Sep lo w' (ResTx (.slice ha k hc) (xs.take k) :: rs') := by
  obtain ⟨G, ⟨hG, eG⟩, -, -⟩ := h.head
  rcases hG.2 with ⟨rfl, h0⟩ | ⟨g, cap, cur, rfl, -, hg, hnc, -⟩
  · rw [List.length_eq_zero_iff] at h0
    subst h0
    obtain rfl : k = 0 := by simpa using hk
    exact ⟨none, 0, none, 0, stail0, ⟨none, 0, rfl, fun _ => ⟨rfl, rfl⟩, (fun ad e => nomatch e)⟩, (fun ad e => nomatch e), shead0, fun w' rs' h' => h'⟩
  · have hcap : xs.length ≤ cap := by omega
    refine ⟨_, _, _, _, stail hk, ?_, fun ad e => ?_, shead (Nat.le_trans hk hcap), fun w' rs' h' => h'.preRow scell_lay hk⟩
    · by_cases e : cap = k
      · have hd : xs.drop k = [] := List.drop_eq_nil_of_le (by omega)
        rw [hd, show xs.length - k = 0 by omega]
        exact ⟨_, _, rfl, (fun e2 => nomatch e2), (fun ad _ j u hu => by cases hu)⟩
      · rw [if_neg e]
        exact h.dropRd scell_lay hk _
    · cases e
      have hlt : g < w.heap.size := by
        by_cases hgs : g < w.heap.size
        · exact hgs
        · rw [Array.getElem?_eq_none (by omega)] at hg; cases hg
      split <;> exact hlt
set_option maxHeartbeats 4000000 in
set_option maxRecDepth 100000 in
theorem l2Put_c {lo : Nat} {w : World} {v : Value} {xs : List ByteArray} {rs : List Res} {x : ByteArray} (h : Sep lo w (ResTx v xs :: rs)) (hlo : lo ≤ w.heap.size) (hn : xs.length ≤ 100) :
    Calls Tryz.prog 101 #[v, .string x] w fun e w' => ∃ (v' : Value) (ys : List ByteArray), e = .returned v' ∧ (ys.length ≤ xs.length + 1 ∧ ∀ y, y ∈ ys → y = x ∨ y ∈ xs) ∧ Sep lo w' (ResTx v' ys :: rs) ∧ Below lo w w' := by
  obtain ⟨a, c, rfl, hcell⟩ := h.rowAt scell_lay
  have HC := Lib.hid hcell
  have HS := Lib.hid h
  have HCut := Lib.hid (fun k (hk : k ≤ xs.length) => scut h hk)
  obtain ⟨n, hn'⟩ : ∃ n, n = xs.length := ⟨_, rfl⟩
  have Hn := Lib.hid hn'
  rw [← hn'] at HS HC HCut hn ⊢
  clear h hcell hn'
  go_enter Tryz.func101, Tryz.ntmps101
  go_wp2
  go_loopg [5] n (fun g i wr => ∃ (k : Nat), i = .int .i64 k ∧ k + g = n ∧ wr = w)
  case atStart => exact ⟨0, rfl, by omega, rfl⟩
  case round =>
    obtain ⟨k, rfl, hk, rfl⟩ := hrel
    have hkn' : k ≤ n := by omega
    by_cases hkn : k < n
    · have hki : (k : Int) < (n : Int) := by omega
      obtain ⟨g, rfl⟩ : ∃ x, gk = x + 1 := ⟨gk - 1, by omega⟩
      obtain ⟨y, hy, -⟩ := at_lt (xs := xs) (k := k) (by rw [← Hn.out]; exact hkn)
      obtain ⟨b, rfl, hbl, hbw, hx⟩ := HC.out (by omega)
      have g0 := hx k y 0 (.string y) hy rfl
      rw [Nat.mul_one, Nat.add_zero] at g0
      clear hx
      cases hl : Op.bytesLess y.toList x.toList with
      | true =>
        clear HS HC HCut hy
        go_wp2
        go_roundg g
        case measure => omega
        case rel => exact ⟨k + 1, by go_num, by omega, rfl⟩
      | false =>
        cases hq : (y.toList == x.toList) with
        | true =>
          clear hy
          go_wp2
          go_ret
          exact ⟨_, xs, rfl, ⟨by have := Hn.out; omega, fun y hy => Or.inr hy⟩, HS.out, Below.refl _ _⟩
        | false =>
          clear hy
          obtain ⟨ta, tc, ha, hc, e1, hrd, htb, e2, hpre⟩ := HCut.out k hkn'
          obtain ⟨w2, ew2⟩ : ∃ y, y = wr.alloc (.cells #[] 9) := ⟨_, rfl⟩
          have hs2 := HS.out.new RowG.held ((Below.refl _ _).alloc (Nat.le_refl _) (.cells #[] 9)) hlo (New.emptyRow (sz := 1) (f := scell) 9 wr)
          rw [← ew2] at hs2
          have hb2 : Below wr.heap.size wr w2 := by rw [ew2]; exact (Below.refl _ _).alloc (Nat.le_refl _) _
          have z2 : lo ≤ w2.heap.size := Nat.le_trans hlo hb2.size
          have hrd2 := RowRd.frame hrd hb2 (fun ad n' c' e => by simp only [Value.slice.injEq] at e; exact htb ad e.1)
          have hdl : (xs.drop k).length = n - k := by rw [List.length_drop, ← Hn.out]
          obtain ⟨v3, w3, hr3, hs3, hb3⟩ := hs2.pushRow (P := Tryz.prog) scell_lay 29 29 (.string ⟨#[]⟩) 16 Tryz.underlying29 infoTx rfl z2 hrd2 (by rw [hdl, List.length_nil]; omega) (by rw [hdl, List.length_nil]; omega)
          rw [List.nil_append] at hs3
          have z3 : lo ≤ w3.heap.size := Nat.le_trans z2 hb3.size
          obtain ⟨ra, rc, er, -⟩ := hs3.rowAt scell_lay
          rw [hdl] at er
          subst er
          have hs3p := hpre _ _ hs3.swap
          obtain ⟨w4, e4⟩ : ∃ y, y = w3.alloc (.cells #[.string x] 9) := ⟨_, rfl⟩
          have hb4 : Below w3.heap.size w3 w4 := by rw [e4]; exact (Below.refl w3.heap.size w3).alloc (Nat.le_refl _) _
          have htk : (xs.take k).length = k := by rw [List.length_take, ← Hn.out]; omega
          obtain ⟨v5, w5, hr5, hs5, hb5⟩ := hs3p.pushG (P := Tryz.prog) scell_lay 29 29 (.string ⟨#[]⟩) 16 Tryz.underlying29 infoTx rfl z3 (w1 := w4) hb4 x (bb := w3.heap.size) 1 (fun j u hj => by
            rw [e4, World.cell?_alloc_at _ _ _ j rfl]
            simpa [scell] using hj) (by rw [htk]; omega) (by rw [htk]; omega)
          have z5 : lo ≤ w5.heap.size := Nat.le_trans z3 hb5.size
          obtain ⟨v6, w6, hr6, hs6, hb6⟩ := hs5.pushRow (P := Tryz.prog) scell_lay 29 29 (.string ⟨#[]⟩) 16 Tryz.underlying29 infoTx rfl z5 (hs5.swap.rowRd scell_lay).1 (by rw [hdl, List.length_append, htk, List.length_singleton]; omega) (by rw [hdl, List.length_append, htk, List.length_singleton]; omega)
          obtain ⟨va5, c5, ev5, -⟩ := hs5.rowAt scell_lay
          obtain ⟨va6, c6, ev6, -⟩ := hs6.rowAt scell_lay
          have HS6 := Lib.hid hs6.swap.tail
          have HB6 := Lib.hid ((((Below.refl lo wr).trans (hb2.mono hlo)).trans hb3).trans (hb5.trans hb6))
          have HL6 := Lib.hid (show (xs.take k ++ [x] ++ xs.drop k).length = n + 1 ∧ ∀ y, y ∈ xs.take k ++ [x] ++ xs.drop k → y = x ∨ y ∈ xs from ⟨by rw [List.length_append, List.length_append, htk, hdl, List.length_singleton]; omega, fun y hy => by
            rcases List.mem_append.1 hy with hy | hy
            · rcases List.mem_append.1 hy with hy | hy
              · exact Or.inr (List.mem_of_mem_take hy)
              · exact Or.inl (by simpa using hy)
            · exact Or.inr (List.mem_of_mem_drop hy)⟩)
          subst ev5
          subst ev6
          generalize xs.take k ++ [x] ++ xs.drop k = ys at HS6 HL6 hr6
          generalize (xs.take k ++ [x]).length = l5 at hr5 hr6
          generalize ys.length = l6 at hr6 HS6
          have Hr3 := Lib.hid hr3
          have Hr5 := Lib.hid hr5
          have Hr6 := Lib.hid hr6
          have ew2s := ew2.symm
          have e4s := e4.symm
          clear hrd htb hpre hs2 hb2 hrd2 hdl hr3 hs3 hb3 hs3p hb4 htk hr5 hs5 hb5 hr6 hs6 hb6 ew2 e4 HC HCut HS
          go_wp2_with (first
            | (at_builtin; refine wpl_append_run rfl (.tmp 34) (.tmp 37) 29 rfl rfl rfl Hr3.out ?_)
            | (at_builtin; refine wpl_append_run rfl (.tmp 41) (.tmp 43) 29 rfl rfl rfl Hr5.out ?_)
            | (at_builtin; refine wpl_append_run rfl (.tmp 44) (.tmp 45) 29 rfl rfl rfl Hr6.out ?_)
            | fail)
          go_ret
          have hfin : ys.length ≤ n + 1 ∧ ∀ y, y ∈ ys → y = x ∨ y ∈ xs := ⟨by have := HL6.out.1; omega, HL6.out.2⟩
          first | exact ⟨_, ys, rfl, hfin, HS6.out, HB6.out⟩ | exact ⟨_, rfl, ys, hfin, HS6.out, HB6.out⟩
    · have hki : ¬ ((k : Int) < (n : Int)) := by omega
      obtain ⟨ta, tc, ha, hc, e1, hrd, htb, e2, hpre⟩ := HCut.out k hkn'
      obtain ⟨w2, ew2⟩ : ∃ y, y = wr.alloc (.cells #[] 9) := ⟨_, rfl⟩
      have hs2 := HS.out.new RowG.held ((Below.refl _ _).alloc (Nat.le_refl _) (.cells #[] 9)) hlo (New.emptyRow (sz := 1) (f := scell) 9 wr)
      rw [← ew2] at hs2
      have hb2 : Below wr.heap.size wr w2 := by rw [ew2]; exact (Below.refl _ _).alloc (Nat.le_refl _) _
      have z2 : lo ≤ w2.heap.size := Nat.le_trans hlo hb2.size
      have hrd2 := RowRd.frame hrd hb2 (fun ad n' c' e => by simp only [Value.slice.injEq] at e; exact htb ad e.1)
      have hdl : (xs.drop k).length = n - k := by rw [List.length_drop, ← Hn.out]
      obtain ⟨v3, w3, hr3, hs3, hb3⟩ := hs2.pushRow (P := Tryz.prog) scell_lay 29 29 (.string ⟨#[]⟩) 16 Tryz.underlying29 infoTx rfl z2 hrd2 (by rw [hdl, List.length_nil]; omega) (by rw [hdl, List.length_nil]; omega)
      rw [List.nil_append] at hs3
      have z3 : lo ≤ w3.heap.size := Nat.le_trans z2 hb3.size
      obtain ⟨ra, rc, er, -⟩ := hs3.rowAt scell_lay
      rw [hdl] at er
      subst er
      have hs3p := hpre _ _ hs3.swap
      obtain ⟨w4, e4⟩ : ∃ y, y = w3.alloc (.cells #[.string x] 9) := ⟨_, rfl⟩
      have hb4 : Below w3.heap.size w3 w4 := by rw [e4]; exact (Below.refl w3.heap.size w3).alloc (Nat.le_refl _) _
      have htk : (xs.take k).length = k := by rw [List.length_take, ← Hn.out]; omega
      obtain ⟨v5, w5, hr5, hs5, hb5⟩ := hs3p.pushG (P := Tryz.prog) scell_lay 29 29 (.string ⟨#[]⟩) 16 Tryz.underlying29 infoTx rfl z3 (w1 := w4) hb4 x (bb := w3.heap.size) 1 (fun j u hj => by
        rw [e4, World.cell?_alloc_at _ _ _ j rfl]
        simpa [scell] using hj) (by rw [htk]; omega) (by rw [htk]; omega)
      have z5 : lo ≤ w5.heap.size := Nat.le_trans z3 hb5.size
      obtain ⟨v6, w6, hr6, hs6, hb6⟩ := hs5.pushRow (P := Tryz.prog) scell_lay 29 29 (.string ⟨#[]⟩) 16 Tryz.underlying29 infoTx rfl z5 (hs5.swap.rowRd scell_lay).1 (by rw [hdl, List.length_append, htk, List.length_singleton]; omega) (by rw [hdl, List.length_append, htk, List.length_singleton]; omega)
      obtain ⟨va5, c5, ev5, -⟩ := hs5.rowAt scell_lay
      obtain ⟨va6, c6, ev6, -⟩ := hs6.rowAt scell_lay
      have HS6 := Lib.hid hs6.swap.tail
      have HB6 := Lib.hid ((((Below.refl lo wr).trans (hb2.mono hlo)).trans hb3).trans (hb5.trans hb6))
      have HL6 := Lib.hid (show (xs.take k ++ [x] ++ xs.drop k).length = n + 1 ∧ ∀ y, y ∈ xs.take k ++ [x] ++ xs.drop k → y = x ∨ y ∈ xs from ⟨by rw [List.length_append, List.length_append, htk, hdl, List.length_singleton]; omega, fun y hy => by
        rcases List.mem_append.1 hy with hy | hy
        · rcases List.mem_append.1 hy with hy | hy
          · exact Or.inr (List.mem_of_mem_take hy)
          · exact Or.inl (by simpa using hy)
        · exact Or.inr (List.mem_of_mem_drop hy)⟩)
      subst ev5
      subst ev6
      generalize xs.take k ++ [x] ++ xs.drop k = ys at HS6 HL6 hr6
      generalize (xs.take k ++ [x]).length = l5 at hr5 hr6
      generalize ys.length = l6 at hr6 HS6
      have Hr3 := Lib.hid hr3
      have Hr5 := Lib.hid hr5
      have Hr6 := Lib.hid hr6
      have ew2s := ew2.symm
      have e4s := e4.symm
      clear hrd htb hpre hs2 hb2 hrd2 hdl hr3 hs3 hb3 hs3p hb4 htk hr5 hs5 hb5 hr6 hs6 hb6 ew2 e4 HC HCut HS
      go_wp2_with (first
        | (at_builtin; refine wpl_append_run rfl (.tmp 34) (.tmp 37) 29 rfl rfl rfl Hr3.out ?_)
        | (at_builtin; refine wpl_append_run rfl (.tmp 41) (.tmp 43) 29 rfl rfl rfl Hr5.out ?_)
        | (at_builtin; refine wpl_append_run rfl (.tmp 44) (.tmp 45) 29 rfl rfl rfl Hr6.out ?_)
        | fail)
      go_ret
      have hfin : ys.length ≤ n + 1 ∧ ∀ y, y ∈ ys → y = x ∨ y ∈ xs := ⟨by have := HL6.out.1; omega, HL6.out.2⟩
      first | exact ⟨_, ys, rfl, hfin, HS6.out, HB6.out⟩ | exact ⟨_, rfl, ys, hfin, HS6.out, HB6.out⟩
end Go.Proofs.YtcilgihmaaobeaaGreatDoor
end

section
namespace Go.Proofs.YtcilgihmaaobeaaGreatDoor
open Go.RowKit Go.Deep Go.Sd
set_option linter.unusedSimpArgs false
theorem wordT_bytes {wd : List Nat} (hw : ∀ x, x ∈ wd → x < 3) : ∀ c, c ∈ (wordT wd).data.toList → 97 ≤ c.toNat ∧ c.toNat < 100 := by
  intro c hc
  have h1 : (wordT wd).data.toList = wd.map fun x => UInt8.ofNat (97 + x) := rfl
  rw [h1] at hc
  obtain ⟨x, hx, rfl⟩ := List.mem_map.1 hc
  have := hw x hx
  have e4 : (UInt8.ofNat (97 + x)).toNat = 97 + x := by simp; omega
  omega
end Go.Proofs.YtcilgihmaaobeaaGreatDoor
end

section
namespace Go.Proofs.YtcilgihmaaobeaaGreatDoor
open Go.RowKit Go.Deep Go.Sd
set_option linter.unusedSimpArgs false
theorem allW_two {L : Nat} (h0 : 0 < L) (h3 : L ≤ 3) {wd : List Nat} (h : wd ∈ allW L 2) : Two wd := by
  obtain ⟨h1, h2⟩ := allW_mem h0 h
  match wd, h1 with
  | [a, b], _ => exact ⟨a, b, rfl, by have := h2 a (by simp); omega, by have := h2 b (by simp); omega⟩
theorem avoW_two {F : List ByteArray} {L : Nat} (h0 : 0 < L) (h3 : L ≤ 3) {wd : List Nat} (h : wd ∈ avoW F L) : Two wd := allW_two h0 h3 (List.mem_filter.1 h).1
set_option maxHeartbeats 2000000 in
set_option maxRecDepth 100000 in
theorem l3Words_c {w : World} {vs : Value} {L : Nat} {F : List ByteArray} (hz : ShR w vs ((L : Int), F)) (h0 : 0 < L) (h3 : L ≤ 3) (hf : ∀ f, f ∈ F → f.size ≤ 1048576) :
    Calls Tryz.prog 94 #[vs, .int .i64 2] w (Makes (OStrL 9) w ((avoW F L).map wordT)) := by
  obtain ⟨va, rfl, ht⟩ := hz
  simp only at ht
  obtain ⟨w0, e0, hb0, c0, c1, m0⟩ := boxA_ex w 37 (.int .i64 L) va
  have HFr := Lib.hid (TsR.frame _ _ _ _ ht hb0)
  obtain ⟨va1, va2, rfl, -⟩ := HFr.out.shape
  generalize hfl : F.length = fl at c1 e0 HFr ⊢
  have Hf := Lib.hid hf
  have HB0 := Lib.hid hb0
  have HW := Lib.hid (fun w1 => (show Calls Tryz.prog 58 #[.int .i64 (L : Int), .int .i64 2] w1 _ from l2All_c (w := w1) (n := 2) h0 h3 (by decide)))
  have Hm := Lib.hid (fun wd (h : wd ∈ allW L 2) => allW_two h0 h3 h)
  have hM : (allW L 2).length ≤ 729 := by rw [allW_len h0]; exact pow_le h3 (by decide)
  have H0 := Lib.hid (New.empty (e := 9) (R := OValR Value.string) w0 (Nat.le_refl _))
  have HAv := Lib.hid (show avoW F L = (allW L 2).filter (fun wd => avoM F (wordT wd)) from rfl)
  generalize avoW F L = AV at HAv ⊢
  generalize allW L 2 = A at HW Hm hM HAv
  obtain ⟨w1, e1⟩ : ∃ x, x = w0.alloc (.cells #[] 9) := ⟨_, rfl⟩
  have B0 := Lib.hid (show Below w0.heap.size w0 w1 from by rw [e1]; exact (Below.refl _ _).alloc (Nat.le_refl _) _)
  rw [← e1] at H0
  have e1s := e1.symm
  have d0 := (B0.out.cell (p := ⟨w.heap.size, 0, none⟩) m0).trans c0
  clear e1 hfl hf ht hb0
  go_enter Tryz.func94, Tryz.ntmps94
  go_wp2_with fail
  refine (HW.out _).mono ?_
  rintro e w2 ⟨r, rfl, hn1, hb1⟩
  have hzw := B0.out.size
  have hs1 := ((Sep.one (OwnOf.kept OStr.kept).held H0.out).new (OwnOf.kept OStr.kept).held hb1 hzw hn1).swap
  obtain ⟨ra, rc, er, _⟩ := hs1.swap.strsAt
  subst er
  rw [List.length_map] at hs1 ⊢
  have HS1 := Lib.hid hs1
  have HB1 := Lib.hid (B0.out.trans (hb1.mono hzw))
  clear hn1 hb1 hs1 H0 B0 e1s hzw d0
  go_wp2
  go_loopg [5, 7] A.length (fun g vs i wr => ∃ (k : Nat) (a : Option Addr) (c : Nat), vs = .slice a ((A.take k).filter fun wd => avoM F (wordT wd)).length c ∧ i = .int .i64 k ∧ k + g = A.length ∧ Hid (Sep w0.heap.size wr [Res.strs 9 (.slice a ((A.take k).filter fun wd => avoM F (wordT wd)).length c) (((A.take k).filter fun wd => avoM F (wordT wd)).map wordT), Res.strs 9 (.slice ra A.length rc) (A.map wordT)]) ∧ Hid (Below w0.heap.size w0 wr))
  case atStart => exact ⟨0, _, _, rfl, rfl, by omega, HS1, HB1⟩
  case round =>
    clear HS1 HB1
    obtain ⟨k, a, c, rfl, rfl, hk, HS, HB⟩ := hrel
    obtain ⟨wB, rfl⟩ : ∃ x, x = wr := ⟨_, rfl⟩
    by_cases hlt : k < A.length
    · obtain ⟨g, rfl⟩ : ∃ x, gk = x + 1 := ⟨gk - 1, by omega⟩
      obtain ⟨wd, hwd, _⟩ := at_lt hlt
      obtain ⟨_, _, hv, hq⟩ := HS.out.swap.strsAt
      obtain ⟨b, e1, hb, hc⟩ := hq (by simp; omega)
      simp at hv
      obtain ⟨rfl, rfl⟩ := hv
      subst e1
      have g0 := hc k (wordT wd) (by simp [hwd])
      have hm := (Hm.out wd (List.mem_of_getElem? hwd)).facts.1
      have k0 := (HB.out.cell (p := ⟨w.heap.size, 0, none⟩) m0).trans c0
      have k1 := (HB.out.cell (p := ⟨w.heap.size, 1, none⟩) m0).trans c1
      have C1 := Lib.hid (fun m => Reads.quiet (avo_q (s := wordT wd) ((TsR.frame _ _ _ _ HFr.out HB.out).dn' m) (by rw [hm]; decide) Hf.out))
      have hki : (k : Int) < (A.length : Int) := by omega
      have HT := Lib.hid (show (A.take (k + 1)).filter (fun wd => avoM F (wordT wd)) = (A.take k).filter (fun wd => avoM F (wordT wd)) ++ (if avoM F (wordT wd) = true then [wd] else []) from by rw [← take_snoc' hwd, List.filter_append]; congr 1; simp [List.filter_cons])
      have hfl : ((A.take k).filter fun wd => avoM F (wordT wd)).length ≤ 729 := Nat.le_trans (List.length_filter_le _ _) (by simp; omega)
      generalize hfn : ((A.take k).filter fun wd => avoM F (wordT wd)) = fl' at HS HT hfl
      clear hfn hwd hq hc hm
      cases hav : avoM F (wordT wd) with
      | false =>
        rw [hav] at C1
        have HT2 := Lib.hid (show (A.take (k + 1)).filter (fun wd => avoM F (wordT wd)) = fl' from by rw [HT.out, hav]; simp)
        clear HT hav hb
        go_wp2
        go_quiet ((go_at_call 87; exact C1.out _))
        rename_i nq
        have HS2 := Lib.hid (HS.out.below (below_drewN (Below.refl wB.heap.size wB) nq) (Nat.le_refl _))
        have HB2 := Lib.hid (HB.out.trans (below_drewN (Below.refl w0.heap.size wB) nq))
        go_wp2
        go_roundg g
        case measure => omega
        case rel => exact ⟨k + 1, _, _, by rw [HT2.out], by go_num, by omega, by rw [HT2.out]; exact HS2, HB2⟩
      | true =>
        rw [hav] at C1
        have HT2 := Lib.hid (show (A.take (k + 1)).filter (fun wd => avoM F (wordT wd)) = fl' ++ [wd] from by rw [HT.out, hav]; simp)
        clear HT hav
        go_wp2
        go_quiet ((go_at_call 87; exact C1.out _))
        rename_i nq
        have hs2 := HS.out.below (below_drewN (Below.refl wB.heap.size wB) nq) (Nat.le_refl _)
        have hb2 := HB.out.trans (below_drewN (Below.refl w0.heap.size wB) nq)
        have g2 : (wB.drewN nq).cell? ⟨b, k, none⟩ = _ := g0
        generalize wB.drewN nq = w2 at hs2 hb2 g2 ⊢
        have hz2 := hb2.size
        obtain ⟨v', w3, hr, hs3, hb3⟩ := Sep.push (P := Tryz.prog) OStr.kept 29 29 (.string ⟨#[]⟩) 16 Tryz.underlying29 infoStr rfl hs2 hz2 (w1 := w2.alloc (.cells #[.string (wordT wd)] 9)) ((Below.refl _ _).alloc (Nat.le_refl _) _) (q := .string (wordT wd)) (x := wordT wd) ⟨[], ⟨rfl, rfl⟩, by simp [Fresh]⟩ (bb := w2.heap.size) (c := 1) (World.cell?_alloc_at _ _ _ 0 rfl) (by simp; omega) (by simp; omega)
        obtain ⟨a', c', ev, _⟩ := hs3.strsAt
        subst ev
        have e5 : (fl'.map wordT ++ [wordT wd]).length = (fl' ++ [wd]).length := by simp
        have e6 : fl'.map wordT ++ [wordT wd] = (fl' ++ [wd]).map wordT := by simp
        rw [e5, e6] at hs3
        rw [e5] at hr
        have e7 : (fl' ++ [wd]).length = fl'.length + 1 := by simp
        rw [e7] at hs3 hr
        have HS3 := Lib.hid hs3
        have HB3 := Lib.hid (hb2.trans hb3)
        have Hr := Lib.hid hr
        have E7 := Lib.hid e7
        clear hs3 hr hb3 e5 e6 e7 hs2 hb2 HS HB C1
        go_wp2_with (first
          | (at_builtin; refine wpl_append_run rfl (.tmp 26) (.tmp 31) 29 rfl rfl rfl Hr.out ?_)
          | fail)
        go_roundg g
        case measure => omega
        case rel => exact ⟨k + 1, _, _, by rw [HT2.out, E7.out], by go_num, by omega, by rw [HT2.out, E7.out]; exact HS3, HB3⟩
    · have HR := Lib.hid (show New (OStrL 9) w0.heap.size wB (.slice a ((A.take k).filter fun wd => avoM F (wordT wd)).length c) (AV.map wordT) from by have h := HS.out.headNew; rw [HAv.out]; rw [List.take_of_length_le (by omega)] at h ⊢; exact h)
      have hki : ¬ ((k : Int) < (A.length : Int)) := by omega
      have HBf := Lib.hid (HB0.out.trans (HB.out.mono (Nat.le_of_lt m0)))
      have HR2 := Lib.hid (HR.out.mono (Nat.le_of_lt m0))
      generalize ((A.take k).filter fun wd => avoM F (wordT wd)).length = fl' at HR2
      clear HS HR
      go_wp2
      go_ret
      exact ⟨_, rfl, HR2.out, HBf.out⟩
end Go.Proofs.YtcilgihmaaobeaaGreatDoor
end

section
namespace Go.Proofs.YtcilgihmaaobeaaGreatDoor
open Go.RowKit Go.Deep Go.Sd
set_option linter.unusedSimpArgs false
theorem letB_of {N : Nat} (hN : N ≤ 3) : ∀ wd : List Nat, (∀ x, x ∈ wd → x < N) → letB (N : Int) (wd.map fun x => UInt8.ofNat (97 + x)) = true
  | [], _ => rfl
  | x :: wd, h => by
    have hx := h x (by simp)
    have e4 : (UInt8.ofNat (97 + x)).toNat = 97 + x := by simp; omega
    simp only [List.map_cons, letB]
    rw [e4, if_pos (by omega)]
    exact letB_of hN wd fun y hy => h y (List.mem_cons_of_mem _ hy)
end Go.Proofs.YtcilgihmaaobeaaGreatDoor
end
