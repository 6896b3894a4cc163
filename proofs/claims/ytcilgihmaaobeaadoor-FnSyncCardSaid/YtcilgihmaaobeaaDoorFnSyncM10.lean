/-
  Texts of this claim joined: laws for its walks, contracts of the functions that the law reaches.
-/
import Derived.Test.YtcilgihmaaobeaaDoorFnSyncM9
import Derived.Laws.DeepStrings4
import Derived.Laws.Cover1
import Derived.Test.YtcilgihmaaobeaaDoorFnSyncM2
import Derived.OrdersHeld
import Derived.Deep.RegionHeld3
import Derived.Deep.DeepCutAuto
import Derived.Test.YtcilgihmaaobeaaDoorFnSyncM1
import Derived.Test.YtcilgihmaaobeaaDoorFnSyncM6
import Derived.Test.YtcilgihmaaobeaaDoorFnSyncM8
set_option linter.unusedVariables false
set_option linter.unusedSimpArgs false
section
namespace Go.Proofs.YtcilgihmaaobeaaDoor
open Go.RowKit Go.Deep Go.Sd
set_option linter.unusedSimpArgs false
/-- The one cell of a text. -/
def scell (x : ByteArray) : List Value := [.string x]
theorem scell_lay : Lay 1 scell := ⟨by decide, fun _ => rfl, fun x u h => by
  have e : u = .string x := by simpa [scell] using h
  rw [e]; rfl⟩
theorem scell_flat : ∀ (xs : List ByteArray), xs.flatMap scell = xs.map Value.string
  | [] => rfl
  | x :: xs => by rw [List.flatMap_cons, scell_flat xs]; rfl
abbrev ResTx (v : Value) (xs : List ByteArray) : Res := Res.row 9 1 scell v xs
theorem RowG.strs {w : World} {v : Value} {xs : List ByteArray} {F : List Nat} (h : RowG 9 1 scell w v xs F) : OStrs w v xs F := by
  obtain ⟨h1, rfl⟩ := h
  rw [scell_flat] at h1
  refine ⟨xs.map Value.string, List.replicate xs.length [], h1, by simp, fun i u x G hu hx hG => ?_, ?_⟩
  · rw [List.getElem?_map, hx] at hu
    simp at hu
    exact ⟨hu.symm, (List.mem_replicate.1 (List.mem_of_getElem? hG)).2⟩
  · rw [show (List.replicate xs.length ([] : List Nat)).flatten = [] from List.flatten_eq_nil_iff.2 fun G hG => (List.mem_replicate.1 hG).2]
    simp
theorem stail {b n c k : Nat} (hk : k ≤ n) (w : World) : (Instr.slice 48 (.slice (some ⟨b, 0, none⟩) n c) (some (.int .i64 (k : Int))) none none).run Tryd.prog w = .ok (.slice (some (if c = k then ⟨b, 0, none⟩ else ⟨b, k * 1, none⟩)) (n - k) (c - k)) w := by
  have h0 : (0 : Int) ≤ (k : Int) := by omega
  have h1 : (k : Int) ≤ (n : Int) := by omega
  by_cases e : c = k
  · rw [if_pos e]
    simp [go_sem, h0, h1, e]
  · rw [if_neg e]
    simp [go_sem, h0, h1, e]
theorem shead {b n c k : Nat} (hk : k ≤ c) (w : World) : (Instr.slice 48 (.slice (some ⟨b, 0, none⟩) n c) none (some (.int .i64 (k : Int))) none).run Tryd.prog w = .ok (.slice (some ⟨b, 0, none⟩) k c) w := by
  have h0 : (0 : Int) ≤ (k : Int) := by omega
  have h1 : (k : Int) ≤ (c : Int) := by omega
  by_cases e : c = 0
  · subst e
    obtain rfl : k = 0 := by omega
    simp [go_sem]
  · simp [go_sem, h0, h1, e]
theorem stail0 (w : World) : (Instr.slice 48 (.slice none 0 0) (some (.int .i64 ((0 : Nat) : Int))) none none).run Tryd.prog w = .ok (.slice none 0 0) w := by simp [go_sem]
theorem shead0 (w : World) : (Instr.slice 48 (.slice none 0 0) none (some (.int .i64 ((0 : Nat) : Int))) none).run Tryd.prog w = .ok (.slice none 0 0) w := by simp [go_sem]
/-- Both parts of an own slice of texts. -/
theorem scut {lo : Nat} {w : World} {v : Value} {xs : List ByteArray} {rs : List Res} (h : Sep lo w (ResTx v xs :: rs)) {k : Nat} (hk : k ≤ xs.length) :
    ∃ ta tc ha hc, (∀ w' : World, (Instr.slice 48 v (some (.int .i64 (k : Int))) none none).run Tryd.prog w' = .ok (.slice ta (xs.length - k) tc) w') ∧ RowRd scell w (.slice ta (xs.length - k) tc) (xs.drop k) ∧ (∀ ad, ta = some ad → ad.block < w.heap.size) ∧
      (∀ w' : World, (Instr.slice 48 v none (some (.int .i64 (k : Int))) none).run Tryd.prog w' = .ok (.slice ha k hc) w') ∧ ∀ (w' : World) (rs' : List Res), Sep lo w' (ResTx v xs :: rs') → Sep lo w' (ResTx (.slice ha k hc) (xs.take k) :: rs') := by
  obtain ⟨G, ⟨hG, eG⟩, -, -⟩ := h.head
  rcases hG.2 with ⟨rfl, h0⟩ | ⟨g, cap, cur, rfl, -, hg, hnc, -⟩
  · rw [List.length_eq_zero_iff] at h0
    subst h0
    obtain rfl : k = 0 := by simpa using hk
    exact ⟨none, 0, none, 0, stail0, ⟨none, 0, rfl, fun _ => ⟨rfl, rfl⟩, (fun ad e => nomatch e)⟩, (fun ad e => nomatch e), shead0, fun w' rs' h' => h'⟩
  · have hcap : xs.length ≤ cap := by omega
    refine ⟨_, _, _, _, stail hk, ?_, fun ad e => ?_, shead (Nat.le_trans hk hcap), fun w' rs' h' => h'.preRow scell_lay hk⟩
    · by_cases e : cap = k
      · have hd : xs.drop k = [] := List.drop_eq_nil_of_le (by omega)
        rw [hd, show xs.length - k = 0 by omega]
        exact ⟨_, _, rfl, (fun e2 => nomatch e2), (fun ad _ j u hu => by cases hu)⟩
      · rw [if_neg e]
        exact h.dropRd scell_lay hk _
    · cases e
      have hlt : g < w.heap.size := by
        by_cases hgs : g < w.heap.size
        · exact hgs
        · rw [Array.getElem?_eq_none (by omega)] at hg; cases hg
      split <;> exact hlt
set_option maxHeartbeats 4000000 in
set_option maxRecDepth 100000 in
theorem l2Put_c {lo : Nat} {w : World} {v : Value} {xs : List ByteArray} {rs : List Res} {x : ByteArray} (h : Sep lo w (ResTx v xs :: rs)) (hlo : lo ≤ w.heap.size) (hn : xs.length ≤ 100) :
    Calls Tryd.prog 84 #[v, .string x] w fun e w' => ∃ (v' : Value) (ys : List ByteArray), e = .returned v' ∧ (ys.length ≤ xs.length + 1 ∧ ∀ y, y ∈ ys → y = x ∨ y ∈ xs) ∧ Sep lo w' (ResTx v' ys :: rs) ∧ Below lo w w' := by
  obtain ⟨a, c, rfl, hcell⟩ := h.rowAt scell_lay
  have HC := Lib.hid hcell
  have HS := Lib.hid h
  have HCut := Lib.hid (fun k (hk : k ≤ xs.length) => scut h hk)
  obtain ⟨n, hn'⟩ : ∃ n, n = xs.length := ⟨_, rfl⟩
  have Hn := Lib.hid hn'
  rw [← hn'] at HS HC HCut hn ⊢
  clear h hcell hn'
  go_enter Tryd.func84, Tryd.ntmps84
  go_wp2
  go_loopg [5] n (fun g i wr => ∃ (k : Nat), i = .int .i64 k ∧ k + g = n ∧ wr = w)
  case atStart => exact ⟨0, rfl, by omega, rfl⟩
  case round =>
    obtain ⟨k, rfl, hk, rfl⟩ := hrel
    have hkn' : k ≤ n := by omega
    by_cases hkn : k < n
    · have hki : (k : Int) < (n : Int) := by omega
      obtain ⟨g, rfl⟩ : ∃ x, gk = x + 1 := ⟨gk - 1, by omega⟩
      obtain ⟨y, hy, -⟩ := at_lt (xs := xs) (k := k) (by rw [← Hn.out]; exact hkn)
      obtain ⟨b, rfl, hbl, hbw, hx⟩ := HC.out (by omega)
      have g0 := hx k y 0 (.string y) hy rfl
      rw [Nat.mul_one, Nat.add_zero] at g0
      clear hx
      cases hl : Op.bytesLess y.toList x.toList with
      | true =>
        clear HS HC HCut hy
        go_wp2
        go_roundg g
        case measure => omega
        case rel => exact ⟨k + 1, by go_num, by omega, rfl⟩
      | false =>
        cases hq : (y.toList == x.toList) with
        | true =>
          clear hy
          go_wp2
          go_ret
          exact ⟨_, xs, rfl, ⟨by have := Hn.out; omega, fun y hy => Or.inr hy⟩, HS.out, Below.refl _ _⟩
        | false =>
          clear hy
          obtain ⟨ta, tc, ha, hc, e1, hrd, htb, e2, hpre⟩ := HCut.out k hkn'
          obtain ⟨w2, ew2⟩ : ∃ y, y = wr.alloc (.cells #[] 9) := ⟨_, rfl⟩
          have hs2 := HS.out.new RowG.held ((Below.refl _ _).alloc (Nat.le_refl _) (.cells #[] 9)) hlo (New.emptyRow (sz := 1) (f := scell) 9 wr)
          rw [← ew2] at hs2
          have hb2 : Below wr.heap.size wr w2 := by rw [ew2]; exact (Below.refl _ _).alloc (Nat.le_refl _) _
          have z2 : lo ≤ w2.heap.size := Nat.le_trans hlo hb2.size
          have hrd2 := RowRd.frame hrd hb2 (fun ad n' c' e => by simp only [Value.slice.injEq] at e; exact htb ad e.1)
          have hdl : (xs.drop k).length = n - k := by rw [List.length_drop, ← Hn.out]
          obtain ⟨v3, w3, hr3, hs3, hb3⟩ := hs2.pushRow (P := Tryd.prog) scell_lay 48 48 (.string ⟨#[]⟩) 16 Tryd.underlying48 infoTx rfl z2 hrd2 (by rw [hdl, List.length_nil]; omega) (by rw [hdl, List.length_nil]; omega)
          rw [List.nil_append] at hs3
          have z3 : lo ≤ w3.heap.size := Nat.le_trans z2 hb3.size
          obtain ⟨ra, rc, er, -⟩ := hs3.rowAt scell_lay
          rw [hdl] at er
          subst er
          have hs3p := hpre _ _ hs3.swap
          obtain ⟨w4, e4⟩ : ∃ y, y = w3.alloc (.cells #[.string x] 9) := ⟨_, rfl⟩
          have hb4 : Below w3.heap.size w3 w4 := by rw [e4]; exact (Below.refl w3.heap.size w3).alloc (Nat.le_refl _) _
          have htk : (xs.take k).length = k := by rw [List.length_take, ← Hn.out]; omega
          obtain ⟨v5, w5, hr5, hs5, hb5⟩ := hs3p.pushG (P := Tryd.prog) scell_lay 48 48 (.string ⟨#[]⟩) 16 Tryd.underlying48 infoTx rfl z3 (w1 := w4) hb4 x (bb := w3.heap.size) 1 (fun j u hj => by
            rw [e4, World.cell?_alloc_at _ _ _ j rfl]
            simpa [scell] using hj) (by rw [htk]; omega) (by rw [htk]; omega)
          have z5 : lo ≤ w5.heap.size := Nat.le_trans z3 hb5.size
          obtain ⟨v6, w6, hr6, hs6, hb6⟩ := hs5.pushRow (P := Tryd.prog) scell_lay 48 48 (.string ⟨#[]⟩) 16 Tryd.underlying48 infoTx rfl z5 (hs5.swap.rowRd scell_lay).1 (by rw [hdl, List.length_append, htk, List.length_singleton]; omega) (by rw [hdl, List.length_append, htk, List.length_singleton]; omega)
          obtain ⟨va5, c5, ev5, -⟩ := hs5.rowAt scell_lay
          obtain ⟨va6, c6, ev6, -⟩ := hs6.rowAt scell_lay
          have HS6 := Lib.hid hs6.swap.tail
          have HB6 := Lib.hid ((((Below.refl lo wr).trans (hb2.mono hlo)).trans hb3).trans (hb5.trans hb6))
          have HL6 := Lib.hid (show (xs.take k ++ [x] ++ xs.drop k).length = n + 1 ∧ ∀ y, y ∈ xs.take k ++ [x] ++ xs.drop k → y = x ∨ y ∈ xs from ⟨by rw [List.length_append, List.length_append, htk, hdl, List.length_singleton]; omega, fun y hy => by
            rcases List.mem_append.1 hy with hy | hy
            · rcases List.mem_append.1 hy with hy | hy
              · exact Or.inr (List.mem_of_mem_take hy)
              · exact Or.inl (by simpa using hy)
            · exact Or.inr (List.mem_of_mem_drop hy)⟩)
          subst ev5
          subst ev6
          generalize xs.take k ++ [x] ++ xs.drop k = ys at HS6 HL6 hr6
          generalize (xs.take k ++ [x]).length = l5 at hr5 hr6
          generalize ys.length = l6 at hr6 HS6
          have Hr3 := Lib.hid hr3
          have Hr5 := Lib.hid hr5
          have Hr6 := Lib.hid hr6
          have ew2s := ew2.symm
          have e4s := e4.symm
          clear hrd htb hpre hs2 hb2 hrd2 hdl hr3 hs3 hb3 hs3p hb4 htk hr5 hs5 hb5 hr6 hs6 hb6 ew2 e4 HC HCut HS
          go_wp2_with (first
            | (at_builtin; refine wpl_append_run rfl (.tmp 34) (.tmp 37) 48 rfl rfl rfl Hr3.out ?_)
            | (at_builtin; refine wpl_append_run rfl (.tmp 41) (.tmp 43) 48 rfl rfl rfl Hr5.out ?_)
            | (at_builtin; refine wpl_append_run rfl (.tmp 44) (.tmp 45) 48 rfl rfl rfl Hr6.out ?_)
            | fail)
          go_ret
          have hfin : ys.length ≤ n + 1 ∧ ∀ y, y ∈ ys → y = x ∨ y ∈ xs := ⟨by have := HL6.out.1; omega, HL6.out.2⟩
          first | exact ⟨_, ys, rfl, hfin, HS6.out, HB6.out⟩ | exact ⟨_, rfl, ys, hfin, HS6.out, HB6.out⟩
    · have hki : ¬ ((k : Int) < (n : Int)) := by omega
      obtain ⟨ta, tc, ha, hc, e1, hrd, htb, e2, hpre⟩ := HCut.out k hkn'
      obtain ⟨w2, ew2⟩ : ∃ y, y = wr.alloc (.cells #[] 9) := ⟨_, rfl⟩
      have hs2 := HS.out.new RowG.held ((Below.refl _ _).alloc (Nat.le_refl _) (.cells #[] 9)) hlo (New.emptyRow (sz := 1) (f := scell) 9 wr)
      rw [← ew2] at hs2
      have hb2 : Below wr.heap.size wr w2 := by rw [ew2]; exact (Below.refl _ _).alloc (Nat.le_refl _) _
      have z2 : lo ≤ w2.heap.size := Nat.le_trans hlo hb2.size
      have hrd2 := RowRd.frame hrd hb2 (fun ad n' c' e => by simp only [Value.slice.injEq] at e; exact htb ad e.1)
      have hdl : (xs.drop k).length = n - k := by rw [List.length_drop, ← Hn.out]
      obtain ⟨v3, w3, hr3, hs3, hb3⟩ := hs2.pushRow (P := Tryd.prog) scell_lay 48 48 (.string ⟨#[]⟩) 16 Tryd.underlying48 infoTx rfl z2 hrd2 (by rw [hdl, List.length_nil]; omega) (by rw [hdl, List.length_nil]; omega)
      rw [List.nil_append] at hs3
      have z3 : lo ≤ w3.heap.size := Nat.le_trans z2 hb3.size
      obtain ⟨ra, rc, er, -⟩ := hs3.rowAt scell_lay
      rw [hdl] at er
      subst er
      have hs3p := hpre _ _ hs3.swap
      obtain ⟨w4, e4⟩ : ∃ y, y = w3.alloc (.cells #[.string x] 9) := ⟨_, rfl⟩
      have hb4 : Below w3.heap.size w3 w4 := by rw [e4]; exact (Below.refl w3.heap.size w3).alloc (Nat.le_refl _) _
      have htk : (xs.take k).length = k := by rw [List.length_take, ← Hn.out]; omega
      obtain ⟨v5, w5, hr5, hs5, hb5⟩ := hs3p.pushG (P := Tryd.prog) scell_lay 48 48 (.string ⟨#[]⟩) 16 Tryd.underlying48 infoTx rfl z3 (w1 := w4) hb4 x (bb := w3.heap.size) 1 (fun j u hj => by
        rw [e4, World.cell?_alloc_at _ _ _ j rfl]
        simpa [scell] using hj) (by rw [htk]; omega) (by rw [htk]; omega)
      have z5 : lo ≤ w5.heap.size := Nat.le_trans z3 hb5.size
      obtain ⟨v6, w6, hr6, hs6, hb6⟩ := hs5.pushRow (P := Tryd.prog) scell_lay 48 48 (.string ⟨#[]⟩) 16 Tryd.underlying48 infoTx rfl z5 (hs5.swap.rowRd scell_lay).1 (by rw [hdl, List.length_append, htk, List.length_singleton]; omega) (by rw [hdl, List.length_append, htk, List.length_singleton]; omega)
      obtain ⟨va5, c5, ev5, -⟩ := hs5.rowAt scell_lay
      obtain ⟨va6, c6, ev6, -⟩ := hs6.rowAt scell_lay
      have HS6 := Lib.hid hs6.swap.tail
      have HB6 := Lib.hid ((((Below.refl lo wr).trans (hb2.mono hlo)).trans hb3).trans (hb5.trans hb6))
      have HL6 := Lib.hid (show (xs.take k ++ [x] ++ xs.drop k).length = n + 1 ∧ ∀ y, y ∈ xs.take k ++ [x] ++ xs.drop k → y = x ∨ y ∈ xs from ⟨by rw [List.length_append, List.length_append, htk, hdl, List.length_singleton]; omega, fun y hy => by
        rcases List.mem_append.1 hy with hy | hy
        · rcases List.mem_append.1 hy with hy | hy
          · exact Or.inr (List.mem_of_mem_take hy)
          · exact Or.inl (by simpa using hy)
        · exact Or.inr (List.mem_of_mem_drop hy)⟩)
      subst ev5
      subst ev6
      generalize xs.take k ++ [x] ++ xs.drop k = ys at HS6 HL6 hr6
      generalize (xs.take k ++ [x]).length = l5 at hr5 hr6
      generalize ys.length = l6 at hr6 HS6
      have Hr3 := Lib.hid hr3
      have Hr5 := Lib.hid hr5
      have Hr6 := Lib.hid hr6
      have ew2s := ew2.symm
      have e4s := e4.symm
      clear hrd htb hpre hs2 hb2 hrd2 hdl hr3 hs3 hb3 hs3p hb4 htk hr5 hs5 hb5 hr6 hs6 hb6 ew2 e4 HC HCut HS
      go_wp2_with (first
        | (at_builtin; refine wpl_append_run rfl (.tmp 34) (.tmp 37) 48 rfl rfl rfl Hr3.out ?_)
        | (at_builtin; refine wpl_append_run rfl (.tmp 41) (.tmp 43) 48 rfl rfl rfl Hr5.out ?_)
        | (at_builtin; refine wpl_append_run rfl (.tmp 44) (.tmp 45) 48 rfl rfl rfl Hr6.out ?_)
        | fail)
      go_ret
      have hfin : ys.length ≤ n + 1 ∧ ∀ y, y ∈ ys → y = x ∨ y ∈ xs := ⟨by have := HL6.out.1; omega, HL6.out.2⟩
      first | exact ⟨_, ys, rfl, hfin, HS6.out, HB6.out⟩ | exact ⟨_, rfl, ys, hfin, HS6.out, HB6.out⟩
end Go.Proofs.YtcilgihmaaobeaaDoor
end

section
namespace Go.Proofs.YtcilgihmaaobeaaDoor
open Go.RowKit Go.Deep Go.Sd
section
variable {P : Program} {ops : Array Oper} {Q : Exit → Act → World → Prop} {md : Region.Mode} {S : World → Prop}
/-- One of two may come up. -/
theorem wpAnyL_two (i j : Nat) {oi oj : Oper} {fuel : Nat} {listed : Array Bool} {a : Act} {w : World} (hr : Region.ready md ops listed = [i, j]) (hoi : ops[i]? = some oi) (hoj : ops[j]? = some oj)
    (h : ∀ K' : Act → World → Prop, Shut (∀ a w, (Rem (listed.setIfInBounds i true) → S w) → Go.Sd.wpAnyL P md ops Q S fuel (listed.setIfInBounds i true) a w → K' a w) → if Region.wanted oi (yielded ops a.tmps) = true then Oper.wp P oi a w K' Q else K' (a.put oi.dst undef) w)
    (g : ∀ K' : Act → World → Prop, Shut (∀ a w, (Rem (listed.setIfInBounds j true) → S w) → Go.Sd.wpAnyL P md ops Q S fuel (listed.setIfInBounds j true) a w → K' a w) → if Region.wanted oj (yielded ops a.tmps) = true then Oper.wp P oj a w K' Q else K' (a.put oj.dst undef) w) :
    Go.Sd.wpAnyL P md ops Q S (fuel + 1) listed a w :=
  ⟨fun h0 => (by rw [hr] at h0; cases h0), fun k hk => by
    rw [hr] at hk
    rcases List.mem_cons.1 hk with e | hk
    · subst e
      exact wpOp_step hoi fun K' hK => h K' fun a w hS hW => hK a w ⟨hS, hW⟩
    · obtain rfl := List.mem_singleton.1 hk
      exact wpOp_step hoj fun K' hK => g K' fun a w hS hW => hK a w ⟨hS, hW⟩⟩
end
end Go.Proofs.YtcilgihmaaobeaaDoor
end

section
namespace Go.Proofs.YtcilgihmaaobeaaDoor
open Go.RowKit Go.Deep Go.Sd
set_option linter.unusedSimpArgs false
theorem Cur.box0 {lo : Nat} {w : World} {cb sb : Nat} {K a : Value} {n : Nat} {vs : List Value} {rs : List Res} (h : Cur lo w cb K n (Res.box sb (a :: vs) :: rs)) : w.cell? ⟨sb, 0, none⟩ = some a := ((h.out.headBox).2.2 0 a rfl).1
theorem Cur.perm2' {lo : Nat} {w : World} {cb : Nat} {K : Value} {n : Nat} {r s : Res} {rs : List Res} (h : Cur lo w cb K n (r :: s :: rs)) : Cur lo w cb K n (s :: r :: rs) := h.perm (List.Perm.swap _ _ _)
theorem Cur.store {lo : Nat} {w : World} {cb b : Nat} {K : Value} {n : Nat} {vs : List Value} {rs : List Res} (h : Cur lo w cb K n (Res.box b vs :: rs)) (hlo : lo ≤ w.heap.size) {j : Nat} {u0 : Value} (hj : vs[j]? = some u0) (u : Value) : Cur lo (w.setCell ⟨b, j, none⟩ u) cb K n (Res.box b (vs.set j u) :: rs) := by
  obtain ⟨i, x, hi, hs⟩ := h
  exact ⟨i, x, hi, (hs.swap.boxStore hlo hj u).swap⟩
theorem Cur.storeBelow {lo : Nat} {w0 w : World} {cb b : Nat} {K : Value} {n : Nat} {vs : List Value} {rs : List Res} (h : Cur lo w cb K n (Res.box b vs :: rs)) (hb : Below lo w0 w) (j : Nat) (u : Value) : Below lo w0 (w.setCell ⟨b, j, none⟩ u) := hb.setCell (p := ⟨b, j, none⟩) h.out.headBox.1 u
theorem Sep.conv {lo : Nat} {w : World} {r s : Res} {rs : List Res} (h : Sep lo w (r :: rs)) (hlo : lo ≤ w.heap.size) (hc : ∀ F, r.p w F → s.p w F) : Sep lo w (s :: rs) := by
  obtain ⟨G, hG, hf, hK⟩ := h.head
  exact hK w s G (hc G hG) hf.1 (fun b hb => Or.inl hb) hlo fun b _ _ => rfl
theorem Cur.conv {lo : Nat} {w : World} {cb : Nat} {K : Value} {n : Nat} {r s : Res} {rs : List Res} (h : Cur lo w cb K n (r :: rs)) (hlo : lo ≤ w.heap.size) (hc : ∀ F, r.p w F → s.p w F) : Cur lo w cb K n (s :: rs) := by
  obtain ⟨i, x, hi, hs⟩ := h
  exact ⟨i, x, hi, (Sep.conv hs.swap hlo hc).swap⟩
def l3Texts : List ByteArray := [⟨#[50, 32, 98, 98]⟩, ⟨#[50, 32, 97, 97, 32, 98, 98]⟩, ⟨#[50, 32, 97, 97, 98]⟩, ⟨#[51, 32, 97, 98, 32, 98, 99, 32, 99, 97]⟩, ⟨#[50]⟩, ⟨#[49]⟩, ⟨#[51, 32, 97, 97, 32, 98, 98, 32, 99, 99]⟩, ⟨#[50, 32, 97, 98, 97, 32, 98, 97, 98]⟩, ⟨#[50, 32, 97, 98]⟩, ⟨#[50, 32, 97, 97, 97, 32, 98, 98]⟩, ⟨#[51, 32, 97, 99, 32, 98, 98]⟩]
def l3Vals : List (Nat × List ByteArray) := [(2, [⟨#[98, 98]⟩]), (2, [⟨#[97, 97]⟩, ⟨#[98, 98]⟩]), (2, [⟨#[97, 97, 98]⟩]), (3, [⟨#[97, 98]⟩, ⟨#[98, 99]⟩, ⟨#[99, 97]⟩]), (2, []), (1, []), (3, [⟨#[97, 97]⟩, ⟨#[98, 98]⟩, ⟨#[99, 99]⟩]), (2, [⟨#[97, 98, 97]⟩, ⟨#[98, 97, 98]⟩]), (2, [⟨#[97, 98]⟩]), (2, [⟨#[97, 97, 97]⟩, ⟨#[98, 98]⟩]), (3, [⟨#[97, 99]⟩, ⟨#[98, 98]⟩])]
theorem l3Texts_ok : ∀ i, i < 11 → ((l3Texts.getD i ⟨#[]⟩).size ≤ 100 ∧ splitB (l3Texts.getD i ⟨#[]⟩) 32 = fmtN (l3Vals.getD i (0, [])).1 :: (l3Vals.getD i (0, [])).2 ∧ (l3Vals.getD i (0, [])).1 ≤ 9 ∧ (l3Vals.getD i (0, [])).2.length ≤ 8 ∧ ∀ f, f ∈ (l3Vals.getD i (0, [])).2 → f.size ≤ 8) := by
  have h : ((List.range 11).all fun i => decide ((l3Texts.getD i ⟨#[]⟩).size ≤ 100 ∧ splitB (l3Texts.getD i ⟨#[]⟩) 32 = fmtN (l3Vals.getD i (0, [])).1 :: (l3Vals.getD i (0, [])).2 ∧ (l3Vals.getD i (0, [])).1 ≤ 9 ∧ (l3Vals.getD i (0, [])).2.length ≤ 8 ∧ ∀ f, f ∈ (l3Vals.getD i (0, [])).2 → f.size ≤ 8)) = true := by decide +kernel
  intro i hi
  exact of_decide_eq_true (List.all_eq_true.1 h i (List.mem_range.2 hi))
theorem l3Texts_mem {x : ByteArray} (h : x ∈ l3Texts) : ∃ (d : Nat) (F : List ByteArray), x.size ≤ 100 ∧ splitB x 32 = fmtN d :: F ∧ d ≤ 9 ∧ F.length ≤ 8 ∧ ∀ f, f ∈ F → f.size ≤ 8 := by
  obtain ⟨i, hi⟩ := List.getElem?_of_mem h
  have h1 : i < 11 := (List.getElem?_eq_some_iff.1 hi).1
  have h2 := l3Texts_ok i h1
  rw [show l3Texts.getD i ⟨#[]⟩ = x from by simp [List.getD, hi]] at h2
  exact ⟨_, _, h2⟩
abbrev ResSh (v : Value) (z : Sh) : Res := Res.of OSh OSh.held v z
theorem OSh.slice {w : World} {v : Value} {z : Sh} {F : List Nat} (h : OSh w v z F) : ∃ a c, v = .agg #[.int .i64 z.1, .slice a z.2.length c] := by
  obtain ⟨va, rfl, h⟩ := h
  obtain ⟨a, c, rfl, -⟩ := (OwnOf.reads (fun _ _ _ _ h => h.1) h : TsR w va z.2).shape
  exact ⟨a, c, rfl⟩
set_option maxHeartbeats 4000000 in
set_option maxRecDepth 100000 in
theorem l3Draw_c {lo : Nat} {w : World} {cb : Nat} {K : Value} {xs : List Int} {rs : List Res} (hK : ∀ w', Below lo w w' → BytR w' K xs) (hc : Cur lo w cb K xs.length rs) (hlo : lo ≤ w.heap.size) :
    Calls Tryd.prog 75 #[.pointer (some ⟨cb, 0, none⟩)] w fun e w' => ∃ (v : Value) (z : Sh), e = .returned v ∧ SmSh z ∧ Cur lo w' cb K xs.length (ResSh v z :: rs) ∧ Below lo w w' := by
  have HK := Lib.hid hK
  have hcx := hc.box hlo [.int .i64 0, .slice none 0 0] 92
  obtain ⟨wA, eA⟩ : ∃ x, x = w.alloc (.cells #[.int .i64 0, .slice none 0 0] 92) := ⟨_, rfl⟩
  have hbA : Below w.heap.size w wA := by rw [eA]; exact (Below.refl _ _).alloc (Nat.le_refl _) _
  have HCA := Lib.hid (show Cur lo wA cb K xs.length (Res.box w.heap.size [.int .i64 0, .slice none 0 0] :: rs) from by rw [eA]; exact hcx)
  have HBA := Lib.hid (hbA.mono hlo)
  have hzA : lo ≤ wA.heap.size := Nat.le_trans hlo hbA.size
  have HO := Lib.hid (l1Once_i (z := 3) (fun w' hb => HK.out w' (HBA.out.trans hb)) HCA.out hzA (by omega) (by omega))
  have eAs := eA.symm
  clear hK hc hcx hbA eA
  go_enter Tryd.func75, Tryd.ntmps75
  go_wp2_with fail
  (with_reducible refine HO.out.mono ?_)
  rintro e w1 ⟨b, rfl, hc, hb, ho⟩
  have HC1 := Lib.hid hc
  have HB1 := Lib.hid (HBA.out.trans hb)
  have hz1 : lo ≤ w1.heap.size := Nat.le_trans hzA hb.size
  clear hc hb ho HO eAs HCA HBA hzA
  cases b with
  | true =>
    have hcx := Lib.hid (HC1.out.box hz1 (l3Texts.map Value.string) 9)
    obtain ⟨w2, e2⟩ : ∃ x, x = w1.alloc (.cells #[.string ⟨#[50, 32, 98, 98]⟩, .string ⟨#[50, 32, 97, 97, 32, 98, 98]⟩, .string ⟨#[50, 32, 97, 97, 98]⟩, .string ⟨#[51, 32, 97, 98, 32, 98, 99, 32, 99, 97]⟩, .string ⟨#[50]⟩, .string ⟨#[49]⟩, .string ⟨#[51, 32, 97, 97, 32, 98, 98, 32, 99, 99]⟩, .string ⟨#[50, 32, 97, 98, 97, 32, 98, 97, 98]⟩, .string ⟨#[50, 32, 97, 98]⟩, .string ⟨#[50, 32, 97, 97, 97, 32, 98, 98]⟩, .string ⟨#[51, 32, 97, 99, 32, 98, 98]⟩] 9) := ⟨_, rfl⟩
    have HC2 := Lib.hid (show Cur lo w2 cb K xs.length (Res.box w1.heap.size (l3Texts.map Value.string) :: Res.box w.heap.size [.int .i64 0, .slice none 0 0] :: rs) from by rw [e2]; exact hcx.out)
    have hb2 : Below w1.heap.size w1 w2 := by rw [e2]; exact (Below.refl _ _).alloc (Nat.le_refl _) _
    have HB2 := Lib.hid (HB1.out.trans (hb2.mono hz1))
    have hz2 : lo ≤ w2.heap.size := Nat.le_trans hz1 hb2.size
    have HP := Lib.hid (show Calls Tryd.prog 67 #[.pointer (some ⟨cb, 0, none⟩), .slice (some ⟨w1.heap.size, 0, none⟩) 11 11] w2 _ from l1Pick_c (ls := l3Texts) (c := 11) (fun w' hb => HK.out w' (HB2.out.trans hb)) HC2.out hz2 (by decide) (by decide))
    have e2s := e2.symm
    clear hcx hb2 e2
    go_wp2_with fail
    (with_reducible refine HP.out.mono ?_)
    rintro e w3 ⟨x, rfl, hx, hc, hb, ho⟩
    obtain ⟨d, F, h1, h2, h3, h4, h5⟩ := l3Texts_mem hx
    have HC3 := Lib.hid hc.rest
    have HB3 := Lib.hid (HB2.out.trans hb)
    have hz3 : lo ≤ w3.heap.size := Nat.le_trans hz2 hb.size
    have HM := Lib.hid (ParseShift_c (w := w3) h1 h2 h3 h4 h5)
    clear hx hc hb ho h1 h2 h3 h4 h5 e2s HP HC2 HB2
    go_wp2_with fail
    (with_reducible refine HM.out.mono ?_)
    rintro e w4 ⟨v, ok, z, rfl, hsm, hn, hb⟩
    obtain ⟨va, vc, rfl⟩ := OSh.slice (hn.choose_spec.1)
    have hc4 := HC3.out.new OSh.held hb hz3 hn
    have hz4 : lo ≤ w4.heap.size := Nat.le_trans hz3 hb.size
    have HB4 := Lib.hid (HB3.out.trans (hb.mono hz3))
    have HSm := Lib.hid hsm
    obtain ⟨w5, e5, hb5, c0, c1, m5⟩ := boxA_ex w4 92 (.int .i64 z.1) (.slice va z.2.length vc)
    have hc5 := (hc4.below hb5).perm2'
    have hz5 : lo ≤ w5.heap.size := Nat.le_trans hz4 hb5.size
    have HB5 := Lib.hid (HB4.out.trans (hb5.mono hz4))
    obtain ⟨-, -, hcl⟩ := hc5.out.headBox
    have r0 := (hcl 0 _ rfl).1
    have r1 := (hcl 1 _ rfl).1
    have f0 := (hcl 0 _ rfl).2
    have f1 := (hcl 1 _ rfl).2
    have hs1 := hc5.store hz5 (j := 0) rfl (.int .i64 z.1)
    have hB6 := hc5.storeBelow HB5.out 0 (.int .i64 z.1)
    have hs2 := hs1.store (by simpa using hz5) (j := 1) rfl (.slice va z.2.length vc)
    have hB7 := hs1.storeBelow hB6 1 (.slice va z.2.length vc)
    have HC7 := Lib.hid hs2.rest
    have HB7 := Lib.hid hB7
    have u1 := (World.cell?_setCell_other w5 ⟨w.heap.size, 0, none⟩ ⟨w.heap.size, 1, none⟩ (.int .i64 z.1) (by simp)).trans r1
    have S1 := Lib.hid (World.cell?_setCell_same _ _ (.slice va z.2.length vc) u1)
    have S0 := Lib.hid ((World.cell?_setCell_other (w5.setCell ⟨w.heap.size, 0, none⟩ (.int .i64 z.1)) ⟨w.heap.size, 1, none⟩ ⟨w.heap.size, 0, none⟩ (.slice va z.2.length vc) (by simp)).trans (World.cell?_setCell_same w5 _ (.int .i64 z.1) r0))
    generalize z.2.length = zl at *
    clear hn hb HM hsm hc4 hc5 hb5 hcl hs1 hB6 hs2 hB7 HB4 HB5 HC3 HB3 u1 HC1 HB1
    go_wp2_with fail
    refine bodyPost_ret (v := .agg #[.int .i64 z.1, .slice va zl vc]) (by simp [results, Tryd.results75, go_sem, S0.out, S1.out]) rfl ?_
    exact ⟨_, z, rfl, HSm.out, HC7.out, HB7.out⟩
  | false =>
    have hcx := Lib.hid (HC1.out.box hz1 (([1, 1, 2, 0] : List Int).map (Value.int .i64)) 3)
    obtain ⟨w2, e2⟩ : ∃ x, x = w1.alloc (.cells #[.int .i64 1, .int .i64 1, .int .i64 2, .int .i64 0] 3) := ⟨_, rfl⟩
    have HC2 := Lib.hid (show Cur lo w2 cb K xs.length (Res.box w1.heap.size (([1, 1, 2, 0] : List Int).map (Value.int .i64)) :: Res.box w.heap.size [.int .i64 0, .slice none 0 0] :: rs) from by rw [e2]; exact hcx.out)
    have hb2 : Below w1.heap.size w1 w2 := by rw [e2]; exact (Below.refl _ _).alloc (Nat.le_refl _) _
    have HB2 := Lib.hid (HB1.out.trans (hb2.mono hz1))
    have hz2 : lo ≤ w2.heap.size := Nat.le_trans hz1 hb2.size
    have HP := Lib.hid (show Calls Tryd.prog 69 #[.pointer (some ⟨cb, 0, none⟩), .slice (some ⟨w1.heap.size, 0, none⟩) 4 4] w2 _ from l1PickInt_c (ls := [1, 1, 2, 0]) (c := 4) (fun w' hb => HK.out w' (HB2.out.trans hb)) HC2.out hz2 (by decide) (by decide))
    have e2s := e2.symm
    clear hcx hb2 e2
    go_wp2_with fail
    (with_reducible refine HP.out.mono ?_)
    rintro e w3 ⟨y, rfl, hy, hc, hb, ho⟩
    obtain ⟨L, hL, hL1, hL3⟩ : ∃ L : Nat, IntKind.i64.wrap (1 + y) = (L : Int) ∧ 1 ≤ L ∧ L ≤ 3 := by
      simp only [List.mem_cons, List.not_mem_nil, or_false] at hy
      rcases hy with rfl | rfl | rfl | rfl
      · exact ⟨2, rfl, by decide, by decide⟩
      · exact ⟨2, rfl, by decide, by decide⟩
      · exact ⟨3, rfl, by decide, by decide⟩
      · exact ⟨1, rfl, by decide, by decide⟩
    have HC3 := Lib.hid hc.rest
    have HB3 := Lib.hid (HB2.out.trans hb)
    have hz3 : lo ≤ w3.heap.size := Nat.le_trans hz2 hb.size
    have hy2 : 1 + y = (L : Int) := by
      simp only [List.mem_cons, List.not_mem_nil, or_false] at hy
      rcases hy with rfl | rfl | rfl | rfl <;> (have h : _ = (L : Int) := hL; simp [IntKind.wrap_i64] at h; omega)
    obtain ⟨w4, e4, hb4, c0, c1, m4⟩ := boxA_ex w3 92 (.int .i64 (L : Int)) (.slice none 0 0)
    have hcx := HC3.out.box hz3 [.int .i64 (L : Int), .slice none 0 0] 92
    have HC4 := Lib.hid (show Cur lo w4 cb K xs.length (Res.box w3.heap.size [.int .i64 (L : Int), .slice none 0 0] :: Res.box w.heap.size [.int .i64 0, .slice none 0 0] :: rs) from by rw [← e4]; exact hcx)
    have HB4 := Lib.hid (HB3.out.trans (hb4.mono hz3))
    have hz4 : lo ≤ w4.heap.size := Nat.le_trans hz3 hb4.size
    have HO := Lib.hid (l1Below_i (z := 5) (fun w' hb => HK.out w' (HB4.out.trans hb)) HC4.out hz4 (by omega) (by omega))
    have HE4 := Lib.hid e4
    clear hy hc hb ho hcx hb4 HP HC2 HB2 e2s HC3 HB3 m4 c0 c1 e4 hy2
    go_wp2_with fail
    rw [HE4.out]
    (with_reducible refine HO.out.mono ?_)
    rintro e w5 ⟨x, rfl, hx, hc, hb, ho⟩
    have hx4 : x ≤ 4 := by have h : x < Int.toNat 5 := hx; simp at h; omega
    obtain ⟨sb, hsb⟩ : ∃ b, b = w3.heap.size := ⟨_, rfl⟩
    have hc0 := hc.below (w' := w5) (Below.refl _ _)
    obtain ⟨i0, h0, hi0, hs0⟩ := hc0
    have hs1 := hs0.new RowG.held (Below.refl _ _) (Nat.le_trans hz4 hb.size) (RowG.nil (e := 9) (sz := 1) (f := scell) (w := w5) (lo := w5.heap.size))
    have hc1 : Cur lo w5 cb K xs.length (Res.box w3.heap.size [.int .i64 (L : Int), .slice none 0 0] :: ResTx (.slice none 0 0) [] :: Res.box w.heap.size [.int .i64 0, .slice none 0 0] :: rs) := ⟨i0, h0, hi0, hs1.perm (List.Perm.trans (List.Perm.swap _ _ _) (List.Perm.cons _ (List.Perm.swap _ _ _)))⟩
    rw [← hsb] at hc1 ⊢
    have HC5 := Lib.hid hc1
    have HB5 := Lib.hid (HB4.out.trans hb)
    have HX := Lib.hid (show ([] : List ByteArray).length + x ≤ 4 ∧ ∀ f, f ∈ ([] : List ByteArray) → f.size ≤ 8 from ⟨by simpa using hx4, fun f h => by cases h⟩)
    have HL := Lib.hid (fun (ys : List ByteArray) (ya : Option Addr) (yn yc : Nat) (wk : World) (h : Cur lo wk cb K xs.length (Res.box sb [.int .i64 (L : Int), .slice ya yn yc] :: ResTx (.slice ya yn yc) ys :: Res.box w.heap.size [.int .i64 0, .slice none 0 0] :: rs)) => (show yn = ys.length from by
      obtain ⟨a', c', e, -⟩ := h.rest.out.rowAt scell_lay
      simp only [Value.slice.injEq] at e
      exact e.2.1))
    clear hx hc hb ho HO HE4 HC4 HB4 hs0 hs1 hc1 hsb hz4 hL
    go_wp2_with fail
    go_loopg [6, 7] x (fun g nv wv wr => ∃ (ys : List ByteArray) (ya : Option Addr) (yn yc : Nat), nv = .int .i64 (g : Nat) ∧ g ≤ 4 ∧ Hid (ys.length + g ≤ 4 ∧ ∀ f, f ∈ ys → f.size ≤ 8) ∧ Hid (Cur lo wr cb K xs.length (Res.box sb [.int .i64 (L : Int), .slice ya yn yc] :: ResTx (.slice ya yn yc) ys :: Res.box w.heap.size [.int .i64 0, .slice none 0 0] :: rs)) ∧ Hid (Below lo w wr))
    case atStart => exact ⟨[], none, 0, 0, rfl, hx4, HX, HC5, HB5⟩
    case round =>
      clear HX HC5 HB5 hx4
      obtain ⟨ys, ya, yn, yc, rfl, hg, HY, HC, HB⟩ := hrel
      obtain ⟨wk, rfl⟩ : ∃ x, x = wr := ⟨_, rfl⟩
      have hzk : lo ≤ wk.heap.size := Nat.le_trans hlo HB.out.size
      cases gk with
      | zero =>
        have hcS := HC.out
        have hlk := HL.out ys ya yn yc wk hcS
        subst hlk
        obtain ⟨-, -, hcl⟩ := hcS.out.headBox
        have c0 := (hcl 0 _ rfl).1
        have c1 := (hcl 1 _ rfl).1
        have hr := hcS.perm ((List.Perm.swap _ _ _).trans ((List.Perm.cons _ (List.Perm.swap _ _ _)).trans (List.Perm.swap _ _ _)))
        obtain ⟨-, -, hcr⟩ := hr.out.headBox
        have r0 := (hcr 0 _ rfl).1
        have r1 := (hcr 1 _ rfl).1
        have f0 := (hcr 0 _ rfl).2
        have f1 := (hcr 1 _ rfl).2
        have hs1 := hr.store hzk (j := 0) rfl (.int .i64 (L : Int))
        have hB6 := hr.storeBelow HB.out 0 (.int .i64 (L : Int))
        have hs2 := hs1.store (by simpa using hzk) (j := 1) rfl (.slice ya ys.length yc)
        have hB7 := hs1.storeBelow hB6 1 (.slice ya ys.length yc)
        have hcv := hs2.rest.perm2'.rest.conv (s := ResSh (.agg #[.int .i64 (L : Int), .slice ya ys.length yc]) ((L : Int), ys)) (by simpa using hzk) (fun F h => ⟨_, rfl, RowG.strs h⟩)
        have HC7 := Lib.hid hcv
        have HB7 := Lib.hid hB7
        have u1 := (World.cell?_setCell_other wk ⟨w.heap.size, 0, none⟩ ⟨w.heap.size, 1, none⟩ (.int .i64 (L : Int)) (by simp)).trans r1
        have S1 := Lib.hid (World.cell?_setCell_same _ _ (.slice ya ys.length yc) u1)
        have S0 := Lib.hid ((World.cell?_setCell_other (wk.setCell ⟨w.heap.size, 0, none⟩ (.int .i64 (L : Int))) ⟨w.heap.size, 1, none⟩ ⟨w.heap.size, 0, none⟩ (.slice ya ys.length yc) (by simp)).trans (World.cell?_setCell_same wk _ (.int .i64 (L : Int)) r0))
        have HSm := Lib.hid (show SmSh ((L : Int), ys) from ⟨by simp, by simp; omega, by have := HY.out.1; simp; omega, HY.out.2⟩)
        clear hcS hr hs1 hB6 hs2 hB7 hcv u1 hcl hcr HC HB HY
        go_wp2_with fail
        refine bodyPost_ret (v := .agg #[.int .i64 (L : Int), .slice ya ys.length yc]) (by simp [results, Tryd.results75, go_sem, S0.out, S1.out]) rfl ?_
        exact ⟨_, ((L : Int), ys), rfl, HSm.out, HC7.out, HB7.out⟩
      | succ g =>
        have hg0 : (0 : Int) < ((g + 1 : Nat) : Int) := by omega
        have hbd : Below wk.heap.size wk wk.drew := (Below.refl _ _).drew
        have HCd := Lib.hid (HC.out.below hbd)
        have HBd := Lib.hid (HB.out.trans (hbd.mono hzk))
        have hzd : lo ≤ wk.drew.heap.size := Nat.le_trans hzk hbd.size
        have hSd : wk.drew.cell? ⟨sb, 0, none⟩ = some (.int .i64 (L : Int)) := HCd.out.box0
        have HD := Lib.hid (show Calls Tryd.prog 52 #[.pointer (some ⟨cb, 0, none⟩), .int .i64 (L : Int), .int .i64 2] wk.drew _ from l2Draw_c (kk := L) (most := 2) (fun w' hb => HK.out w' (HBd.out.trans hb)) HCd.out hzd hL1 hL3 (by omega))
        have hL0 : (0 : Int) ≤ (L : Int) := by omega
        have hLi : (L : Int) ≤ 3 := by omega
        have hbx : Below wk.heap.size wk (wk.alloc (.cells #[.string ⟨#[97]⟩, .string ⟨#[98]⟩, .string ⟨#[99]⟩] 9)).drew := ((Below.refl _ _).alloc (Nat.le_refl _) _).drew
        have hcx := (HC.out.box hzk (abc3.map Value.string) 9).below (Below.refl _ _).drew
        obtain ⟨wb, eb⟩ : ∃ x, x = (wk.alloc (.cells #[.string ⟨#[97]⟩, .string ⟨#[98]⟩, .string ⟨#[99]⟩] 9)).drew := ⟨_, rfl⟩
        have HCb := Lib.hid (show Cur lo wb cb K xs.length (Res.box wk.heap.size (abc3.map Value.string) :: Res.box sb [.int .i64 (L : Int), .slice ya yn yc] :: ResTx (.slice ya yn yc) ys :: Res.box w.heap.size [.int .i64 0, .slice none 0 0] :: rs) from by rw [eb]; exact hcx)
        have HBb := Lib.hid (show Below lo w wb from by rw [eb]; exact HB.out.trans (hbx.mono hzk))
        have hzb : lo ≤ wb.heap.size := Nat.le_trans hlo HBb.out.size
        have hSb : wb.cell? ⟨sb, 0, none⟩ = some (.int .i64 (L : Int)) := HCb.out.rest.box0
        have HDb := Lib.hid (show Calls Tryd.prog 52 #[.pointer (some ⟨cb, 0, none⟩), .int .i64 (L : Int), .int .i64 2] wb _ from l2Draw_c (kk := L) (most := 2) (fun w' hb => HK.out w' (HBb.out.trans hb)) HCb.out hzb hL1 hL3 (by omega))
        have ebs := Lib.hid eb.symm
        clear hcx hbx hbd eb HC HB
        go_wp2_with fail
        refine wp_region_L (fun w' => w'.cell? ⟨sb, 0, none⟩ = some (.int .i64 (L : Int))) (by kernel_rfl) ?_
        refine wpAnyL_take 0 (v := ?_) rfl (by kernel_rfl) (by kernel_rfl) (by kernel_rfl) (by kernel_rfl) (fun _ _ _ h => h) (Or.inl ⟨by rfl, ?_⟩) hSd ?_
        rotate_left
        · (intro w hSw; (try dsimp only at hSw); go_simp) <;> (try with_reducible rfl)
        try simp only [Act.put, List.getElem_toArray, List.getElem_cons_zero, List.getElem_cons_succ, List.setIfInBounds_toArray, List.set_cons_zero, List.set_cons_succ]
        refine wpAnyL_take 1 (v := ?_) rfl (by kernel_rfl) (by kernel_rfl) (by kernel_rfl) (by kernel_rfl) (fun _ _ _ h => h) (Or.inl ⟨by rfl, ?_⟩) hSd ?_
        rotate_left
        · (intro w hSw; (try dsimp only at hSw); go_simp) <;> (try with_reducible rfl)
        try simp only [Act.put, List.getElem_toArray, List.getElem_cons_zero, List.getElem_cons_succ, List.setIfInBounds_toArray, List.set_cons_zero, List.set_cons_succ]
        refine wpAnyL_take 2 (v := ?_) rfl (by kernel_rfl) (by kernel_rfl) (by kernel_rfl) (by kernel_rfl) (fun _ _ _ h => h) (Or.inl ⟨by rfl, ?_⟩) hSd ?_
        rotate_left
        · (intro w hSw; (try dsimp only at hSw); go_simp) <;> (try with_reducible rfl)
        try simp only [Act.put, List.getElem_toArray, List.getElem_cons_zero, List.getElem_cons_succ, List.setIfInBounds_toArray, List.set_cons_zero, List.set_cons_succ]
        refine wpAnyL_take 4 (v := ?_) rfl (by kernel_rfl) (by kernel_rfl) (by kernel_rfl) (by kernel_rfl) (fun _ _ _ h => h) (Or.inl ⟨by rfl, ?_⟩) hSd ?_
        rotate_left
        · (intro w hSw; (try dsimp only at hSw); go_simp) <;> (try with_reducible rfl)
        try simp only [Act.put, List.getElem_toArray, List.getElem_cons_zero, List.getElem_cons_succ, List.setIfInBounds_toArray, List.set_cons_zero, List.set_cons_succ]
        refine wpAnyL_take 6 (v := ?_) rfl (by kernel_rfl) (by kernel_rfl) (by kernel_rfl) (by kernel_rfl) (fun _ _ _ h => h) (Or.inl ⟨by rfl, ?_⟩) hSd ?_
        rotate_left
        · (intro w hSw; (try dsimp only at hSw); go_simp) <;> (try with_reducible rfl)
        try simp only [Act.put, List.getElem_toArray, List.getElem_cons_zero, List.getElem_cons_succ, List.setIfInBounds_toArray, List.set_cons_zero, List.set_cons_succ]
        refine wpAnyL_take 7 (v := ?_) rfl (by kernel_rfl) (by kernel_rfl) (by kernel_rfl) (by kernel_rfl) (fun _ _ _ h => h) (Or.inl ⟨by rfl, ?_⟩) hSd ?_
        rotate_left
        · (intro w hSw; (try dsimp only at hSw); go_simp) <;> (try with_reducible rfl)
        try simp only [Act.put, List.getElem_toArray, List.getElem_cons_zero, List.getElem_cons_succ, List.setIfInBounds_toArray, List.set_cons_zero, List.set_cons_succ]
        refine wpAnyL_two 3 5 (by kernel_rfl) rfl rfl (fun K hK => ?_) (fun K hK => ?_)
        · go_simp
          (with_reducible refine HD.out.mono ?_)
          rintro e w2 ⟨u, rfl, hu, hc, hb, ho⟩
          have HC2 := Lib.hid hc
          have HB2 := Lib.hid (HBd.out.trans hb)
          have hz2 : lo ≤ w2.heap.size := Nat.le_trans hzd hb.size
          have hS2 : w2.cell? ⟨sb, 0, none⟩ = some (.int .i64 (L : Int)) := hc.box0
          clear hc hb ho HD HCd HBd HCb HBb HDb hSb ebs hzb
          go_wp2_with fail
          refine hK.out _ _ (fun _ => hS2) ?_
          clear hK K
          try simp only [Act.put, List.getElem_toArray, List.getElem_cons_zero, List.getElem_cons_succ, List.setIfInBounds_toArray, List.set_cons_zero, List.set_cons_succ]
          have hbx : Below w2.heap.size w2 (w2.alloc (.cells #[.string ⟨#[97]⟩, .string ⟨#[98]⟩, .string ⟨#[99]⟩] 9)) := (Below.refl _ _).alloc (Nat.le_refl _) _
          have hcx := HC2.out.box hz2 (abc3.map Value.string) 9
          obtain ⟨w3, e3⟩ : ∃ x, x = w2.alloc (.cells #[.string ⟨#[97]⟩, .string ⟨#[98]⟩, .string ⟨#[99]⟩] 9) := ⟨_, rfl⟩
          have HC3 := Lib.hid (show Cur lo w3 cb K xs.length (Res.box w2.heap.size (abc3.map Value.string) :: Res.box sb [.int .i64 (L : Int), .slice ya yn yc] :: ResTx (.slice ya yn yc) ys :: Res.box w.heap.size [.int .i64 0, .slice none 0 0] :: rs) from by rw [e3]; exact hcx)
          have HB3 := Lib.hid (show Below lo w w3 from by rw [e3]; exact HB2.out.trans (hbx.mono hz2))
          have hz3 : lo ≤ w3.heap.size := Nat.le_trans hlo HB3.out.size
          have hS3 : w3.cell? ⟨sb, 0, none⟩ = some (.int .i64 (L : Int)) := HC3.out.rest.box0
          have HP := Lib.hid (l1PickP_c (N := L) (c := 3) (ls := abc3) (fun w' hb => HK.out w' (HB3.out.trans hb)) HC3.out hz3 hL1 hL3 (by decide))
          clear hbx hcx HC2 HB2
          refine wpAnyL_one 5 (by kernel_rfl) rfl (fun K hK => ?_)
          go_simp
          refine hK.out _ _ (fun _ => (by rw [← e3]; exact hS3)) ?_
          clear hK K
          try simp only [Act.put, List.getElem_toArray, List.getElem_cons_zero, List.getElem_cons_succ, List.setIfInBounds_toArray, List.set_cons_zero, List.set_cons_succ]
          rw [← e3]
          clear e3
          refine wpAnyL_take 8 (v := ?_) rfl (by kernel_rfl) (by kernel_rfl) (by kernel_rfl) (by kernel_rfl) (fun _ _ _ h => h) (Or.inl ⟨by rfl, ?_⟩) hS3 ?_
          rotate_left
          · (intro w hSw; (try dsimp only at hSw); go_simp) <;> (try with_reducible rfl)
          try simp only [Act.put, List.getElem_toArray, List.getElem_cons_zero, List.getElem_cons_succ, List.setIfInBounds_toArray, List.set_cons_zero, List.set_cons_succ]
          refine wpAnyL_one 9 (by kernel_rfl) rfl (fun K hK => ?_)
          go_simp
          (with_reducible refine HP.out.mono ?_)
          rintro e w4 ⟨y, rfl, hy, hc, hb, ho⟩
          have hys := abc3_size hy
          have hcat : ¬ (9223372036854775807 < u.size + y.size) := by omega
          have HYs := Lib.hid hys
          clear hys
          have HC4 := Lib.hid hc.rest
          have HB4 := Lib.hid (HB3.out.trans hb)
          have hz4 : lo ≤ w4.heap.size := Nat.le_trans hz3 hb.size
          have hS4 : w4.cell? ⟨sb, 0, none⟩ = some (.int .i64 (L : Int)) := hc.rest.box0
          clear hc hb ho hy HP HC3 HB3
          go_wp2_with fail
          refine hK.out _ _ (fun _ => hS4) ?_
          clear hK K
          try simp only [Act.put, List.getElem_toArray, List.getElem_cons_zero, List.getElem_cons_succ, List.setIfInBounds_toArray, List.set_cons_zero, List.set_cons_succ]
          refine wpAnyL_take 10 (v := ?_) rfl (by kernel_rfl) (by kernel_rfl) (by kernel_rfl) (by kernel_rfl) (fun _ _ _ h => h) (Or.inl ⟨by rfl, ?_⟩) hS4 ?_
          rotate_left
          · (intro w hSw; (try dsimp only at hSw); go_simp) <;> (try with_reducible rfl)
          try simp only [Act.put, List.getElem_toArray, List.getElem_cons_zero, List.getElem_cons_succ, List.setIfInBounds_toArray, List.set_cons_zero, List.set_cons_succ]
          refine wpAnyL_one 11 (by kernel_rfl) rfl (fun K hK => ?_)
          go_simp
          refine hK.out _ _ (fun h => absurd h (not_rem (by kernel_rfl))) ?_
          clear hK K
          try simp only [Act.put, List.getElem_toArray, List.getElem_cons_zero, List.getElem_cons_succ, List.setIfInBounds_toArray, List.set_cons_zero, List.set_cons_succ]
          refine wpAnyL_done (by kernel_rfl) ?_ _
          obtain ⟨i4, h4, hi4, hs4⟩ := HC4.out
          have hlk := HL.out ys ya yn yc w4 HC4.out
          have hput := l2Put_c (x := u ++ y) (hs4.perm ((List.Perm.cons _ (List.Perm.swap _ _ _)).trans (List.Perm.swap _ _ _))) hz4 (by have := HY.out.1; omega)
          have HPut := Lib.hid hput
          obtain ⟨-, -, hcl⟩ := HC4.out.out.headBox
          have c1 := (hcl 1 _ rfl).1
          have HU := Lib.hid (show (u ++ y).size ≤ 8 from by rw [bs_size, HYs.out]; omega)
          generalize u ++ y = uy at HPut HU ⊢
          clear hs4 hput hcl hlk hS4 HYs hu hcat
          go_wp2_with fail
          (with_reducible refine HPut.out.mono ?_)
          rintro e w5 ⟨v', zs, rfl, hl, hs5, hb5⟩
          obtain ⟨za, zc, rfl, -⟩ := hs5.rowAt scell_lay
          have hc5 : Cur lo w5 cb K xs.length (Res.box sb [.int .i64 (L : Int), .slice ya yn yc] :: ResTx (.slice za zs.length zc) zs :: Res.box w.heap.size [.int .i64 0, .slice none 0 0] :: rs) := ⟨i4, h4, hi4, hs5.perm ((List.Perm.swap _ _ _).trans (List.Perm.cons _ (List.Perm.swap _ _ _)))⟩
          have hz5 : lo ≤ w5.heap.size := Nat.le_trans hz4 hb5.size
          have HB6 := Lib.hid (hc5.storeBelow (HB4.out.trans hb5) 1 (.slice za zs.length zc))
          have HC6 := Lib.hid (hc5.store hz5 (j := 1) rfl (.slice za zs.length zc))
          obtain ⟨-, -, hcl⟩ := hc5.out.headBox
          have d1 := (hcl 1 _ rfl).1
          have t1 := (hcl 1 _ rfl).2
          have HY6 := Lib.hid (show zs.length + g ≤ 4 ∧ ∀ f, f ∈ zs → f.size ≤ 8 from ⟨by have := HY.out.1; have := hl.1; omega, fun f hf => by
            rcases hl.2 f hf with e | e
            · rw [e]; exact HU.out
            · exact HY.out.2 f e⟩)
          obtain ⟨zl, hzl⟩ : ∃ zl, zl = zs.length := ⟨_, rfl⟩
          rw [← hzl] at HB6 HC6 ⊢
          clear hzl
          clear hl hs5 hb5 hc5 hcl HPut HC4 HB4 HU HY
          go_wp2_with fail
          go_roundg g
          case measure => omega
          case rel => exact ⟨zs, za, zl, zc, by go_num, by omega, HY6, HC6, HB6⟩
        · go_simp
          refine hK.out _ _ (fun _ => (by rw [ebs.out]; exact hSb)) ?_
          clear hK K
          try simp only [Act.put, List.getElem_toArray, List.getElem_cons_zero, List.getElem_cons_succ, List.setIfInBounds_toArray, List.set_cons_zero, List.set_cons_succ]
          rw [ebs.out]
          clear HD HCd HBd hSd hzd ebs
          refine wpAnyL_take 8 (v := ?_) rfl (by kernel_rfl) (by kernel_rfl) (by kernel_rfl) (by kernel_rfl) (fun _ _ _ h => h) (Or.inl ⟨by rfl, ?_⟩) hSb ?_
          rotate_left
          · (intro w hSw; (try dsimp only at hSw); go_simp) <;> (try with_reducible rfl)
          try simp only [Act.put, List.getElem_toArray, List.getElem_cons_zero, List.getElem_cons_succ, List.setIfInBounds_toArray, List.set_cons_zero, List.set_cons_succ]
          refine wpAnyL_one 3 (by kernel_rfl) rfl (fun K hK => ?_)
          go_simp
          (with_reducible refine HDb.out.mono ?_)
          rintro e w3 ⟨u, rfl, hu, hc, hb, ho⟩
          have HC3 := Lib.hid hc
          have HB3 := Lib.hid (HBb.out.trans hb)
          have hz3 : lo ≤ w3.heap.size := Nat.le_trans hzb hb.size
          have hS3 : w3.cell? ⟨sb, 0, none⟩ = some (.int .i64 (L : Int)) := hc.rest.box0
          have HP := Lib.hid (l1PickP_c (N := L) (c := 3) (ls := abc3) (fun w' hb => HK.out w' (HB3.out.trans hb)) HC3.out hz3 hL1 hL3 (by decide))
          clear hc hb ho HDb HCb HBb hSb hzb
          go_wp2_with fail
          refine hK.out _ _ (fun _ => hS3) ?_
          clear hK K
          try simp only [Act.put, List.getElem_toArray, List.getElem_cons_zero, List.getElem_cons_succ, List.setIfInBounds_toArray, List.set_cons_zero, List.set_cons_succ]
          refine wpAnyL_one 9 (by kernel_rfl) rfl (fun K hK => ?_)
          go_simp
          (with_reducible refine HP.out.mono ?_)
          rintro e w4 ⟨y, rfl, hy, hc, hb, ho⟩
          have hys := abc3_size hy
          have hcat : ¬ (9223372036854775807 < u.size + y.size) := by omega
          have HYs := Lib.hid hys
          clear hys
          have HC4 := Lib.hid hc.rest
          have HB4 := Lib.hid (HB3.out.trans hb)
          have hz4 : lo ≤ w4.heap.size := Nat.le_trans hz3 hb.size
          have hS4 : w4.cell? ⟨sb, 0, none⟩ = some (.int .i64 (L : Int)) := hc.rest.box0
          clear hc hb ho hy HP HC3 HB3
          go_wp2_with fail
          refine hK.out _ _ (fun _ => hS4) ?_
          clear hK K
          try simp only [Act.put, List.getElem_toArray, List.getElem_cons_zero, List.getElem_cons_succ, List.setIfInBounds_toArray, List.set_cons_zero, List.set_cons_succ]
          refine wpAnyL_take 10 (v := ?_) rfl (by kernel_rfl) (by kernel_rfl) (by kernel_rfl) (by kernel_rfl) (fun _ _ _ h => h) (Or.inl ⟨by rfl, ?_⟩) hS4 ?_
          rotate_left
          · (intro w hSw; (try dsimp only at hSw); go_simp) <;> (try with_reducible rfl)
          try simp only [Act.put, List.getElem_toArray, List.getElem_cons_zero, List.getElem_cons_succ, List.setIfInBounds_toArray, List.set_cons_zero, List.set_cons_succ]
          refine wpAnyL_one 11 (by kernel_rfl) rfl (fun K hK => ?_)
          go_simp
          refine hK.out _ _ (fun h => absurd h (not_rem (by kernel_rfl))) ?_
          clear hK K
          try simp only [Act.put, List.getElem_toArray, List.getElem_cons_zero, List.getElem_cons_succ, List.setIfInBounds_toArray, List.set_cons_zero, List.set_cons_succ]
          refine wpAnyL_done (by kernel_rfl) ?_ _
          obtain ⟨i4, h4, hi4, hs4⟩ := HC4.out
          have hlk := HL.out ys ya yn yc w4 HC4.out
          have hput := l2Put_c (x := u ++ y) (hs4.perm ((List.Perm.cons _ (List.Perm.swap _ _ _)).trans (List.Perm.swap _ _ _))) hz4 (by have := HY.out.1; omega)
          have HPut := Lib.hid hput
          obtain ⟨-, -, hcl⟩ := HC4.out.out.headBox
          have c1 := (hcl 1 _ rfl).1
          have HU := Lib.hid (show (u ++ y).size ≤ 8 from by rw [bs_size, HYs.out]; omega)
          generalize u ++ y = uy at HPut HU ⊢
          clear hs4 hput hcl hlk hS4 HYs hu hcat
          go_wp2_with fail
          (with_reducible refine HPut.out.mono ?_)
          rintro e w5 ⟨v', zs, rfl, hl, hs5, hb5⟩
          obtain ⟨za, zc, rfl, -⟩ := hs5.rowAt scell_lay
          have hc5 : Cur lo w5 cb K xs.length (Res.box sb [.int .i64 (L : Int), .slice ya yn yc] :: ResTx (.slice za zs.length zc) zs :: Res.box w.heap.size [.int .i64 0, .slice none 0 0] :: rs) := ⟨i4, h4, hi4, hs5.perm ((List.Perm.swap _ _ _).trans (List.Perm.cons _ (List.Perm.swap _ _ _)))⟩
          have hz5 : lo ≤ w5.heap.size := Nat.le_trans hz4 hb5.size
          have HB6 := Lib.hid (hc5.storeBelow (HB4.out.trans hb5) 1 (.slice za zs.length zc))
          have HC6 := Lib.hid (hc5.store hz5 (j := 1) rfl (.slice za zs.length zc))
          obtain ⟨-, -, hcl⟩ := hc5.out.headBox
          have d1 := (hcl 1 _ rfl).1
          have t1 := (hcl 1 _ rfl).2
          have HY6 := Lib.hid (show zs.length + g ≤ 4 ∧ ∀ f, f ∈ zs → f.size ≤ 8 from ⟨by have := HY.out.1; have := hl.1; omega, fun f hf => by
            rcases hl.2 f hf with e | e
            · rw [e]; exact HU.out
            · exact HY.out.2 f e⟩)
          obtain ⟨zl, hzl⟩ : ∃ zl, zl = zs.length := ⟨_, rfl⟩
          rw [← hzl] at HB6 HC6 ⊢
          clear hzl
          clear hl hs5 hb5 hc5 hcl HPut HC4 HB4 HU HY
          go_wp2_with fail
          go_roundg g
          case measure => omega
          case rel => exact ⟨zs, za, zl, zc, by go_num, by omega, HY6, HC6, HB6⟩
end Go.Proofs.YtcilgihmaaobeaaDoor
end

section
namespace Go.Proofs.YtcilgihmaaobeaaDoor
open Go.RowKit Go.Deep Go.Sd
def wordD (L : Nat) : Nat → Nat → List Nat
  | 0, _ => []
  | n + 1, i => wordD L n (i / L) ++ [i % L]
def allW (L : Nat) : Nat → List (List Nat)
  | 0 => [[]]
  | n + 1 => (allW L n).flatMap fun w => (List.range L).map fun x => w ++ [x]
theorem range_mul (b : Nat) : ∀ a : Nat, List.range (a * b) = (List.range a).flatMap fun j => (List.range b).map fun x => j * b + x
  | 0 => by simp
  | a + 1 => by
    rw [Nat.add_mul, Nat.one_mul, List.range_add, range_mul b a, List.range_succ, List.flatMap_append]
    simp
theorem allW_eq {L : Nat} (hL : 0 < L) : ∀ n : Nat, allW L n = (List.range (L ^ n)).map (wordD L n)
  | 0 => by simp [allW, wordD]
  | n + 1 => by
    unfold allW
    rw [allW_eq hL n, Nat.pow_succ, range_mul, List.map_flatMap, List.flatMap_map]
    congr 1
    funext j
    rw [List.map_map]
    apply List.map_congr_left
    intro x hx
    have hx' : x < L := List.mem_range.1 hx
    simp only [Function.comp, wordD]
    rw [Nat.mul_comm j L, Nat.mul_add_div hL, Nat.mul_add_mod, Nat.div_eq_of_lt hx', Nat.mod_eq_of_lt hx', Nat.add_zero]
theorem allW_len {L : Nat} (hL : 0 < L) (n : Nat) : (allW L n).length = L ^ n := by rw [allW_eq hL]; simp
theorem wordD_len (L : Nat) : ∀ n i : Nat, (wordD L n i).length = n
  | 0, _ => rfl
  | n + 1, i => by simp [wordD, wordD_len L n]
theorem wordD_lt {L : Nat} (hL : 0 < L) : ∀ (n i x : Nat), x ∈ wordD L n i → x < L
  | 0, _, _, h => by cases h
  | n + 1, i, x, h => by
    rcases List.mem_append.1 h with h | h
    · exact wordD_lt hL n _ x h
    · simp at h; subst h; exact Nat.mod_lt _ hL
theorem allW_mem {L : Nat} (hL : 0 < L) {n : Nat} {w : List Nat} (h : w ∈ allW L n) : w.length = n ∧ ∀ x, x ∈ w → x < L := by
  rw [allW_eq hL] at h
  obtain ⟨i, _, rfl⟩ := List.mem_map.1 h
  exact ⟨wordD_len L n i, wordD_lt hL n i⟩
theorem wordT_size (w : List Nat) : (wordT w).size = w.length := by simp [wordT, ByteArray.size]
theorem pow_le {L n : Nat} (hL : L ≤ 3) (hn : n ≤ 6) : L ^ n ≤ 729 :=
  Nat.le_trans (Nat.pow_le_pow_left hL n) (Nat.pow_le_pow_right (by decide) hn)
end Go.Proofs.YtcilgihmaaobeaaDoor
end

section
namespace Go.Proofs.YtcilgihmaaobeaaDoor
open Go.RowKit Go.Deep Go.Sd
section
variable {α : Type}
def pick : List α → List Bool → List α
  | x :: xs, b :: bs => if b = true then x :: pick xs bs else pick xs bs
  | _, _ => []
theorem pick_t (x : α) (xs : List α) (bs : List Bool) : pick (x :: xs) (true :: bs) = x :: pick xs bs := rfl
theorem pick_f (x : α) (xs : List α) (bs : List Bool) : pick (x :: xs) (false :: bs) = pick xs bs := rfl
theorem pick_all : ∀ xs : List α, pick xs (List.replicate xs.length true) = xs
  | [] => rfl
  | x :: xs => by
    show pick (x :: xs) (true :: List.replicate xs.length true) = _
    unfold pick
    rw [if_pos rfl, pick_all xs]
theorem pick_len : ∀ (xs : List α) (l : List Bool), l.length = xs.length → (pick xs l).length = cntT l
  | [], [], _ => rfl
  | [], _ :: _, h => by cases h
  | _ :: _, [], h => by cases h
  | x :: xs, b :: bs, h => by
    have ih := pick_len xs bs (by simpa using h)
    unfold pick
    cases b with
    | true => rw [if_pos rfl, List.length_cons, ih]; simp [cntT]
    | false => rw [if_neg (by decide), ih]; simp [cntT]
theorem pick_mem : ∀ (xs : List α) (l : List Bool) (x : α), x ∈ pick xs l ↔ ∃ i : Nat, On l i ∧ xs[i]? = some x
  | [], _, x => by simp [pick]
  | _ :: _, [], x => by simp [pick, On]
  | y :: ys, b :: bs, x => by
    have ih := pick_mem ys bs x
    have key : (∃ i : Nat, On (b :: bs) i ∧ (y :: ys)[i]? = some x) ↔ (b = true ∧ y = x) ∨ ∃ i : Nat, On bs i ∧ ys[i]? = some x := by
      constructor
      · rintro ⟨i, h1, h2⟩
        cases i with
        | zero =>
          left
          have e1 : b = true := by simpa [On] using h1
          have e2 : y = x := by simpa using h2
          exact ⟨e1, e2⟩
        | succ i => right; exact ⟨i, by simpa [On] using h1, by simpa using h2⟩
      · rintro (⟨h1, h2⟩ | ⟨i, h1, h2⟩)
        · exact ⟨0, by simp [On, h1], by simp [h2]⟩
        · exact ⟨i + 1, by simpa [On] using h1, by simpa using h2⟩
    rw [key, ← ih]
    cases b with
    | true => rw [pick_t, List.mem_cons]; simp [eq_comm]
    | false => rw [pick_f]; simp
/-- What is left of a mask where something holds. -/
def maskF (p : α → Bool) : List α → List Bool → List Bool
  | x :: xs, b :: bs => (b && p x) :: maskF p xs bs
  | _, bs => bs
theorem maskF_len (p : α → Bool) : ∀ (xs : List α) (l : List Bool), (maskF p xs l).length = l.length
  | [], _ => by unfold maskF; rfl
  | _ :: _, [] => rfl
  | _ :: xs, _ :: bs => by unfold maskF; rw [List.length_cons, List.length_cons, maskF_len p xs bs]
theorem pick_filter (p : α → Bool) : ∀ (xs : List α) (l : List Bool), (pick xs l).filter p = pick xs (maskF p xs l)
  | [], l => by simp [pick]
  | _ :: _, [] => by simp [pick, maskF]
  | x :: xs, b :: bs => by
    have ih := pick_filter p xs bs
    unfold maskF
    cases b with
    | true =>
      rw [pick_t, List.filter_cons]
      cases hp : p x with
      | true => rw [if_pos rfl, ih]; rfl
      | false => rw [if_neg (by decide), ih]; rfl
    | false => rw [pick_f, ih]; rfl
theorem maskF_on (p : α → Bool) : ∀ (xs : List α) (l : List Bool), l.length = xs.length → ∀ i, On (maskF p xs l) i ↔ On l i ∧ ∃ x, xs[i]? = some x ∧ p x = true
  | [], [], _, i => by simp [maskF, On]
  | [], _ :: _, h, _ => by cases h
  | _ :: _, [], h, _ => by cases h
  | x :: xs, b :: bs, h, i => by
    have ih := maskF_on p xs bs (by simpa using h)
    unfold maskF
    cases i with
    | zero => simp [On]
    | succ i =>
      have := ih i
      simpa [On] using this
end
/-- A word of two letters may be followed by another. -/
def goesB (F : List ByteArray) (u v : List Nat) : Bool := decide (u.getD 1 0 = v.getD 0 0) && avoM F (wordT (u ++ v.drop 1))
def EG (F : List ByteArray) (W : List (List Nat)) (i j : Nat) : Prop := ∃ u v, W[i]? = some u ∧ W[j]? = some v ∧ goesB F u v = true
def avoW (F : List ByteArray) (L : Nat) : List (List Nat) := (allW L 2).filter fun wd => avoM F (wordT wd)
noncomputable def pairsM (F : List ByteArray) (L : Nat) : List (List Nat) := pick (avoW F L) (liveL (EG F (avoW F L)) (avoW F L).length)
/-- What is kept in one pass. -/
def keepB (F : List ByteArray) (out : List (List Nat)) (u : List Nat) : Bool := out.any (fun v => goesB F u v) && out.any (fun v => goesB F v u)
theorem keep_rnd (F : List ByteArray) (W : List (List Nat)) (l : List Bool) (h : l.length = W.length) : Rnd (EG F W) l (maskF (keepB F (pick W l)) W l) := by
  refine ⟨maskF_len _ _ _, fun i => ?_⟩
  rw [maskF_on _ _ _ h]
  constructor
  · rintro ⟨h1, x, hx, hk⟩
    refine ⟨h1, ?_⟩
    unfold keepB at hk
    rw [Bool.and_eq_true, List.any_eq_true, List.any_eq_true] at hk
    obtain ⟨⟨v, hv, hg⟩, u, hu, hg2⟩ := hk
    obtain ⟨j, hj, hjv⟩ := (pick_mem _ _ _).1 hv
    obtain ⟨k, hk, hku⟩ := (pick_mem _ _ _).1 hu
    exact ⟨⟨j, hj, x, v, hx, hjv, hg⟩, k, hk, u, x, hku, hx, hg2⟩
  · rintro ⟨h1, ⟨j, hj, x, v, hx, hv, hg⟩, k, hk, u, x', hu, hx', hg2⟩
    rw [hx] at hx'
    cases hx'
    refine ⟨h1, x, hx, ?_⟩
    unfold keepB
    rw [Bool.and_eq_true, List.any_eq_true, List.any_eq_true]
    exact ⟨⟨v, (pick_mem _ _ _).2 ⟨j, hj, hv⟩, hg⟩, u, (pick_mem _ _ _).2 ⟨k, hk, hu⟩, hg2⟩
/-- Where a pass keeps all, the end is reached. -/
theorem keep_end {F : List ByteArray} {W : List (List Nat)} {l : List Bool} (hS : Sup (EG F W) W.length l) (h : (pick W (maskF (keepB F (pick W l)) W l)).length = (pick W l).length) : pick W l = pick W (liveL (EG F W) W.length) := by
  have hl := hS.1
  have hr := keep_rnd F W l hl
  rw [pick_len _ _ (by rw [maskF_len, hl]), pick_len _ _ hl] at h
  have e := (cntT_mono hr.1 (fun i hi => ((hr.2 i).1 hi).1)).2 h
  have hc : Clos (EG F W) W.length (On l) := fun i hi => by
    have h2 := (hr.2 i).1 (by rw [e]; exact hi)
    exact ⟨by have := hi.lt; omega, h2.2⟩
  rw [← live_of hS hc]
/-- A pass keeps what is above all. -/
theorem keep_sup {F : List ByteArray} {W : List (List Nat)} {l : List Bool} (hS : Sup (EG F W) W.length l) : Sup (EG F W) W.length (maskF (keepB F (pick W l)) W l) := by
  have hr := keep_rnd F W l hS.1
  refine ⟨by rw [maskF_len]; exact hS.1, fun i hg => (hr.2 i).2 ⟨hS.2 i hg, hS.both hg⟩⟩
theorem keep_less {F : List ByteArray} {W : List (List Nat)} {l : List Bool} (hl : l.length = W.length) (h : (pick W (maskF (keepB F (pick W l)) W l)).length ≠ (pick W l).length) : cntT (maskF (keepB F (pick W l)) W l) < cntT l := by
  have hr := keep_rnd F W l hl
  rw [pick_len _ _ (by rw [maskF_len, hl]), pick_len _ _ hl] at h
  have := (cntT_mono hr.1 (fun i hi => ((hr.2 i).1 hi).1)).1
  omega
noncomputable def statesM (F : List ByteArray) (L : Nat) : List (List Nat) := (allW L 2).filter fun wd => avoM F (wordT wd) && hasB ((pairsM F L).map wordT) (wordT wd)
end Go.Proofs.YtcilgihmaaobeaaDoor
end
