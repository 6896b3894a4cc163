/-
  Texts of this claim joined: laws for its walks, contracts of the functions that the law reaches.
-/
import Derived.Test.YtlkgkfgpnnahdaaGreatRows
import Derived.Test.YtlkgkfgpnnahdaaGreatFnStepsM1
import Derived.Test.YtlkgkfgpnnahdaaGreatFnStepsM6
import Derived.Test.YtlkgkfgpnnahdaaGreatFnStepsM7
import Derived.Test.YtlkgkfgpnnahdaaGreatFnStepsM8
import Derived.IntWalk
import Derived.Test.YtlkgkfgpnnahdaaGreatFnStepsM3
import Derived.Test.YtlkgkfgpnnahdaaGreatFnStepsM4
import Derived.Deep.RegionLaw
section
/-
  PartsOf, the program's.
-/
namespace Go.Sd
open Go.RowKit Go.Deep
theorem New.one {α : Type} {e : TypeId} {R : OwnRel α} (hR : Kept R) {lo : Nat} {w : World} {u : Value} {x : α} (h : New R lo w u x) (hlo : lo ≤ w.heap.size) :
    New (OwnOf e R) lo (w.alloc (.cells #[u] e)) (.slice (some ⟨w.heap.size, 0, none⟩) 1 1) [x] := by
  obtain ⟨F, hF, hn, hge⟩ := h
  have hlt := hR.lt _ _ _ _ hF
  refine ⟨w.heap.size :: F, ⟨[u], [F], ⟨by simp, .inr ⟨w.heap.size, 1, #[u], rfl, Nat.zero_le _, heap_alloc_new w _, Nat.le_refl _, by simp [maxLen], by simp, by simp⟩⟩, rfl, ?_, by simp [Value.ownBlock]⟩, List.nodup_cons.2 ⟨fun hm => by have := hlt _ hm; omega, hn⟩, fun b hb => by
    rcases List.mem_cons.1 hb with rfl | hb
    · exact hlo
    · exact hge b hb⟩
  intro i u' x' G hu hx hG
  cases i with
  | zero =>
    simp at hu hx hG
    subst hu hx hG
    exact Kept.below hR hF ((Below.refl _ _).alloc (Nat.le_refl _) _)
  | succ i => simp at hu
theorem exts_len (l : List Int) (x : Int) : (exts l x).length = x.toNat + 1 := by simp [exts]
theorem flat_len (x : Int) : ∀ ls : Tbl, (ls.flatMap fun l => exts l x).length = ls.length * (x.toNat + 1)
  | [] => by simp
  | l :: ls => by
    rw [List.flatMap_cons, List.length_append, flat_len x ls, exts_len, List.length_cons, Nat.succ_mul]; omega
/-- Rows of k small numbers. -/
def RowsK (k : Nat) (cur : Tbl) : Prop := cur.length ≤ 4 ^ k ∧ ∀ l, l ∈ cur → l.length = k ∧ ∀ y, y ∈ l → 0 ≤ y ∧ y ≤ 3
theorem RowsK.next {k : Nat} {cur : Tbl} {x : Int} (h : RowsK k cur) (h0 : 0 ≤ x) (h3 : x ≤ 3) : RowsK (k + 1) (ext cur x) := by
  constructor
  · unfold ext
    rw [flat_len, Nat.pow_succ]
    exact Nat.mul_le_mul h.1 (by omega)
  · intro l hl
    obtain ⟨l0, hl0, hl1⟩ := List.mem_flatMap.1 hl
    obtain ⟨y, hy, rfl⟩ := List.mem_map.1 hl1
    have h1 := h.2 l0 hl0
    have hy2 := List.mem_range.1 hy
    refine ⟨by rw [List.length_append, h1.1]; rfl, fun z hz => ?_⟩
    rcases List.mem_append.1 hz with hz | hz
    · exact h1.2 z hz
    · simp at hz; omega
end Go.Sd
namespace Go.Proofs.YtlkgkfgpnnahdaaGreat
open Go.RowKit Go.Deep Go.Sd
set_option maxHeartbeats 8000000 in
set_option maxRecDepth 100000 in
theorem impl_PartsOf_c {w : World} {v : Value} {row : List Int} (h : Ints w v row) :
    Calls Tryz.prog 45 #[v] w (Makes (OTab 3 46) w (partsV row)) := by
  have hlen := h.len
  obtain ⟨a, c, rfl, _, _, hcell⟩ := h.shape
  have Hi := Lib.hid h
  clear h
  have HV := Lib.hid (partsV_impl row)
  generalize partsV row = V at HV ⊢
  obtain ⟨n, hn⟩ : ∃ n, n = row.length := ⟨_, rfl⟩
  have Hn := Lib.hid hn
  rw [← hn] at hlen hcell HV Hi ⊢
  clear hn
  have hmf : ∀ (fn : Fn) (first cap : Array Value) (w : World), (Instr.makeFunc fn first cap).run Tryz.prog w = .ok (.func fn first cap) w := fun _ _ _ _ => rfl
  have qb : (w.alloc (.cells #[.slice a n c] 46)).cell? ⟨w.heap.size, 0, none⟩ = some (.slice a n c) := by simp
  have hb0 : Below w.heap.size w (w.alloc (.cells #[.slice a n c] 46)) := (Below.refl _ _).alloc (Nat.le_refl _) _
  have hz0 : (w.alloc (.cells #[.slice a n c] 46)).heap.size = w.heap.size + 1 := by simp
  by_cases h4 : n ≤ 4
  rotate_left
  · have HF := Lib.hid (show V = [] from by rw [HV.out, if_neg h4])
    have Hb0 := Lib.hid hb0
    clear HV hcell qb hb0 hz0 hmf
    go_enter Tryz.func45, Tryz.ntmps45
    go_wp2
    go_ret
    exact ⟨_, rfl, by rw [HF.out]; exact New.nil _ _, Hb0.out⟩
  have HV0 := Lib.hid (show V = goOn (keepI row) (row.drop 0) [[]] from by rw [HV.out, if_pos h4]; rfl)
  clear HV
  have Hn1 := Lib.hid (show New (OTab 3 46) (w.heap.size + 1) (((w.alloc (.cells #[.slice a n c] 46)).alloc (.cells #[] 3)).alloc (.cells #[.slice (some ⟨w.heap.size + 1, 0, none⟩) 0 0] 46)) (.slice (some ⟨w.heap.size + 1 + 1, 0, none⟩) 1 1) [[]] from by
    have h1 := New.one (e := 46) (OInts.kept 3) (New.empty (e := 3) (R := OIntR) (lo := w.heap.size + 1) (w.alloc (.cells #[.slice a n c] 46)) (by simp)) (by simp)
    rw [show ((w.alloc (.cells #[.slice a n c] 46)).alloc (.cells #[] 3)).heap.size = w.heap.size + 1 + 1 from by simp, hz0] at h1
    exact h1)
  have Hb1 := Lib.hid (show Below (w.heap.size + 1) (w.alloc (.cells #[.slice a n c] 46)) (((w.alloc (.cells #[.slice a n c] 46)).alloc (.cells #[] 3)).alloc (.cells #[.slice (some ⟨w.heap.size + 1, 0, none⟩) 0 0] 46)) from ((Below.refl _ _).alloc (by simp) _).alloc (by simp) _)
  have Hb0 := Lib.hid hb0
  have Hz0 := Lib.hid hz0
  clear hb0 hz0
  go_enter Tryz.func45, Tryz.ntmps45
  go_wp2
  generalize w.alloc (.cells #[.slice a n c] 46) = w1 at *
  have Hqb := Lib.hid qb
  generalize (w1.alloc (.cells #[] 3)).alloc (.cells #[.slice (some ⟨w.heap.size + 1, 0, none⟩) 0 0] 46) = wS at *
  clear qb
  go_loopg [3, 17] n (fun g v i wr => ∃ (k : Nat) (cur : Tbl), i = .int .i64 k ∧ k + g = n ∧ Hid (V = goOn (keepI row) (row.drop k) cur) ∧ Hid (RowsK k cur) ∧ Hid (New (OTab 3 46) (w.heap.size + 1) wr v cur) ∧ Hid (Below (w.heap.size + 1) w1 wr) ∧ Hid (∀ y, y ∈ row.take k → 0 ≤ y ∧ y ≤ 3))
  case atStart => exact ⟨0, [[]], rfl, by omega, HV0, Lib.hid ⟨by simp, by simp⟩, Hn1, Hb1, Lib.hid (fun y hy => by simp at hy)⟩
  case round =>
    obtain ⟨k, cur, rfl, hk, HK, hrk, hnew, hbel, htk⟩ := hrel
    have hsz1 := hbel.out.size
    have hb1 := Hz0.out
    by_cases hlt : k < n
    · obtain ⟨b, o, rfl, hb, hx0⟩ := hcell (by omega)
      obtain ⟨x, hx, hd⟩ := at_lt (xs := row) (k := k) (by have := Hn.out; omega)
      obtain ⟨u, hu, hux⟩ := hx0 k x hx
      obtain rfl : u = .int .i64 x := hux
      have hu1 : wr.cell? ⟨b, o + k, none⟩ = some (.int .i64 x) := (hbel.out.cell (p := ⟨b, o + k, none⟩) (by simp; omega)).trans ((Hb0.out.cell (p := ⟨b, o + k, none⟩) hb).trans hu)
      have HK1 := Lib.hid (show V = if 0 ≤ x ∧ x ≤ 3 then goOn (keepI row) (row.drop (k + 1)) (ext cur x) else [] from by rw [HK.out, hd]; rfl)
      have hbw : Below w.heap.size w wr := Hb0.out.trans (hbel.out.mono (by omega))
      have Hbw := Lib.hid hbw
      have hkn : (k : Int) < (n : Int) := by omega
      have Htk1 := Lib.hid (show ∀ y, y ∈ row.take (k + 1) → y = x ∨ (0 ≤ y ∧ y ≤ 3) from fun y hy => by
        rw [List.take_add_one, hx] at hy
        rcases List.mem_append.1 hy with hy | hy
        · exact Or.inr (htk.out y hy)
        · simp at hy; exact Or.inl hy)
      clear hx hd hx0 hcell hu HK hbw
      by_cases hxa : x < 0
      · have HF := Lib.hid (show V = [] from by rw [HK1.out, if_neg (by omega)])
        have d0 : decide (x < 0) = true := decide_eq_true hxa
        clear HK1
        go_wp2
        go_ret
        exact ⟨_, rfl, by rw [HF.out]; exact New.nil _ _, Hbw.out⟩
      by_cases hxb : 3 < x
      · have HF := Lib.hid (show V = [] from by rw [HK1.out, if_neg (by omega)])
        have d0 : decide (x < 0) = false := decide_eq_false hxa
        have d1 : decide (3 < x) = true := decide_eq_true hxb
        clear HK1
        go_wp2
        go_ret
        exact ⟨_, rfl, by rw [HF.out]; exact New.nil _ _, Hbw.out⟩
      obtain ⟨X, rfl⟩ := Int.eq_ofNat_of_zero_le (show 0 ≤ x by omega)
      have hX3 : X ≤ 3 := by omega
      have HF := Lib.hid (show V = goOn (keepI row) (row.drop (k + 1)) (ext cur (X : Int)) from by rw [HK1.out, if_pos (by omega)])
      have d0 : decide ((X : Int) < 0) = false := decide_eq_false hxa
      have d1 : decide (3 < (X : Int)) = false := decide_eq_false hxb
      have HtkN := Lib.hid (show ∀ y, y ∈ row.take (k + 1) → 0 ≤ y ∧ y ≤ 3 from fun y hy => by rcases Htk1.out y hy with h | h; subst h; omega; exact h)
      have HrkN := Lib.hid (hrk.out.next (x := (X : Int)) (by omega) (by omega))
      have hm64 : cur.length ≤ 64 := Nat.le_trans hrk.out.1 (Nat.le_trans (Nat.pow_le_pow_right (by decide) (show k ≤ 3 by omega)) (by decide))
      obtain ⟨ca, cc, rfl, _, _, hcx⟩ := hnew.out.tab.shape
      have Hcx := Lib.hid hcx
      have Htab := Lib.hid hnew.out.tab
      obtain ⟨m, hm⟩ : ∃ m, m = cur.length := ⟨_, rfl⟩
      have Hm := Lib.hid hm
      rw [← hm] at hm64 Hcx Htab hnew ⊢
      have hn0 : New (OTab 3 46) wr.heap.size (wr.alloc (.cells #[] 46)) (.slice (some ⟨wr.heap.size, 0, none⟩) 0 0) [] := New.empty wr (Nat.le_refl _)
      have Hn0 := Lib.hid hn0
      have Hbr0 := Lib.hid (show Below wr.heap.size wr (wr.alloc (.cells #[] 46)) from (Below.refl _ _).alloc (Nat.le_refl _) _)
      have Hfl := Lib.hid (fun (j : Nat) => show ((cur.take j).flatMap fun l => exts l (X : Int)).length ≤ 4 * j from by
        rw [flat_len]
        have h1 : (cur.take j).length ≤ j := List.length_take_le _ _
        have h2 : (X : Int).toNat + 1 ≤ 4 := by omega
        have h3 := Nat.mul_le_mul h1 h2
        omega)
      have Hrl := Lib.hid (fun l (hl : l ∈ cur) => show l.length ≤ 4 from by have := (hrk.out.2 l hl).1; omega)
      clear hcx hm hn0 HK1 hxa hxb hrk hnew
      obtain ⟨wa, rfl⟩ : ∃ x, x = wr := ⟨_, rfl⟩
      go_wp2
      go_loopg [6, 30] m (fun g vl i wj => ∃ (j : Nat), i = .int .i64 j ∧ j + g = m ∧ Hid (New (OTab 3 46) wa.heap.size wj vl ((cur.take j).flatMap fun l => exts l (X : Int))) ∧ Hid (Below wa.heap.size wa wj))
      case atStart => exact ⟨0, rfl, by omega, Lib.hid (by simpa using Hn0.out), Hbr0⟩
      case round =>
        obtain ⟨wj, rfl⟩ : ∃ x, x = wr := ⟨_, rfl⟩
        obtain ⟨j, rfl, hj, hnj, hbj⟩ := hrel
        by_cases hlt2 : j < m
        · obtain ⟨ob, oo, rfl, hob, hox⟩ := Hcx.out (by omega)
          obtain ⟨l, hl, hld⟩ := at_lt (xs := cur) (k := j) (by have := Hm.out; omega)
          obtain ⟨ul, hul, hurl⟩ := hox j l hl
          have hulj : wj.cell? ⟨ob, oo + j, none⟩ = some ul := (hbj.out.cell (p := ⟨ob, oo + j, none⟩) hob).trans hul
          have Hlr := Lib.hid hurl
          have hl4 := Hrl.out l (List.mem_of_getElem? hl)
          have HT := Lib.hid (show (cur.take (j + 1)).flatMap (fun l => exts l (X : Int)) = (cur.take j).flatMap (fun l => exts l (X : Int)) ++ exts l (X : Int) from by rw [List.take_add_one, hl, List.flatMap_append]; simp)
          obtain ⟨la, lc, rfl, _, _, _⟩ := hurl.shape
          generalize hll : l.length = ll at *
          have Hll := Lib.hid hll
          have hfl := Hfl.out j
          have hjm : (j : Int) < (m : Int) := by omega
          clear hl hld hul hurl hox hll
          go_wp2
          go_loopg [6, 36] (X + 1) (fun g vl i wy => ∃ (y : Nat), i = .int .i64 y ∧ y + g = X + 1 ∧ Hid (New (OTab 3 46) wa.heap.size wy vl (((cur.take j).flatMap fun l => exts l (X : Int)) ++ (List.range y).map fun (z : Nat) => l ++ [(z : Int)])) ∧ Hid (Below wa.heap.size wa wy))
          case atStart => exact ⟨0, rfl, by omega, Lib.hid (by simpa using hnj.out), hbj⟩
          case round =>
            obtain ⟨wy, rfl⟩ : ∃ x, x = wr := ⟨_, rfl⟩
            obtain ⟨y, rfl, hy, hny, hby⟩ := hrel
            have hly := Lib.hid (Ints.frame _ _ _ _ Hlr.out hby.out)
            by_cases hlt3 : y < X + 1
            · have Hcl := Lib.hid (clone_c hly.out (by rw [Hll.out]; omega))
              have HTy := Lib.hid (show ((cur.take j).flatMap fun l => exts l (X : Int)) ++ (List.range (y + 1)).map (fun (z : Nat) => l ++ [(z : Int)]) = (((cur.take j).flatMap fun l => exts l (X : Int)) ++ (List.range y).map fun (z : Nat) => l ++ [(z : Int)]) ++ [l ++ [(y : Int)]] from by rw [List.range_succ, List.map_append, ← List.append_assoc]; rfl)
              have hyX : decide ((y : Int) < (X : Int) + 1) = true := decide_eq_true (by omega)
              have hle := hby.out.size
              have Hlen := Lib.hid (show (((cur.take j).flatMap fun l => exts l (X : Int)) ++ (List.range y).map fun (z : Nat) => l ++ [(z : Int)]).length ≤ 300 from by rw [List.length_append, List.length_map, List.length_range]; omega)
              go_wp2_with fail
              refine Hcl.out.mono ?_
              rintro e w2 ⟨u2, rfl, hn2, hb2⟩
              have Hn2 := Lib.hid hn2
              have Hb2 := Lib.hid hb2
              have hle2 := hb2.size
              clear hn2 hb2
              go_wp2_with (first
                | (at_builtin; refine wpl_push (w0 := w2) (lo := wy.heap.size) (y := (y : Int)) OIntR.kept rfl (.tmp 41) (.tmp 43) 46 rfl 3 (.int .i64 0) 8 Tryz.underlying46 infoI rfl Hn2.out hle2 ((Below.refl _ _).alloc (Nat.le_refl _) _) ⟨[], ⟨rfl, rfl⟩, by simp [Fresh]⟩ (bb := w2.heap.size) (c := 1) (by simp) rfl rfl (by rw [Hll.out]; omega) (by rw [Hll.out]; omega) ?_; intro v3 w3 hn3 _ _ hb3; obtain ⟨p3, n3, c3, rfl⟩ := hn3.slice; have Hn3 := Lib.hid hn3; have Hb3 := Lib.hid (Hb2.out.trans (hb3.mono (Nat.le_refl _))); clear hn3 hb3)
                | (at_builtin; refine wpl_push (w0 := wy) (lo := wa.heap.size) (OInts.kept _) rfl (.tmp 39) (.tmp 45) 24 rfl 46 (.slice none 0 0) 24 Tryz.underlying24 infoR rfl hny.out hle (Hb3.out.alloc Hb3.out.size _) (New.keep (OInts.kept _) Hn3.out ((Below.refl w3.heap.size _).alloc (Nat.le_refl _) _) (Nat.le_refl _)) (bb := w3.heap.size) (c := 1) (by simp) rfl rfl (by have := Hlen.out; omega) (by have := Hlen.out; omega) ?_; intro v5 w5 hn5 _ _ hb5; have Hn5 := Lib.hid hn5; have Hb5 := Lib.hid hb5; clear hn5 hb5)
                | fail)
              have R1 := Lib.hid (show New (OTab 3 46) wa.heap.size w5 v5 (((cur.take j).flatMap fun l => exts l (X : Int)) ++ (List.range (y + 1)).map fun (z : Nat) => l ++ [(z : Int)]) from by rw [HTy.out]; exact Hn5.out)
              have R2 := Lib.hid (hby.out.trans Hb5.out)
              clear hny hby hly
              go_roundg (X + 1 - (y + 1))
              case measure => omega
              case rel => exact ⟨y + 1, by go_num, by omega, R1, R2⟩
            · have e : y = X + 1 := by omega
              subst e
              have R1 := Lib.hid (show New (OTab 3 46) wa.heap.size wy _ ((cur.take (j + 1)).flatMap fun l => exts l (X : Int)) from by rw [HT.out]; exact hny.out)
              clear hly hny
              go_wp2
              go_roundg (m - (j + 1))
              case measure => omega
              case rel => exact ⟨j + 1, by go_num, by omega, R1, hby⟩
        · have e : j = m := by omega
          subst e
          have R1 := Lib.hid (show New (OTab 3 46) (w.heap.size + 1) wj _ (ext cur (X : Int)) from by
            have h1 := hnj.out
            rw [List.take_of_length_le (by rw [← Hm.out]; exact Nat.le_refl _)] at h1
            exact h1.mono (by omega))
          have R2 := Lib.hid (hbel.out.trans (hbj.out.mono (by omega)))
          have R3 := Lib.hid (show ∀ y, y ∈ row.take (k + 1) → 0 ≤ y ∧ y ≤ 3 from HtkN.out)
          clear hnj hbj
          go_wp2
          go_roundg (n - (k + 1))
          case measure => omega
          case rel => exact ⟨k + 1, ext cur (X : Int), by go_num, by omega, HF, HrkN, R1, R2, R3⟩
    · have e : k = n := by omega
      subst e
      have HF := Lib.hid (show V = cur.filter (keepI row) from by rw [HK.out, drop_len (by have := Hn.out; omega)]; rfl)
      obtain ⟨F, hF, hFn, hFe⟩ := hnew.out
      have hsm : Small row := ⟨by rw [← Hn.out]; exact h4, fun y hy => htk.out y (by rw [List.take_of_length_le (by have := Hn.out; omega)]; exact hy)⟩
      have Hdel := Lib.hid (DeleteFunc_c (w0 := w1) Hqb.out (by omega) (Ints.frame _ _ _ _ Hi.out Hb0.out) hsm (hbel.out.mono (by omega)) hF hFn (fun b hb => by have := hFe b hb; omega) (fun l hl => ⟨by have := (hrk.out.2 l hl).1; omega, (hrk.out.2 l hl).2⟩))
      have HFe := Lib.hid hFe
      have HB := Lib.hid (Hb0.out.trans (hbel.out.mono (by omega)))
      obtain ⟨ca, cc, rfl, _, _, _⟩ := hnew.out.tab.shape
      generalize cur.length = cn at *
      clear hF hFn hFe hsm hcell hnew hbel HK
      go_wp2_with fail
      refine Hdel.out.mono ?_
      rintro e w5 ⟨r, F', rfl, hown, hnd, hin, hoff⟩
      have HR := Lib.hid (show New (OTab 3 46) w.heap.size w5 r V from ⟨F', by rw [HF.out]; exact hown, hnd, fun b hb => by have := HFe.out b (hin b hb); omega⟩)
      have HZ := Lib.hid (HB.out.trans (hoff.below (fun b hb => by have := HFe.out b hb; omega) HB.out.size))
      clear hown hnd hin hoff
      go_wp2
      go_ret
      exact ⟨_, rfl, HR.out, HZ.out⟩
end Go.Proofs.YtlkgkfgpnnahdaaGreat
end

section
/-
  Small matrices drawn, bent; the draw of TurnMatrix.
-/
namespace Go.Proofs.YtlkgkfgpnnahdaaGreat
open Go.RowKit Go.Deep Go.Sd
set_option linter.unusedSimpArgs false
/-- What a bent matrix is. -/
def BentM (m : List (List Int)) : Prop := 0 < m.length ∧ m.length ≤ 5 ∧ ∀ r, r ∈ m → r.length ≤ 5 ∧ ∀ x, x ∈ r → -1 ≤ x ∧ x ≤ 1000001
theorem SmallD.bent {m : List (List Int)} (h : SmallD m) : BentM m := by
  obtain ⟨h1, h2, h3⟩ := isMat_sq h.1
  have hb := isMat_bd h.1
  refine ⟨by omega, by have := h.2; omega, fun r hr => ⟨by have := h1.2 r hr; have := h.2.1; omega, fun x hx => ?_⟩⟩
  have := hb r hr x hx
  omega
/-- Off the corner no number is great. -/
def Low (m : List (List Int)) : Prop := ∀ i j r x, m[i]? = some r → r[j]? = some x → (i ≠ 0 ∨ j ≠ 0) → x ≤ 9
/-- No row is empty. -/
def Full (m : List (List Int)) : Prop := ∀ r, r ∈ m → 1 ≤ r.length
def Bent9 (m : List (List Int)) : Prop := BentM m ∧ Low m ∧ Full m
theorem SmallD.full {m : List (List Int)} (h : SmallD m) : Full m := fun r hr => by
  have hs := isMat_sq h.1
  rw [hs.1.2 r hr]
  exact hs.2.1
theorem Full.set {m : List (List Int)} (h : Full m) {r : List Int} {y : Int} (hr : m[0]? = some r) : Full (m.set 0 (r.set 0 y)) := fun q hq => by
  rcases List.mem_or_eq_of_mem_set hq with h1 | h1
  · exact h q h1
  · rw [h1, List.length_set]
    exact h r (List.mem_of_getElem? hr)
theorem SmallD.low {m : List (List Int)} (h : SmallD m) : Low m := fun i j r x hr hx _ => h.2.2 r (List.mem_of_getElem? hr) x (List.mem_of_getElem? hx)
theorem Low.set {m : List (List Int)} (h : Low m) {r : List Int} {y : Int} (hr : m[0]? = some r) : Low (m.set 0 (r.set 0 y)) := by
  intro i j q x hq hx hne
  by_cases hi : i = 0
  · subst hi
    have hl : 0 < m.length := (List.getElem?_eq_some_iff.1 hr).1
    rw [List.getElem?_set_self hl] at hq
    obtain rfl := Option.some.inj hq
    have hj : j ≠ 0 := by rcases hne with h1 | h1 <;> omega
    rw [List.getElem?_set_ne (by omega)] at hx
    exact h 0 j r x hr hx (Or.inr hj)
  · rw [List.getElem?_set_ne (by omega)] at hq
    exact h i j q x hq hx hne
theorem SmallD.row {m : List (List Int)} (h : SmallD m) : ∃ r x, m[0]? = some r ∧ r[0]? = some x ∧ m.length ≤ 4 := by
  obtain ⟨h1, h2, h3⟩ := isMat_sq h.1
  have h4 : 0 < m.length := by omega
  have hr := h1.2 m[0] (List.getElem_mem h4)
  exact ⟨m[0], m[0][0]'(by omega), List.getElem?_eq_getElem h4, List.getElem?_eq_getElem (by omega), h.2.1⟩
theorem BentM.set {m : List (List Int)} (h : BentM m) {r : List Int} {y : Int} (hr : m[0]? = some r) (hy : -1 ≤ y ∧ y ≤ 1000001) : BentM (m.set 0 (r.set 0 y)) := by
  have hm := List.mem_of_getElem? hr
  refine ⟨by rw [List.length_set]; exact h.1, by rw [List.length_set]; exact h.2.1, fun q hq => ?_⟩
  rcases List.mem_or_eq_of_mem_set hq with h1 | h1
  · exact h.2.2 q h1
  · rw [h1, List.length_set]
    refine ⟨(h.2.2 r hm).1, fun x hx => ?_⟩
    rcases List.mem_or_eq_of_mem_set hx with h2 | h2
    · exact (h.2.2 r hm).2 x h2
    · rw [h2]; exact hy
set_option maxHeartbeats 2000000 in
set_option maxRecDepth 100000 in
theorem l4Bent_c {lo : Nat} {w : World} {cb : Nat} {K : Value} {xs : List Int} {rs : List Res} (hK : ∀ w', Below lo w w' → BytR w' K xs) (hc : Cur lo w cb K xs.length rs) (hlo : lo ≤ w.heap.size) :
    Calls Tryz.prog 66 #[.pointer (some ⟨cb, 0, none⟩)] w fun e w' => ∃ v : Value, e = .returned v ∧ ∃ m : List (List Int), Bent9 m ∧ Cur lo w' cb K xs.length (ResM v m :: rs) ∧ Below lo w w' := by
  have HK := Lib.hid hK
  have HD := Lib.hid (show Calls Tryz.prog 41 #[.pointer (some ⟨cb, 0, none⟩), .int .i64 4] w _ from l4Draw_c (most := 4) hK hc hlo (by omega) (by omega))
  clear hK hc
  go_enter Tryz.func66, Tryz.ntmps66
  go_wp2_with fail
  (with_reducible refine HD.out.mono ?_)
  rintro e w1 ⟨v, rfl, m, hm, hc, hb⟩
  have hz1 : lo ≤ w1.heap.size := Nat.le_trans hlo hb.size
  have HB1 := Lib.hid hb
  have HP := Lib.hid (l1Below_i (z := 16) (fun w' hb' => HK.out w' (hb.trans hb')) hc hz1 (by decide) (by decide))
  obtain ⟨ta, tc, rfl, -⟩ := (New.tab hc.out.headNew).shape
  have Hm := Lib.hid hm
  clear hm hc hb HD
  go_wp2_with fail
  (with_reducible refine HP.out.mono ?_)
  rintro e wi ⟨t, rfl, ht, hc, hb, ho⟩
  have HC := Lib.hid hc
  have HB := Lib.hid (HB1.out.trans hb)
  have hzi : lo ≤ wi.heap.size := Nat.le_trans hz1 hb.size
  have ht16 : t < 16 := ht
  clear hc hb ho HP HB1 ht hz1
  by_cases ht0 : t = 0
  · have t0 : ((t : Int) == 0) = true := by simp [ht0]
    obtain ⟨r, x, hr, hx, hm4⟩ := Hm.out.row
    obtain ⟨ci, ch, hcin, hsep⟩ := HC.out
    obtain ⟨tb, tc1, rb, rc, hv, hlt, hbt, gr, hlr, hbr, -, -, -⟩ := hsep.swap.tabSet hr hx
    simp only [Value.slice.injEq] at hv
    obtain ⟨rfl, -, rfl⟩ := hv
    have hne : tb ≠ cb ∧ rb ≠ cb := by
      obtain ⟨F, ⟨G, H, e1, hG, G2, H2, e2, hG2, h3⟩, hnd, hge⟩ := hsep
      obtain ⟨rfl, -⟩ := hG
      have hnn := List.nodup_append.1 (e1 ▸ hnd)
      have hto : OTab 3 46 wi (.slice (some ⟨tb, 0, none⟩) m.length tc) m G2 := hG2
      obtain ⟨b5, c5, u5, G5, hv5, -, hb5, -, hc5, -, hu5, hGF5, hG5n, -, -⟩ := OwnOf.focus (OInts.kept _) hto (List.nodup_append.1 (e2 ▸ hnn.2.1)).1 hr
      simp only [Value.slice.injEq, Option.some.injEq, Addr.mk.injEq] at hv5
      obtain ⟨⟨rfl, -, -⟩, -, -⟩ := hv5
      rw [gr] at hc5
      obtain ⟨b6, c6, u6, G6, hv6, -, hb6, -⟩ := OwnOf.focus OIntR.kept hu5 hG5n hx
      have e5 := Option.some.inj hc5
      rw [← e5] at hv6
      simp only [Value.slice.injEq, Option.some.injEq, Addr.mk.injEq] at hv6
      obtain ⟨⟨rfl, -, -⟩, -, -⟩ := hv6
      subst e2
      exact ⟨fun e => hnn.2.2 cb (by simp) tb (List.mem_append_left _ hb5) e.symm, fun e => hnn.2.2 cb (by simp) rb (List.mem_append_left _ (hGF5 rb hb6)) e.symm⟩
    obtain ⟨n, hn⟩ : ∃ n, n = m.length := ⟨_, rfl⟩
    obtain ⟨rl, hrl⟩ : ∃ n, n = r.length := ⟨_, rfl⟩
    have HN := Lib.hid hn
    have HR := Lib.hid hrl
    have hn1 : (0 : Int) < (n : Int) := by have := Hm.out.bent.1; omega
    have hn1n : 0 < n := by omega
    have hr1 : (0 : Int) < (rl : Int) := by have := (List.getElem?_eq_some_iff.1 hx).1; omega
    have hr1n : 0 < rl := by omega
    rw [← hn] at HC ⊢
    rw [← hrl] at gr
    have Hst := Lib.hid (fun (w2 : World) (hc2 : Cur lo w2 cb K xs.length (ResM (.slice (some ⟨tb, 0, none⟩) n tc) m :: rs)) (ho : Off [cb] wi w2) => (show (w2.frozen? ⟨rb, 0, none⟩ = false ∧ w2.cell? ⟨rb, 0, none⟩ = some (.int .i64 x)) ∧ ∀ y, Cur lo (w2.setCell ⟨rb, 0, none⟩ (.int .i64 y)) cb K xs.length (ResM (.slice (some ⟨tb, 0, none⟩) n tc) (m.set 0 (r.set 0 y)) :: rs) from by
      obtain ⟨ci2, ch2, hcin2, hsep2⟩ := hc2
      obtain ⟨tb1, tc1, rb1, rc1, hv, -, -, gr1, -, -, x1, f1, s1⟩ := hsep2.swap.tabSet hr hx
      simp only [Value.slice.injEq, Option.some.injEq, Addr.mk.injEq] at hv
      obtain ⟨⟨rfl, -, -⟩, -, -⟩ := hv
      have e7 : w2.cell? ⟨tb, 0, none⟩ = wi.cell? ⟨tb, 0, none⟩ := World.cell?_of_block (ho.block tb hbt (by simp; exact hne.1))
      rw [e7, gr] at gr1
      have e8 := Option.some.inj gr1
      simp only [Value.slice.injEq, Option.some.injEq, Addr.mk.injEq] at e8
      obtain ⟨⟨rfl, -, -⟩, -, -⟩ := e8
      exact ⟨⟨f1, x1⟩, fun y => ⟨ci2, ch2, hcin2, (s1 y).swap⟩⟩))
    have Hin := Lib.hid (fun y (hy : -1 ≤ y ∧ y ≤ 1000001) => (show Bent9 _ from ⟨Hm.out.bent.set hr hy, Hm.out.low.set hr, Hm.out.full.set hr⟩))
    obtain ⟨w1a, e1a⟩ : ∃ x, x = (wi.alloc (.cells #[.int .i64 (-1), .int .i64 1000000, .int .i64 1000001, .int .i64 9] 3)).drew := ⟨_, rfl⟩
    have hb1a : Below wi.heap.size wi w1a := by rw [e1a]; exact ((Below.refl _ _).alloc (Nat.le_refl _) _).drew
    have HC1a := Lib.hid (show Cur lo w1a cb K xs.length (Res.box wi.heap.size (([-1, 1000000, 1000001, 9] : List Int).map (Value.int .i64)) :: ResM (.slice (some ⟨tb, 0, none⟩) n tc) m :: rs) from by rw [e1a]; exact (HC.out.box hzi (([-1, 1000000, 1000001, 9] : List Int).map (Value.int .i64)) 3).below (Below.refl _ _).drew)
    have HB1a := Lib.hid (HB.out.trans (hb1a.mono hzi))
    have HO1a := Lib.hid (Off.of_below (F := [cb]) hb1a)
    have hz1a : lo ≤ w1a.heap.size := Nat.le_trans hzi hb1a.size
    have HPk := Lib.hid (show Calls Tryz.prog 73 #[.pointer (some ⟨cb, 0, none⟩), .slice (some ⟨wi.heap.size, 0, none⟩) 4 4] w1a _ from l1PickInt_c (ls := [-1, 1000000, 1000001, 9]) (c := 4) (fun w' hb => HK.out w' (HB1a.out.trans hb)) HC1a.out hz1a (by decide) (by decide))
    have HSc := Lib.hid (fun (w2 : World) (ho : Off [cb] wi w2) => (show w2.cell? ⟨tb, 0, none⟩ = some (.slice (some ⟨rb, 0, none⟩) rl rc) from (World.cell?_of_block (ho.block tb hbt (by simp; exact hne.1))).trans gr))
    have hSd : wi.drew.cell? ⟨tb, 0, none⟩ = some (.slice (some ⟨rb, 0, none⟩) rl rc) := gr
    have hS1 : w1a.cell? ⟨tb, 0, none⟩ = some (.slice (some ⟨rb, 0, none⟩) rl rc) := HSc.out _ HO1a.out
    have e1s := e1a.symm
    clear e1a hr hx hsep hne hb1a HC gr HC1a hn hrl ht0
    go_wp2
    refine wp_region_L (fun w' => w'.cell? ⟨tb, 0, none⟩ = some (.slice (some ⟨rb, 0, none⟩) rl rc)) (by kernel_rfl) ?_
    refine wpAnyL_take 0 (v := ?_) rfl (by kernel_rfl) (by kernel_rfl) (by kernel_rfl) (by kernel_rfl) (fun _ _ _ h => h) (Or.inl ⟨by rfl, ?_⟩) hSd ?_
    rotate_left
    · (intro w hSw; (try dsimp only at hSw); go_simp) <;> (try with_reducible rfl)
    try simp only [Act.put, List.getElem_toArray, List.getElem_cons_zero, List.getElem_cons_succ, List.setIfInBounds_toArray, List.set_cons_zero, List.set_cons_succ]
    refine wpAnyL_take 1 (v := ?_) rfl (by kernel_rfl) (by kernel_rfl) (by kernel_rfl) (by kernel_rfl) (fun _ _ _ h => h) (Or.inl ⟨by rfl, ?_⟩) hSd ?_
    rotate_left
    · (intro w hSw; (try dsimp only at hSw); go_simp) <;> (try with_reducible rfl)
    try simp only [Act.put, List.getElem_toArray, List.getElem_cons_zero, List.getElem_cons_succ, List.setIfInBounds_toArray, List.set_cons_zero, List.set_cons_succ]
    refine wpAnyL_take 2 (v := ?_) rfl (by kernel_rfl) (by kernel_rfl) (by kernel_rfl) (by kernel_rfl) (fun _ _ _ h => h) (Or.inl ⟨by rfl, ?_⟩) hSd ?_
    rotate_left
    · (intro w hSw; (try dsimp only at hSw); go_simp) <;> (try with_reducible rfl)
    try simp only [Act.put, List.getElem_toArray, List.getElem_cons_zero, List.getElem_cons_succ, List.setIfInBounds_toArray, List.set_cons_zero, List.set_cons_succ]
    refine wpAnyL_take 3 (v := ?_) rfl (by kernel_rfl) (by kernel_rfl) (by kernel_rfl) (by kernel_rfl) (fun _ _ _ h => h) (Or.inl ⟨by rfl, ?_⟩) hSd ?_
    rotate_left
    · (intro w hSw; (try dsimp only at hSw); go_simp) <;> (try with_reducible rfl)
    try simp only [Act.put, List.getElem_toArray, List.getElem_cons_zero, List.getElem_cons_succ, List.setIfInBounds_toArray, List.set_cons_zero, List.set_cons_succ]
    refine wpAnyL_one 4 (by kernel_rfl) rfl (fun K hK => ?_)
    go_simp
    refine hK.out _ _ (fun _ => hS1) ?_
    clear hK K
    try simp only [Act.put, List.getElem_toArray, List.getElem_cons_zero, List.getElem_cons_succ, List.setIfInBounds_toArray, List.set_cons_zero, List.set_cons_succ]
    refine wpAnyL_one 5 (by kernel_rfl) rfl (fun K hK => ?_)
    go_simp
    (with_reducible refine HPk.out.mono ?_)
    rintro e w3 ⟨y, rfl, hy3, hc, hb, ho⟩
    have hy : -1 ≤ y ∧ y ≤ 1000001 := by simp at hy3; omega
    have HCp := Lib.hid hc.rest
    have HBp := Lib.hid (HB1a.out.trans hb)
    have HOp := Lib.hid (HO1a.out.trans ho)
    have hS3 : w3.cell? ⟨tb, 0, none⟩ = some (.slice (some ⟨rb, 0, none⟩) rl rc) := HSc.out _ HOp.out
    have hf3 := (Hst.out w3 HCp.out HOp.out).1.1
    have hx3 := (Hst.out w3 HCp.out HOp.out).1.2
    clear hc hb ho hy3
    go_wp2_with fail
    refine hK.out _ _ (fun _ => hS3) ?_
    clear hK K
    try simp only [Act.put, List.getElem_toArray, List.getElem_cons_zero, List.getElem_cons_succ, List.setIfInBounds_toArray, List.set_cons_zero, List.set_cons_succ]
    refine wpAnyL_take 6 (v := ?_) rfl (by kernel_rfl) (by kernel_rfl) (by kernel_rfl) (by kernel_rfl) (fun _ _ _ h => h) (Or.inl ⟨by rfl, ?_⟩) hS3 ?_
    rotate_left
    · (intro w hSw; (try dsimp only at hSw); go_simp) <;> (try with_reducible rfl)
    try simp only [Act.put, List.getElem_toArray, List.getElem_cons_zero, List.getElem_cons_succ, List.setIfInBounds_toArray, List.set_cons_zero, List.set_cons_succ]
    refine wpAnyL_one 7 (by kernel_rfl) rfl (fun K hK => ?_)
    go_simp
    refine hK.out _ _ (fun h => absurd h (not_rem (by kernel_rfl))) ?_
    clear hK K
    try simp only [Act.put, List.getElem_toArray, List.getElem_cons_zero, List.getElem_cons_succ, List.setIfInBounds_toArray, List.set_cons_zero, List.set_cons_succ]
    refine wpAnyL_done (by kernel_rfl) ?_ _
    go_wp2
    go_ret
    exact ⟨_, rfl, _, Hin.out y hy, (Hst.out w3 HCp.out HOp.out).2 y, HBp.out.setCell (p := ⟨rb, 0, none⟩) hlr _⟩
  have t0 : ((t : Int) == 0) = false := by simp; omega
  by_cases ht1 : t = 1
  · have t1 : ((t : Int) == 1) = true := by simp [ht1]
    obtain ⟨ci, ch, hcin, hsep⟩ := HC.out
    have hl4 := Hm.out.2.1
    obtain ⟨w2, e2⟩ : ∃ x, x = wi.alloc (.cells #[.int .i64 1] 3) := ⟨_, rfl⟩
    have hb2 : Below wi.heap.size wi w2 := by rw [e2]; exact (Below.refl _ _).alloc (Nat.le_refl _) _
    have hn2 : New (OInts 3) wi.heap.size w2 (.slice (some ⟨wi.heap.size, 0, none⟩) 1 1) [1] := by rw [e2]; exact New.one OIntR.kept (u := .int .i64 1) (x := 1) ⟨[], ⟨rfl, rfl⟩, by simp [Fresh]⟩ (Nat.le_refl _)
    have hz2 : w2.heap.size = wi.heap.size + 1 := by rw [e2]; simp
    obtain ⟨v4, w4, hr4, hs4, hb4⟩ := hsep.swap.push (P := Tryz.prog) (OInts.kept 3) 24 24 (.slice none 0 0) 24 Tryz.underlying24 infoR rfl hzi (w1 := w2.alloc (.cells #[.slice (some ⟨wi.heap.size, 0, none⟩) 1 1] 46)) (hb2.alloc hb2.size _) (New.keep (OInts.kept _) hn2 ((Below.refl w2.heap.size _).alloc (Nat.le_refl _) _) (Nat.le_refl _)) (bb := w2.heap.size) (c := 1) (World.cell?_alloc_at _ _ _ 0 rfl) (by omega) (by omega)
    rw [hz2] at hr4
    have Hr4 := Lib.hid (show (Builtin.append_ #[24, 24] 24 #[.slice ta m.length tc, .slice (some ⟨wi.heap.size + 1, 0, none⟩) 1 1]).run Tryz.prog ((wi.alloc (.cells #[.int .i64 1] 3)).alloc (.cells #[.slice (some ⟨wi.heap.size, 0, none⟩) 1 1] 46)) = .ok v4 w4 from by rw [← e2]; exact hr4)
    have HC4 := Lib.hid (show Cur lo w4 cb K xs.length (ResM v4 (m ++ [[1]]) :: rs) from ⟨ci, ch, hcin, hs4.swap⟩)
    have HB4 := Lib.hid (HB.out.trans hb4)
    have Hbt := Lib.hid (show Bent9 (m ++ [[1]]) from by
      refine ⟨?_, fun i j r x hr hx _ => ?_, fun r hr => ?_⟩
      rotate_left
      · rcases List.mem_append.1 (List.mem_of_getElem? hr) with h1 | h1
        · exact Hm.out.2.2 r h1 x (List.mem_of_getElem? hx)
        · simp at h1
          subst h1
          have := List.mem_of_getElem? hx
          simp at this
          omega
      · rcases List.mem_append.1 hr with h1 | h1
        · exact Hm.out.full r h1
        · simp at h1
          subst h1
          decide
      have h := Hm.out.bent
      refine ⟨by simp, by simp; omega, fun r hr => ?_⟩
      rcases List.mem_append.1 hr with hr | hr
      · exact h.2.2 r hr
      · simp at hr
        subst hr
        exact ⟨by decide, fun x hx => by simp at hx; omega⟩)
    generalize m.length = ml at *
    clear hsep e2 hb2 hn2 hz2 hr4 hs4 hb4 HC HB ht1 hl4
    go_wp2_with (at_builtin; refine wpl_append_run rfl (.tmp 19) (.tmp 21) 24 rfl rfl rfl Hr4.out ?_)
    go_ret
    exact ⟨_, rfl, _, Hbt.out, HC4.out, HB4.out⟩
  · have t1 : ((t : Int) == 1) = false := by simp; omega
    go_wp2
    go_ret
    exact ⟨_, rfl, _, ⟨Hm.out.bent, Hm.out.low, Hm.out.full⟩, HC.out, HB.out⟩
end Go.Proofs.YtlkgkfgpnnahdaaGreat
end

section
/-
  SplitOut, the program's.
-/
namespace Go.Proofs.YtlkgkfgpnnahdaaGreat
open Go.RowKit Go.Deep Go.Sd

def partF (m : List (List Int)) (I : Nat) (P : List Int) (l : Nat) : Bool := decide (0 ≤ P.getD l 0 ∧ P.getD l 0 ≤ ent m I l)
def splitOk (m : List (List Int)) (i : Int) (P : List Int) : Bool :=
  isMat m && decide (m.length ≤ 8 ∧ 0 ≤ i ∧ i < m.length ∧ P.length = m.length) && allF (partF m i.toNat P) m.length 0
def splitV (m : List (List Int)) (i : Int) (P : List Int) : List (List Int) := if splitOk m i P = true then splitT m i.toNat P m.length else []

theorem allF_all {h : Nat → Bool} : ∀ {g k : Nat}, allF h g k = true → ∀ l, k ≤ l → l < k + g → h l = true
  | 0, k, _, l, h1, h2 => by omega
  | g + 1, k, H, l, h1, h2 => by
    unfold allF at H
    by_cases hk : h k = true
    · rw [if_pos hk] at H
      by_cases e : l = k
      · rw [e]; exact hk
      · exact allF_all H l (by omega) (by omega)
    · rw [if_neg hk] at H; cases H

theorem partOk_of {m : List (List Int)} {I n : Nat} {P : List Int} (hm : isMat m = true) (hn : m.length = n) (hI : I < n) (h : allF (partF m I P) n 0 = true) : partOk m I P n := by
  intro l hl
  have h1 := allF_all h l (Nat.zero_le _) (by omega)
  unfold partF at h1
  simp only [decide_eq_true_eq] at h1
  subst hn
  obtain ⟨r, hr, hx⟩ := ent_mem (isMat_sq hm).1.2 hI hl
  have h2 := isMat_bd hm r hr _ hx
  omega

theorem partF_t {m : List (List Int)} {I k : Nat} {P : List Int} (hx : 0 ≤ P.getD k 0) (hy : P.getD k 0 ≤ ent m I k) : partF m I P k = true := decide_eq_true ⟨hx, hy⟩
theorem partF_f {m : List (List Int)} {I k : Nat} {P : List Int} (h : ¬ (0 ≤ P.getD k 0 ∧ P.getD k 0 ≤ ent m I k)) : partF m I P k = false := decide_eq_false h

theorem splitT_sq (m : List (List Int)) (I : Nat) (P : List Int) (n : Nat) : Sq (n + 1) (splitT m I P n) := ⟨splitT_len m I P n, fun r hr => by
  unfold splitT at hr
  obtain ⟨k, _, rfl⟩ := List.mem_map.1 hr
  rw [List.length_append, rowOf_len]
  rfl⟩
theorem splitOk_sq {m : List (List Int)} {i : Int} {P : List Int} (h : splitOk m i P = true) : ∃ n, Sq n (splitV m i P) ∧ 0 < n ∧ n ≤ 9 := by
  refine ⟨m.length + 1, by unfold splitV; rw [if_pos h]; exact splitT_sq _ _ _ _, by omega, ?_⟩
  unfold splitOk at h
  simp only [Bool.and_eq_true, decide_eq_true_eq] at h
  omega
theorem splitV_bd (m : List (List Int)) (i : Int) (P : List Int) : (splitV m i P).length ≤ 9 ∧ ∀ x, x ∈ splitV m i P → x.length ≤ 9 := by
  by_cases h : splitOk m i P = true
  · obtain ⟨n, hs, _, h9⟩ := splitOk_sq h
    exact ⟨by rw [hs.1]; exact h9, fun x hx => by rw [hs.2 x hx]; exact h9⟩
  · unfold splitV
    rw [if_neg h]
    exact ⟨by simp, fun x hx => by cases hx⟩

set_option maxHeartbeats 2000000 in
set_option maxRecDepth 100000 in
theorem impl_SplitOut_c {w : World} {va vp : Value} {m : List (List Int)} {P : List Int} {i : Int} (h1 : Tab w va m) (h2 : Ints w vp P) :
    Calls Tryz.prog 47 #[va, .int .i64 i, vp] w (Makes2 (OTab 3 46) w (splitV m i P) (splitOk m i P)) := by
  have hsa := h1.shape
  obtain ⟨aa, ac, rfl, _, _, _⟩ := hsa
  have hsp := h2.shape
  obtain ⟨pa, pc, rfl, _, _, _⟩ := hsp
  have Hc := Lib.hid (impl_IsMatrix_c h1)
  have Hno := Lib.hid (fun (h : splitOk m i P = false) => show splitV m i P = [] from by unfold splitV; rw [h]; rfl)
  have hpl := h2.len
  cases hm : isMat m with
  | false =>
    have HK := Lib.hid (show splitOk m i P = false from by unfold splitOk; rw [hm]; rfl)
    rw [hm] at Hc
    rw [HK.out]
    clear h1 h2 hm
    go_enter Tryz.func47, Tryz.ntmps47
    go_wp2_with fail
    refine Hc.out.mono ?_
    rintro e w' ⟨rfl, rfl⟩
    go_wp2
    go_ret2
    exact ⟨_, rfl, by rw [Hno.out HK.out]; exact New.nil _ _, Below.refl _ _⟩
  | true =>
    rw [hm] at Hc
    have sm := isMat_sq hm
    by_cases hij : m.length ≤ 8 ∧ 0 ≤ i ∧ i < m.length ∧ P.length = m.length
    · obtain ⟨I, rfl⟩ : ∃ I : Nat, i = (I : Int) := ⟨i.toNat, by omega⟩
      have HO := Lib.hid (show splitOk m I P = allF (partF m I P) m.length 0 from by unfold splitOk; rw [hm]; simp [hij])
      have HV := Lib.hid (show splitV m I P = if splitOk m I P = true then splitT m I P m.length else [] from rfl)
      generalize splitOk m I P = ok at HO HV Hno ⊢
      generalize splitV m I P = rv at HV Hno ⊢
      have Hpo := Lib.hid (fun (h : allF (partF m I P) m.length 0 = true) => partOk_of hm rfl (show I < m.length by omega) h)
      clear hm
      generalize hn : m.length = n at *
      have hIn : I < n := by omega
      have hn0 : 0 < n := by omega
      have hn8 : n ≤ 8 := hij.1
      have hp : P.length = n := hij.2.2.2
      have t9 : ((n : Int) == 9) = false := by simp; omega
      have tI : decide ((I : Int) < 0) = false := by simp
      have tn : decide (n ≤ I) = false := by simp; omega
      have tp : ((P.length : Int) != (n : Int)) = false := by simp [hp]
      have Hsp := Lib.hid (fun (h : partOk m I P n) => split_c h1 h2 sm.1 hp hIn hn8 h)
      obtain ⟨ab, ao, ac', hv1, hab, hae⟩ := h1.entAt hn sm.1.2 hn0
      obtain ⟨rfl, rfl⟩ : aa = some ⟨ab, ao, none⟩ ∧ ac = ac' := by simp at hv1; exact hv1
      obtain ⟨pb, po, pc', hv2, hpb, hpe⟩ := ints_at h2 hp hn0
      rw [hp] at hv2
      obtain ⟨rfl, rfl⟩ : pa = some ⟨pb, po, none⟩ ∧ pc = pc' := by simp at hv2; exact hv2
      obtain ⟨rb, ro, rc, hA1, hrb, _, hA2⟩ := hae.at hIn hn0
      have hi1 : (I : Int) < (n : Int) := by omega
      rw [hp] at hpl Hsp tp ⊢
      clear h1 h2 sm hij hv1 hv2 hn hae
      go_enter Tryz.func47, Tryz.ntmps47
      go_wp2_with fail
      refine Hc.out.mono ?_
      rintro e w' ⟨rfl, rfl⟩
      go_wp2
      go_loopg [37] n (fun g ii wr => ∃ (k : Nat), ii = .int .i64 k ∧ k + g = n ∧ Hid (allF (partF m I P) n 0 = allF (partF m I P) g k) ∧ w = wr)
      case atStart => exact ⟨0, rfl, by omega, Lib.hid rfl, rfl⟩
      case round =>
        obtain ⟨k, rfl, hk, H, rfl⟩ := hrel
        obtain ⟨g, hg⟩ : ∃ g, g = gk := ⟨_, rfl⟩
        rw [← hg] at H hk
        by_cases hlt : k < n
        · obtain ⟨g', rfl⟩ : ∃ t, g = t + 1 := ⟨g - 1, by omega⟩
          have H1 := Lib.hid (show allF (partF m I P) n 0 = if partF m I P k = true then allF (partF m I P) g' (k + 1) else false from H.out)
          have hP3 := hpe k hlt
          have hA3 := hA2 k hlt
          have hk1 : (k : Int) < (n : Int) := by omega
          clear H hpe hA2
          by_cases hx : 0 ≤ P.getD k 0
          · by_cases hy : P.getD k 0 ≤ ent m I k
            · have H2 := Lib.hid (show allF (partF m I P) n 0 = allF (partF m I P) g' (k + 1) from by rw [H1.out, partF_t hx hy, if_pos rfl])
              clear H1
              generalize P.getD k 0 = X at *
              generalize ent m I k = Y at *
              go_wp2
              go_roundg g'
              case measure => omega
              case rel => exact ⟨k + 1, by go_num, by omega, H2, rfl⟩
            · have H2 := Lib.hid (show ok = false from by rw [HO.out, H1.out, partF_f (fun h => hy h.2)]; rfl)
              clear H1
              have hy' : ent m I k < P.getD k 0 := by omega
              generalize P.getD k 0 = X at *
              generalize ent m I k = Y at *
              go_wp2
              go_ret2
              exact ⟨_, by rw [H2.out]; rfl, by rw [Hno.out H2.out]; exact New.nil _ _, Below.refl _ _⟩
          · have H2 := Lib.hid (show ok = false from by rw [HO.out, H1.out, partF_f (fun h => hx h.1)]; rfl)
            clear H1
            have hx' : P.getD k 0 < 0 := by omega
            generalize P.getD k 0 = X at *
            go_wp2
            go_ret2
            exact ⟨_, by rw [H2.out]; rfl, by rw [Hno.out H2.out]; exact New.nil _ _, Below.refl _ _⟩
        · have e : g = 0 := by omega
          subst e
          have HC := Lib.hid (show allF (partF m I P) n 0 = true from H.out)
          have HK := Lib.hid (show ok = true from by rw [HO.out, HC.out])
          have HV2 := Lib.hid (show rv = splitT m I P n from by rw [HV.out, HK.out]; rfl)
          have Hs := Lib.hid (Hsp.out (Hpo.out HC.out))
          clear H hpe hA2
          go_wp2_with fail
          refine Hs.out.mono ?_
          rintro e w1 ⟨v1, rfl, hn1, hb1⟩
          go_wp2
          go_ret2
          exact ⟨_, by rw [HK.out]; rfl, by rw [HV2.out]; exact hn1, hb1⟩
    · have HK := Lib.hid (show splitOk m i P = false from by unfold splitOk; simp [hij])
      rw [HK.out]
      have hm9 := sm.2.2
      clear h1 h2 hm sm
      generalize m.length = n at *
      generalize P.length = p at *
      by_cases h9 : n = 9
      · clear hij
        subst h9
        go_enter Tryz.func47, Tryz.ntmps47
        go_wp2_with fail
        refine Hc.out.mono ?_
        rintro e w' ⟨rfl, rfl⟩
        go_wp2
        go_ret2
        exact ⟨_, rfl, by rw [Hno.out HK.out]; exact New.nil _ _, Below.refl _ _⟩
      have t9 : ((n : Int) == 9) = false := by simp; omega
      by_cases h0 : i < 0
      · clear hij
        go_enter Tryz.func47, Tryz.ntmps47
        go_wp2_with fail
        refine Hc.out.mono ?_
        rintro e w' ⟨rfl, rfl⟩
        go_wp2
        go_ret2
        exact ⟨_, rfl, by rw [Hno.out HK.out]; exact New.nil _ _, Below.refl _ _⟩
      by_cases h1 : (n : Int) ≤ i
      · clear hij
        go_enter Tryz.func47, Tryz.ntmps47
        go_wp2_with fail
        refine Hc.out.mono ?_
        rintro e w' ⟨rfl, rfl⟩
        go_wp2
        go_ret2
        exact ⟨_, rfl, by rw [Hno.out HK.out]; exact New.nil _ _, Below.refl _ _⟩
      have tp : ((p : Int) != (n : Int)) = true := by simp; omega
      clear hij
      go_enter Tryz.func47, Tryz.ntmps47
      go_wp2_with fail
      refine Hc.out.mono ?_
      rintro e w' ⟨rfl, rfl⟩
      go_wp2
      go_ret2
      exact ⟨_, rfl, by rw [Hno.out HK.out]; exact New.nil _ _, Below.refl _ _⟩
end Go.Proofs.YtlkgkfgpnnahdaaGreat
end

section
/-
  SplitOut, the reference's.
-/
namespace Go.Proofs.YtlkgkfgpnnahdaaGreat
open Go.RowKit Go.Deep Go.Sd

/-- The first k rows bear their last number already. -/
def splitF (m : List (List Int)) (I : Nat) (P : List Int) (n k : Nat) : List (List Int) := (List.range (n + 1)).map fun i => if i < k then rowOf' n (splitR m I P n i) ++ [splitR m I P n i I] else rowOf' n (splitR m I P n i)
theorem splitF_len (m : List (List Int)) (I : Nat) (P : List Int) (n k : Nat) : (splitF m I P n k).length = n + 1 := by simp [splitF]
theorem splitF_at {m : List (List Int)} {I : Nat} {P : List Int} {n k : Nat} (hk : k < n + 1) : (splitF m I P n k)[k]? = some (rowOf' n (splitR m I P n k)) := by simp [splitF, hk]
theorem splitF_full (m : List (List Int)) (I : Nat) (P : List Int) (n : Nat) : splitF m I P n (n + 1) = splitT m I P n := by
  unfold splitF splitT
  refine List.map_congr_left fun i hi => ?_
  rw [if_pos (List.mem_range.1 hi)]
theorem splitF_set {m : List (List Int)} {I : Nat} {P : List Int} {n k : Nat} : (splitF m I P n k).set k (rowOf' n (splitR m I P n k) ++ [splitR m I P n k I]) = splitF m I P n (k + 1) := by
  apply List.ext_getElem?
  intro j
  by_cases hj : j < n + 1
  · by_cases e : j = k
    · subst e
      rw [List.getElem?_set_self (by rw [splitF_len]; exact hj)]
      simp [splitF, hj]
    · rw [List.getElem?_set_ne (by omega)]
      simp only [splitF, List.getElem?_map, List.getElem?_range hj, Option.map_some]
      by_cases h : j < k
      · rw [if_pos h, if_pos (by omega)]
      · rw [if_neg h, if_neg (by omega)]
  · rw [List.getElem?_eq_none (by rw [List.length_set, splitF_len]; omega), List.getElem?_eq_none (by rw [splitF_len]; omega)]
theorem splitF_start {m : List (List Int)} {I : Nat} {P : List Int} {n : Nat} (hm : Sq n m) (hI : I < n) (hp : P.length = n) :
    m.set I P ++ [rowOf' n (splitR m I P n n)] = splitF m I P n 0 := by
  apply List.ext_getElem?
  intro j
  have hl : (m.set I P).length = n := by rw [List.length_set, hm.1]
  by_cases hj : j < n
  · rw [List.getElem?_append_left (by omega)]
    rw [show (splitF m I P n 0)[j]? = some (rowOf' n (splitR m I P n j)) from by simp [splitF, show j < n + 1 by omega]]
    by_cases e : j = I
    · subst e
      rw [List.getElem?_set_self (by rw [hm.1]; exact hj), splitR_part m P hj, ← row_full hp]
    · rw [List.getElem?_set_ne (by omega), (hm.row hj).1, splitR_row m P hj e]
      exact congrArg some (row_full (hm.row hj).2)
  · by_cases e : j = n
    · subst e
      rw [List.getElem?_append_right (by omega), hl]
      simp [splitF]
    · rw [List.getElem?_eq_none (by rw [List.length_append, hl]; simp; omega), List.getElem?_eq_none (by rw [splitF_len]; omega)]
set_option maxHeartbeats 2000000 in
set_option maxRecDepth 100000 in
theorem spec_SplitOut_c {w : World} {va vp : Value} {m : List (List Int)} {P : List Int} {i : Int} (h1 : Tab w va m) (h2 : Ints w vp P) :
    Calls Tryz.prog 29 #[va, .int .i64 i, vp] w (Makes2 (OTab 3 46) w (splitV m i P) (splitOk m i P)) := by
  have hsa := h1.shape
  obtain ⟨aa, ac, rfl, _, _, _⟩ := hsa
  have hsp := h2.shape
  obtain ⟨pa, pc, rfl, _, _, _⟩ := hsp
  have Hc := Lib.hid (spec_IsMatrix_c h1)
  have Hno := Lib.hid (fun (h : splitOk m i P = false) => show splitV m i P = [] from by unfold splitV; rw [h]; rfl)
  have hpl := h2.len
  cases hm : isMat m with
  | false =>
    have HK := Lib.hid (show splitOk m i P = false from by unfold splitOk; rw [hm]; rfl)
    rw [hm] at Hc
    rw [HK.out]
    clear h1 h2 hm
    go_enter Tryz.func29, Tryz.ntmps29
    go_wp2_with fail
    refine Hc.out.mono ?_
    rintro e w' ⟨rfl, rfl⟩
    go_wp2
    go_ret2
    exact ⟨_, rfl, by rw [Hno.out HK.out]; exact New.empty w (Nat.le_refl _), (Below.refl _ _).alloc (Nat.le_refl _) _⟩
  | true =>
    rw [hm] at Hc
    have sm := isMat_sq hm
    by_cases hij : m.length ≤ 8 ∧ 0 ≤ i ∧ i < m.length ∧ P.length = m.length
    · obtain ⟨I, rfl⟩ : ∃ I : Nat, i = (I : Int) := ⟨i.toNat, by omega⟩
      have HO := Lib.hid (show splitOk m I P = allF (partF m I P) m.length 0 from by unfold splitOk; rw [hm]; simp [hij])
      have HV := Lib.hid (show splitV m I P = if splitOk m I P = true then splitT m I P m.length else [] from rfl)
      generalize splitOk m I P = ok at HO HV Hno ⊢
      generalize splitV m I P = rv at HV Hno ⊢
      have Hpo := Lib.hid (fun (h : allF (partF m I P) m.length 0 = true) => partOk_of hm rfl (show I < m.length by omega) h)
      clear hm
      generalize hn : m.length = n at *
      have hIn : I < n := by omega
      have hn0 : 0 < n := by omega
      have hn8 : n ≤ 8 := hij.1
      have hp : P.length = n := hij.2.2.2
      have t9 : ((n : Int) == 9) = false := by simp; omega
      have tp : ((P.length : Int) != (n : Int)) = false := by simp [hp]
      have Hcp := Lib.hid (fun w1 (hb : Below w.heap.size w w1) => l4Copy_c (Tab.frame _ _ _ _ h1 hb) (by omega) (fun r hr => by rw [sm.1.2 r hr]; omega))
      have Hsq := Lib.hid sm.1
      have H2 := Lib.hid h2
      have Hp := Lib.hid hp
      have Hin := Lib.hid (l1In_yes (a := (I : Int)) (b := 0) (c := (n : Int) - 1) w (by omega) (by omega))
      obtain ⟨ab, ao, ac', hv1, hab, hae⟩ := h1.entAt hn sm.1.2 hn0
      obtain ⟨rfl, rfl⟩ : aa = some ⟨ab, ao, none⟩ ∧ ac = ac' := by simp at hv1; exact hv1
      obtain ⟨pb, po, pc', hv2, hpb, hpe⟩ := ints_at h2 hp hn0
      rw [hp] at hv2
      obtain ⟨rfl, rfl⟩ : pa = some ⟨pb, po, none⟩ ∧ pc = pc' := by simp at hv2; exact hv2
      obtain ⟨rb, ro, rc, hA1, hrb, _, hA2⟩ := hae.at hIn hn0
      have hi1 : (I : Int) < (n : Int) := by omega
      rw [hp] at hpl tp H2 ⊢
      clear h1 h2 sm hij hv1 hv2 hn hae hp
      go_enter Tryz.func29, Tryz.ntmps29
      go_wp2_with fail
      refine Hc.out.mono ?_
      rintro e w' ⟨rfl, rfl⟩
      go_wp2_with (go_at_call 58; refine Hin.out.mono ?_; rintro e w' ⟨rfl, rfl⟩)
      go_loopg [8] n (fun g ii wr => ∃ (k : Nat), ii = .int .i64 k ∧ k + g = n ∧ Hid (allF (partF m I P) n 0 = allF (partF m I P) g k) ∧ Drawn w wr)
      case atStart => exact ⟨0, rfl, by omega, Lib.hid rfl, Drawn.refl _⟩
      case round =>
        obtain ⟨k, rfl, hk, H, hdr⟩ := hrel
        obtain ⟨g, hg⟩ : ∃ g, g = gk := ⟨_, rfl⟩
        rw [← hg] at H hk
        by_cases hlt : k < n
        · obtain ⟨g', rfl⟩ : ∃ t, g = t + 1 := ⟨g - 1, by omega⟩
          have H1 := Lib.hid (show allF (partF m I P) n 0 = if partF m I P k = true then allF (partF m I P) g' (k + 1) else false from H.out)
          have hP3 := hpe k hlt
          have hA3 := hA2 k hlt
          have hk1 : (k : Int) < (n : Int) := by omega
          have hrule := hdr.cell
          clear H hpe hA2
          by_cases hx : 0 ≤ P.getD k 0 ∧ P.getD k 0 ≤ ent m I k
          · have H3 := Lib.hid (show allF (partF m I P) n 0 = allF (partF m I P) g' (k + 1) from by rw [H1.out, partF_t hx.1 hx.2, if_pos rfl])
            have Hl := Lib.hid (fun q => (l1In_yes (wr.drewN q) hx.1 hx.2).mono (fun e w'' h => (⟨h.1, q, h.2.symm⟩ : e = .returned (.bool true) ∧ ∃ q', w'' = wr.drewN q')))
            clear H1 hx
            generalize P.getD k 0 = X at *
            generalize ent m I k = Y at *
            go_wp2
            go_quiet ((go_at_call 58; exact Hl.out _))
            go_wp2
            go_roundg g'
            case measure => omega
            case rel => exact ⟨k + 1, by go_num, by omega, H3, hdr.drewN _⟩
          · have H3 := Lib.hid (show ok = false from by rw [HO.out, H1.out, partF_f hx]; rfl)
            have Hl := Lib.hid (fun q => (l1In_no (a := P.getD k 0) (b := 0) (c := ent m I k) (wr.drewN q) (by omega)).mono (fun e w'' h => (⟨h.1, q, h.2.symm⟩ : e = .returned (.bool false) ∧ ∃ q', w'' = wr.drewN q')))
            clear H1 hx
            generalize P.getD k 0 = X at *
            generalize ent m I k = Y at *
            have hz := hdr.heap
            have Hbb := Lib.hid (fun q => (hdr.drewN q).below w.heap.size)
            have hzs : w.heap.size ≤ wr.heap.size := by rw [hz]; exact Nat.le_refl _
            clear hz
            go_wp2
            go_quiet ((go_at_call 58; exact Hl.out _))
            go_wp2
            go_ret2
            exact ⟨_, by rw [H3.out]; rfl, by rw [Hno.out H3.out]; exact New.empty _ hzs, (Hbb.out _).alloc hzs _⟩
        · have e : g = 0 := by omega
          subst e
          have HC := Lib.hid (show allF (partF m I P) n 0 = true from H.out)
          have HK := Lib.hid (show ok = true from by rw [HO.out, HC.out])
          have HV2 := Lib.hid (show rv = splitT m I P n from by rw [HV.out, HK.out]; rfl)
          have Hok := Lib.hid (Hpo.out HC.out)
          have e2 : n = k := by omega
          subst e2
          clear hk H hg
          have hb0 := hdr.below w.heap.size
          have hz0 : w.heap.size = wr.heap.size := by rw [hdr.heap]
          obtain ⟨w1, rfl⟩ : ∃ w1 : World, w1 = wr := ⟨_, rfl⟩
          have Hcw := Lib.hid (Hcp.out _ hb0)
          have Hb0 := Lib.hid hb0
          have Hp' := Lib.hid (fun l (h : l < n) => hpe l h)
          have Ha' := Lib.hid (fun l (h : l < n) => hA2 l h)
          clear hdr hb0 Hcp Hpo Hin Hc
          clear hpe hA2
          go_wp2_with fail
          refine Hcw.out.mono ?_
          rintro e w2 ⟨v2, rfl, hn2, hb2⟩
          have hz2 := hb2.size
          have hmI := (Hsq.out.row hIn).1
          obtain ⟨gb, gc, _, hv, _, _, _, _, _, _, _⟩ := hn2.at (OInts.kept _) hmI
          rw [Hsq.out.1] at hv
          subst hv
          have Hn2 := Lib.hid hn2
          have Hbw := Lib.hid (Hb0.out.trans (hb2.mono (by omega)))
          have hpb2 : pb < w2.heap.size := by omega
          have hww : w.heap.size ≤ w2.heap.size := by omega
          clear hz0
          clear hn2 hb2 hmI Hcw
          go_wp2
          go_loopg [10, 11] n (fun g v ii wr => ∃ (k : Nat), ii = .int .i64 k ∧ k + g = n ∧ New (OInts 3) w2.heap.size wr v ((rowOf' n (splitR m I P n n)).take k) ∧ Below w2.heap.size w2 wr)
          case atStart => exact ⟨0, rfl, by omega, New.empty w2 (Nat.le_refl _), (Below.refl _ _).alloc (Nat.le_refl _) _⟩
          case round =>
            obtain ⟨k, rfl, hk, hnew, hbel⟩ := hrel
            obtain ⟨wo, rfl⟩ : ∃ wo : World, wo = wr := ⟨_, rfl⟩
            have hle := hbel.size
            have hbo := Hbw.out.trans (hbel.mono (by omega))
            have hrule := hbo.rule
            have Hbo := Lib.hid hbo
            have Hn := Lib.hid hnew
            have Hb := Lib.hid hbel
            have Hlk := Lib.hid (show ((rowOf' n (splitR m I P n n)).take k).length ≤ n from by rw [List.length_take]; omega)
            clear hnew hbel hbo
            by_cases hlt : k < n
            · have hP3 := Hp'.out k hlt
              have hA3 := Ha'.out k hlt
              obtain ⟨hd1, hd2, hd3⟩ := Hok.out k hlt
              have hk1 : (k : Int) < (n : Int) := by omega
              have Hs := Lib.hid (show _ = _ from take_snoc' (show (rowOf' n (splitR m I P n n))[k]? = some (ent m I k - P.getD k 0) from by rw [rowOf_at hlt, splitR_last]))
              generalize ent m I k = X at *
              generalize P.getD k 0 = Y at *
              have hw1 : wo.cell? ⟨ab, ao + I, none⟩ = some (.slice (some ⟨rb, ro, none⟩) n rc) := (hrule ab (ao + I) hab).trans hA1
              have hw2 : wo.cell? ⟨rb, ro + k, none⟩ = some (.int .i64 X) := (hrule rb (ro + k) hrb).trans hA3
              have hw3 : wo.cell? ⟨pb, po + k, none⟩ = some (.int .i64 Y) := (hrule pb (po + k) hpb).trans hP3
              have hxy : IntKind.i64.wrap (X - Y) = X - Y := IntWalk.i64_in _ (by omega)
              have Hww := Lib.hid hww
              clear hrule hA1 hA3 hP3
              go_wp2_with fail
              go_region_held3 (fun w' => w'.cell? ⟨ab, ao + I, none⟩ = some (.slice (some ⟨rb, ro, none⟩) n rc) ∧ w'.cell? ⟨rb, ro + k, none⟩ = some (.int .i64 X) ∧ w'.cell? ⟨pb, po + k, none⟩ = some (.int .i64 Y))
                (first
                  | exact hS1
                  | exact ⟨hw1, hw2, hw3⟩
                  | go_keep)
                ((first
                  | (refine step_push (w0 := wo) (lo := w2.heap.size) (y := X - Y) OIntR.kept (by rfl) (.tmp 66) (.tmp 79) 46 (by rfl) 3 (.int .i64 0) 8 Tryz.underlying46 infoI (by rfl) Hn.out hle (((Below.refl _ _).drew).alloc (Nat.le_refl _) _) ⟨[], ⟨rfl, rfl⟩, by simp [Fresh]⟩ (bb := wo.heap.size) (c := 1) (by simp) (by rfl) (by rfl) (by have := Hlk.out; omega) (by have := Hlk.out; omega) ?_
                     intro v1 wq hn1 _ _ hb1
                     have hS1 : wq.cell? ⟨ab, ao + I, none⟩ = some (.slice (some ⟨rb, ro, none⟩) n rc) ∧ wq.cell? ⟨rb, ro + k, none⟩ = some (.int .i64 X) ∧ wq.cell? ⟨pb, po + k, none⟩ = some (.int .i64 Y) := ⟨(hb1.cell (p := ⟨ab, ao + I, none⟩) (Nat.lt_of_lt_of_le hab Hww.out)).trans hw1, (hb1.cell (p := ⟨rb, ro + k, none⟩) (Nat.lt_of_lt_of_le hrb Hww.out)).trans hw2, (hb1.cell (p := ⟨pb, po + k, none⟩) hpb2).trans hw3⟩)
                  | fail))
              go_wp2
              go_roundg (n - (k + 1))
              case measure => omega
              case rel => exact ⟨k + 1, by go_num, by omega, by rw [← Hs.out]; exact hn1, Hb.out.trans hb1⟩
            · have e : k = n := by omega
              subst e
              clear hk
              obtain ⟨n, rfl⟩ : ∃ n : Nat, n = k := ⟨_, rfl⟩
              have hnew := Hn.out
              rw [rowOf_full] at hnew
              obtain ⟨xa, xn, xc, rfl⟩ := hnew.slice
              have hA := Apart.of_new (lo := w1.heap.size) (OTab.kept _ _) Hn2.out hnew Hb.out hz2
              obtain ⟨gb', gc', hv', _, hgl, hgb, ⟨u0, hgc0⟩, hgf, hst⟩ := hA.at (OInts.kept _) (OInts.kept _) (Hsq.out.row hIn).1
              obtain rfl : gb' = gb := by simp at hv'; exact hv'.1.symm
              have Hst := Lib.hid hst
              have Hsrc := Lib.hid (Ints.frame _ _ _ _ (Ints.frame _ _ _ _ H2.out Hbo.out) ((Below.refl wo.heap.size wo).alloc (Nat.le_refl _) (.cells #[] 3)))
              have hsz1 : w1.heap.size ≤ wo.heap.size := by omega
              clear hnew hA hv' hst hrule hA1
              have Hnx := Lib.hid (show ∀ w3 ya yn yc, Below wo.heap.size wo w3 → New (OInts 3) wo.heap.size w3 (.slice ya yn yc) P → ∃ v4 w4, (Builtin.append_ #[24, 24] 24 #[.slice (some ⟨gb', 0, none⟩) n gc, .slice (some ⟨w3.heap.size, 0, none⟩) 1 1]).run Tryz.prog ((w3.setCell ⟨gb', I, none⟩ (.slice ya yn yc)).alloc (.cells #[.slice xa xn xc] 46)) = .ok v4 w4 ∧ New (OTab 3 46) w1.heap.size w4 v4 (splitF m I P n 0) ∧ Below w1.heap.size w3 w4 from by
                intro w3 ya yn yc hb3 hn3
                have hz3 := hb3.size
                have hA3 := Hst.out w3 _ P hb3 hn3
                have hA4 := hA3.keep (OTab.kept _ _) (OInts.kept _) ((Below.refl (w3.setCell ⟨gb', I, none⟩ (.slice ya yn yc)).heap.size _).alloc (Nat.le_refl _) (.cells #[.slice xa xn xc] 46)) (Nat.le_refl _)
                obtain ⟨v4, w4, hr4, hn4, hb4⟩ := Apart.push (P := Tryz.prog) (bb := w3.heap.size) (c := 1) (OInts.kept _) 24 24 (.slice none 0 0) 24 Tryz.underlying24 infoR rfl hA4 (by simp; omega) (World.cell?_alloc_at _ _ _ 0 (by simp)) (by rw [List.length_set, Hsq.out.1]; omega) (by rw [List.length_set, Hsq.out.1]; omega)
                rw [splitF_start Hsq.out hIn Hp.out] at hn4
                exact ⟨v4, w4, hr4, hn4, ((((Below.refl w1.heap.size w3).setCell (p := ⟨gb', I, none⟩) hgl _).alloc (by simp; omega) _)).trans hb4⟩)
              clear Hst
              go_wp2_with (first
                | (at_builtin; refine wpl_append_vals (f := Value.int .i64) (fun _ => rfl) rfl (.tmp 83) (.tmp 84) 46 rfl 3 (.int .i64 0) 8 Tryz.underlying46 infoI rfl (New.empty (R := OValR (Value.int .i64)) (lo := wo.heap.size) wo (Nat.le_refl _)) (by simp) Hsrc.out rfl rfl (by rw [Hp.out]; simp; omega) (by rw [Hp.out]; simp; omega) ?_; intro v3 w3 hn3 _ _ hb3; obtain ⟨ya, yn, yc, rfl⟩ := hn3.slice; have hb3' := ((Below.refl wo.heap.size wo).alloc (Nat.le_refl _) (.cells #[] 3)).trans hb3; have hgc3 : w3.cell? ⟨gb', I, none⟩ = some u0 := (hb3'.cell (p := ⟨gb', I, none⟩) hgb).trans hgc0; have hgf3 : w3.frozen? ⟨gb', I, none⟩ = false := (hb3'.frozen (p := ⟨gb', I, none⟩) hgb).trans hgf; obtain ⟨v4, w4, hr4, hn4, hb4⟩ := Hnx.out w3 ya yn yc hb3' hn3; have Hr4 := Lib.hid hr4; have Hn4 := Lib.hid hn4; have Hb4 := Lib.hid ((hb3'.mono hsz1).trans hb4); obtain ⟨hb, hc, _, hv4, _⟩ := hn4.at (OInts.kept _) (splitF_at (k := 0) (Nat.succ_pos n)); rw [splitF_len] at hv4; subst hv4; clear hn3 hb3 hb3' hr4 hn4 hb4 Hnx)
                | (at_builtin; refine wpl_append_run rfl (.tmp 87) (.tmp 89) 24 rfl rfl rfl Hr4.out ?_)
                | fail)
              have hw1n : w.heap.size ≤ w1.heap.size := Hb0.out.size
              have Hbt := Lib.hid (Hbo.out.trans (Hb4.out.mono hw1n))
              have hw14 : w1.heap.size ≤ w4.heap.size := Nat.le_trans hsz1 Hb4.out.size
              clear hgc0 hgf hgb hgl hgc3 hgf3 hle hsz1 hz2 hww hpb2 hpb hab hrb
              go_loopg [12] (n + 1) (fun g ii wr => ∃ (k : Nat), ii = .int .i64 k ∧ k + g = n + 1 ∧ New (OTab 3 46) w1.heap.size wr (.slice (some ⟨hb, 0, none⟩) (n + 1) hc) (splitF m I P n k) ∧ Below w1.heap.size w4 wr)
              case atStart => exact ⟨0, rfl, by omega, Hn4.out, Below.refl _ _⟩
              case round =>
                obtain ⟨k, rfl, hk, hnew, hbel⟩ := hrel
                clear Hn4 Hb4 Hn2 Hbw Hsrc Hn Hb Hbo H2 Hr4
                have Hbk := Lib.hid hbel
                have hwr : w1.heap.size ≤ wr.heap.size := Nat.le_trans hw14 hbel.size
                by_cases hlt : k < n + 1
                · obtain ⟨b', c', rb2, rc2, hv, hnc, hlb, hltb, hcl, hrc, hrb2, hrne, hce, hpush⟩ := hnew.row_push (P := Tryz.prog) (splitF_at hlt) (rowOf_at hIn) 46 46 (.int .i64 0) 8 Tryz.underlying46 infoI rfl (by rw [rowOf_len]; omega) (by rw [rowOf_len]; omega)
                  obtain rfl : b' = hb := by simp at hv; exact hv.1.symm
                  rw [rowOf_len] at hcl
                  have HP := Lib.hid (show ∀ W : World, Below wr.heap.size wr W → W.cell? ⟨wr.heap.size, 0, none⟩ = some (.int .i64 (splitR m I P n k I)) → ∃ a' n' c' w2, (Builtin.append_ #[46, 46] 46 #[.slice (some ⟨rb2, 0, none⟩) n rc2, .slice (some ⟨wr.heap.size, 0, none⟩) 1 1]).run Tryz.prog W = .ok (.slice a' n' c') w2 ∧ w2.cell? ⟨b', k, none⟩ = some (.slice (some ⟨rb2, 0, none⟩) n rc2) ∧ w2.frozen? ⟨b', k, none⟩ = false ∧ Below w1.heap.size wr (w2.setCell ⟨b', k, none⟩ (.slice a' n' c')) ∧ New (OTab 3 46) w1.heap.size (w2.setCell ⟨b', k, none⟩ (.slice a' n' c')) (.slice (some ⟨b', 0, none⟩) (n + 1) hc) (splitF m I P n (k + 1)) from by
                    intro W hW hWc
                    obtain ⟨v', w2, hr, h1, h2, _, h4, h5⟩ := hpush W wr.heap.size 1 _ hW hWc
                    rw [splitF_set] at h5
                    rw [rowOf_len] at h1 hr
                    have h6 : ∃ a n c, v' = .slice a n c := by
                      obtain ⟨b2, c2, u2, hv2, _, _, _, hcu, _, hnu, _⟩ := h5.at (OInts.kept _) (i := k) (List.getElem?_eq_getElem (by rw [splitF_len]; omega))
                      simp at hv2
                      rw [← hv2.1, World.cell?_setCell_same _ _ _ h1] at hcu
                      cases hcu
                      exact hnu.slice
                    obtain ⟨a', n', c'', rfl⟩ := h6
                    exact ⟨a', n', c'', w2, hr, h1, h2, h4.setCell (p := ⟨b', k, none⟩) hlb _, h5⟩)
                  generalize splitR m I P n k I = x at *
                  clear hpush hv hnew hbel
                  go_wp2
                  go_region_law (first
                    | (obtain ⟨a', n', c', w2, hr, hc2, hf2, hb2, hn2⟩ := HP.out (wr.drew.alloc (.cells #[.int .i64 x] 3)) (((Below.refl _ _).drew).alloc (Nat.le_refl _) _) (World.cell?_alloc_at _ _ _ 0 rfl); refine step_append_run (by rfl) (.tmp 102) (.tmp 110) 46 (by rfl) (by rfl) (by rfl) hr ?_; have Hn9 := Lib.hid hn2; have Hb9 := Lib.hid hb2; clear hr hn2 hb2)
                    | (obtain ⟨a', n', c', w2, hr, hc2, hf2, hb2, hn2⟩ := HP.out ((wr.alloc (.cells #[.int .i64 x] 3)).drew) (((Below.refl _ _).alloc (Nat.le_refl _) _).drew) (World.cell?_alloc_at _ _ _ 0 rfl); refine step_append_run (by rfl) (.tmp 102) (.tmp 110) 46 (by rfl) (by rfl) (by rfl) hr ?_; have Hn9 := Lib.hid hn2; have Hb9 := Lib.hid hb2; clear hr hn2 hb2)
                    | fail)
                  all_goals (
                    go_wp2
                    go_roundg (n - k)
                    case measure => omega
                    case rel => exact ⟨k + 1, by go_num, by omega, Hn9.out, Hbk.out.trans Hb9.out⟩)
                · have e : k = n + 1 := by omega
                  subst e
                  rw [splitF_full] at hnew
                  have Hr := Lib.hid (hnew.mono hw1n)
                  have Hbz := Lib.hid (Hbt.out.trans (Hbk.out.mono hw1n))
                  clear hnew hbel Hbk hk
                  go_wp2
                  go_ret2
                  exact ⟨_, by rw [HK.out]; rfl, by rw [HV2.out]; exact Hr.out, Hbz.out⟩
    · have HK := Lib.hid (show splitOk m i P = false from by unfold splitOk; simp [hij])
      rw [HK.out]
      have hm9 := sm.2
      clear h1 h2 hm sm
      generalize m.length = n at *
      generalize P.length = p at *
      by_cases h9 : n = 9
      · clear hij
        subst h9
        go_enter Tryz.func29, Tryz.ntmps29
        go_wp2_with fail
        refine Hc.out.mono ?_
        rintro e w' ⟨rfl, rfl⟩
        go_wp2
        go_ret2
        exact ⟨_, rfl, by rw [Hno.out HK.out]; exact New.empty w (Nat.le_refl _), (Below.refl _ _).alloc (Nat.le_refl _) _⟩
      have t9 : ((n : Int) == 9) = false := by simp; omega
      by_cases h0 : i < 0 ∨ (n : Int) - 1 < i
      · have Hin := Lib.hid (l1In_no (a := i) (b := 0) (c := (n : Int) - 1) w h0)
        clear hij h0
        go_enter Tryz.func29, Tryz.ntmps29
        go_wp2_with fail
        refine Hc.out.mono ?_
        rintro e w' ⟨rfl, rfl⟩
        go_wp2_with (go_at_call 58; refine Hin.out.mono ?_; rintro e w' ⟨rfl, rfl⟩)
        go_ret2
        exact ⟨_, rfl, by rw [Hno.out HK.out]; exact New.empty w (Nat.le_refl _), (Below.refl _ _).alloc (Nat.le_refl _) _⟩
      have Hin := Lib.hid (l1In_yes (a := i) (b := 0) (c := (n : Int) - 1) w (by omega) (by omega))
      have tp : ((p : Int) != (n : Int)) = true := by simp; omega
      clear hij h0
      go_enter Tryz.func29, Tryz.ntmps29
      go_wp2_with fail
      refine Hc.out.mono ?_
      rintro e w' ⟨rfl, rfl⟩
      go_wp2_with (go_at_call 58; refine Hin.out.mono ?_; rintro e w' ⟨rfl, rfl⟩)
      go_ret2
      exact ⟨_, rfl, by rw [Hno.out HK.out]; exact New.empty w (Nat.le_refl _), (Below.refl _ _).alloc (Nat.le_refl _) _⟩
end Go.Proofs.YtlkgkfgpnnahdaaGreat
end
