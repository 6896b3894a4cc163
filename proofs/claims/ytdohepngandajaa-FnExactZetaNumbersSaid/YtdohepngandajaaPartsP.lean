/-
  PartsOf, the program's.
-/
import Derived.Test.YtdohepngandajaaRows
import Derived.Test.YtdohepngandajaaBase
import Derived.Test.YtdohepngandajaaHarn
import Derived.Test.YtdohepngandajaaPush
import Derived.Test.YtdohepngandajaaPartsM
import Derived.Test.YtdohepngandajaaPartsS
import Derived.Test.YtdohepngandajaaPartsI
import Derived.Test.YtdohepngandajaaPartsD
import Derived.Test.YtdohepngandajaaSplit
import Derived.IntWalk
namespace Go.Sd
open Go.RowKit Go.Deep
theorem New.one {α : Type} {e : TypeId} {R : OwnRel α} (hR : Kept R) {lo : Nat} {w : World} {u : Value} {x : α} (h : New R lo w u x) (hlo : lo ≤ w.heap.size) :
    New (OwnOf e R) lo (w.alloc (.cells #[u] e)) (.slice (some ⟨w.heap.size, 0, none⟩) 1 1) [x] := by
  obtain ⟨F, hF, hn, hge⟩ := h
  have hlt := hR.lt _ _ _ _ hF
  refine ⟨w.heap.size :: F, ⟨[u], [F], ⟨by simp, .inr ⟨w.heap.size, 1, #[u], rfl, Nat.zero_le _, heap_alloc_new w _, Nat.le_refl _, by simp [maxLen], by simp, by simp⟩⟩, rfl, ?_, by simp [Value.ownBlock]⟩, List.nodup_cons.2 ⟨fun hm => by have := hlt _ hm; omega, hn⟩, fun b hb => by
    rcases List.mem_cons.1 hb with rfl | hb
    · exact hlo
    · exact hge b hb⟩
  intro i u' x' G hu hx hG
  cases i with
  | zero =>
    simp at hu hx hG
    subst hu hx hG
    exact Kept.below hR hF ((Below.refl _ _).alloc (Nat.le_refl _) _)
  | succ i => simp at hu
theorem exts_len (l : List Int) (x : Int) : (exts l x).length = x.toNat + 1 := by simp [exts]
theorem flat_len (x : Int) : ∀ ls : Tbl, (ls.flatMap fun l => exts l x).length = ls.length * (x.toNat + 1)
  | [] => by simp
  | l :: ls => by
    rw [List.flatMap_cons, List.length_append, flat_len x ls, exts_len, List.length_cons, Nat.succ_mul]; omega
/-- Rows of k small numbers. -/
def RowsK (k : Nat) (cur : Tbl) : Prop := cur.length ≤ 4 ^ k ∧ ∀ l, l ∈ cur → l.length = k ∧ ∀ y, y ∈ l → 0 ≤ y ∧ y ≤ 3
theorem RowsK.next {k : Nat} {cur : Tbl} {x : Int} (h : RowsK k cur) (h0 : 0 ≤ x) (h3 : x ≤ 3) : RowsK (k + 1) (ext cur x) := by
  constructor
  · unfold ext
    rw [flat_len, Nat.pow_succ]
    exact Nat.mul_le_mul h.1 (by omega)
  · intro l hl
    obtain ⟨l0, hl0, hl1⟩ := List.mem_flatMap.1 hl
    obtain ⟨y, hy, rfl⟩ := List.mem_map.1 hl1
    have h1 := h.2 l0 hl0
    have hy2 := List.mem_range.1 hy
    refine ⟨by rw [List.length_append, h1.1]; rfl, fun z hz => ?_⟩
    rcases List.mem_append.1 hz with hz | hz
    · exact h1.2 z hz
    · simp at hz; omega
end Go.Sd
namespace Go.Proofs.Ytdohepngandajaa
open Go.RowKit Go.Deep Go.Sd
set_option maxHeartbeats 8000000 in
set_option maxRecDepth 100000 in
theorem impl_PartsOf_c {w : World} {v : Value} {row : List Int} (h : Ints w v row) :
    Calls Try.prog 95 #[v] w (Makes (OTab 3 50) w (partsV row)) := by
  have hlen := h.len
  obtain ⟨a, c, rfl, _, _, hcell⟩ := h.shape
  have Hi := Lib.hid h
  clear h
  have HV := Lib.hid (partsV_impl row)
  generalize partsV row = V at HV ⊢
  obtain ⟨n, hn⟩ : ∃ n, n = row.length := ⟨_, rfl⟩
  have Hn := Lib.hid hn
  rw [← hn] at hlen hcell HV Hi ⊢
  clear hn
  have hmf : ∀ (fn : Fn) (first cap : Array Value) (w : World), (Instr.makeFunc fn first cap).run Try.prog w = .ok (.func fn first cap) w := fun _ _ _ _ => rfl
  have qb : (w.alloc (.cells #[.slice a n c] 50)).cell? ⟨w.heap.size, 0, none⟩ = some (.slice a n c) := by simp
  have hb0 : Below w.heap.size w (w.alloc (.cells #[.slice a n c] 50)) := (Below.refl _ _).alloc (Nat.le_refl _) _
  have hz0 : (w.alloc (.cells #[.slice a n c] 50)).heap.size = w.heap.size + 1 := by simp
  by_cases h4 : n ≤ 4
  rotate_left
  · have HF := Lib.hid (show V = [] from by rw [HV.out, if_neg h4])
    have Hb0 := Lib.hid hb0
    clear HV hcell qb hb0 hz0 hmf
    go_enter Try.func95, Try.ntmps95
    go_wp2
    go_ret
    exact ⟨_, rfl, by rw [HF.out]; exact New.nil _ _, Hb0.out⟩
  have HV0 := Lib.hid (show V = goOn (keepI row) (row.drop 0) [[]] from by rw [HV.out, if_pos h4]; rfl)
  clear HV
  have Hn1 := Lib.hid (show New (OTab 3 50) (w.heap.size + 1) (((w.alloc (.cells #[.slice a n c] 50)).alloc (.cells #[] 3)).alloc (.cells #[.slice (some ⟨w.heap.size + 1, 0, none⟩) 0 0] 50)) (.slice (some ⟨w.heap.size + 1 + 1, 0, none⟩) 1 1) [[]] from by
    have h1 := New.one (e := 50) (OInts.kept 3) (New.empty (e := 3) (R := OIntR) (lo := w.heap.size + 1) (w.alloc (.cells #[.slice a n c] 50)) (by simp)) (by simp)
    rw [show ((w.alloc (.cells #[.slice a n c] 50)).alloc (.cells #[] 3)).heap.size = w.heap.size + 1 + 1 from by simp, hz0] at h1
    exact h1)
  have Hb1 := Lib.hid (show Below (w.heap.size + 1) (w.alloc (.cells #[.slice a n c] 50)) (((w.alloc (.cells #[.slice a n c] 50)).alloc (.cells #[] 3)).alloc (.cells #[.slice (some ⟨w.heap.size + 1, 0, none⟩) 0 0] 50)) from ((Below.refl _ _).alloc (by simp) _).alloc (by simp) _)
  have Hb0 := Lib.hid hb0
  have Hz0 := Lib.hid hz0
  clear hb0 hz0
  go_enter Try.func95, Try.ntmps95
  go_wp2
  generalize w.alloc (.cells #[.slice a n c] 50) = w1 at *
  have Hqb := Lib.hid qb
  generalize (w1.alloc (.cells #[] 3)).alloc (.cells #[.slice (some ⟨w.heap.size + 1, 0, none⟩) 0 0] 50) = wS at *
  clear qb
  go_loopg [3, 17] n (fun g v i wr => ∃ (k : Nat) (cur : Tbl), i = .int .i64 k ∧ k + g = n ∧ Hid (V = goOn (keepI row) (row.drop k) cur) ∧ Hid (RowsK k cur) ∧ Hid (New (OTab 3 50) (w.heap.size + 1) wr v cur) ∧ Hid (Below (w.heap.size + 1) w1 wr) ∧ Hid (∀ y, y ∈ row.take k → 0 ≤ y ∧ y ≤ 3))
  case atStart => exact ⟨0, [[]], rfl, by omega, HV0, Lib.hid ⟨by simp, by simp⟩, Hn1, Hb1, Lib.hid (fun y hy => by simp at hy)⟩
  case round =>
    obtain ⟨k, cur, rfl, hk, HK, hrk, hnew, hbel, htk⟩ := hrel
    have hsz1 := hbel.out.size
    have hb1 := Hz0.out
    by_cases hlt : k < n
    · obtain ⟨b, o, rfl, hb, hx0⟩ := hcell (by omega)
      obtain ⟨x, hx, hd⟩ := at_lt (xs := row) (k := k) (by have := Hn.out; omega)
      obtain ⟨u, hu, hux⟩ := hx0 k x hx
      obtain rfl : u = .int .i64 x := hux
      have hu1 : wr.cell? ⟨b, o + k, none⟩ = some (.int .i64 x) := (hbel.out.cell (p := ⟨b, o + k, none⟩) (by simp; omega)).trans ((Hb0.out.cell (p := ⟨b, o + k, none⟩) hb).trans hu)
      have HK1 := Lib.hid (show V = if 0 ≤ x ∧ x ≤ 3 then goOn (keepI row) (row.drop (k + 1)) (ext cur x) else [] from by rw [HK.out, hd]; rfl)
      have hbw : Below w.heap.size w wr := Hb0.out.trans (hbel.out.mono (by omega))
      have Hbw := Lib.hid hbw
      have hkn : (k : Int) < (n : Int) := by omega
      have Htk1 := Lib.hid (show ∀ y, y ∈ row.take (k + 1) → y = x ∨ (0 ≤ y ∧ y ≤ 3) from fun y hy => by
        rw [List.take_add_one, hx] at hy
        rcases List.mem_append.1 hy with hy | hy
        · exact Or.inr (htk.out y hy)
        · simp at hy; exact Or.inl hy)
      clear hx hd hx0 hcell hu HK hbw
      by_cases hxa : x < 0
      · have HF := Lib.hid (show V = [] from by rw [HK1.out, if_neg (by omega)])
        have d0 : decide (x < 0) = true := decide_eq_true hxa
        clear HK1
        go_wp2
        go_ret
        exact ⟨_, rfl, by rw [HF.out]; exact New.nil _ _, Hbw.out⟩
      by_cases hxb : 3 < x
      · have HF := Lib.hid (show V = [] from by rw [HK1.out, if_neg (by omega)])
        have d0 : decide (x < 0) = false := decide_eq_false hxa
        have d1 : decide (3 < x) = true := decide_eq_true hxb
        clear HK1
        go_wp2
        go_ret
        exact ⟨_, rfl, by rw [HF.out]; exact New.nil _ _, Hbw.out⟩
      obtain ⟨X, rfl⟩ := Int.eq_ofNat_of_zero_le (show 0 ≤ x by omega)
      have hX3 : X ≤ 3 := by omega
      have HF := Lib.hid (show V = goOn (keepI row) (row.drop (k + 1)) (ext cur (X : Int)) from by rw [HK1.out, if_pos (by omega)])
      have d0 : decide ((X : Int) < 0) = false := decide_eq_false hxa
      have d1 : decide (3 < (X : Int)) = false := decide_eq_false hxb
      have HtkN := Lib.hid (show ∀ y, y ∈ row.take (k + 1) → 0 ≤ y ∧ y ≤ 3 from fun y hy => by rcases Htk1.out y hy with h | h; subst h; omega; exact h)
      have HrkN := Lib.hid (hrk.out.next (x := (X : Int)) (by omega) (by omega))
      have hm64 : cur.length ≤ 64 := Nat.le_trans hrk.out.1 (Nat.le_trans (Nat.pow_le_pow_right (by decide) (show k ≤ 3 by omega)) (by decide))
      obtain ⟨ca, cc, rfl, _, _, hcx⟩ := hnew.out.tab.shape
      have Hcx := Lib.hid hcx
      have Htab := Lib.hid hnew.out.tab
      obtain ⟨m, hm⟩ : ∃ m, m = cur.length := ⟨_, rfl⟩
      have Hm := Lib.hid hm
      rw [← hm] at hm64 Hcx Htab hnew ⊢
      have hn0 : New (OTab 3 50) wr.heap.size (wr.alloc (.cells #[] 50)) (.slice (some ⟨wr.heap.size, 0, none⟩) 0 0) [] := New.empty wr (Nat.le_refl _)
      have Hn0 := Lib.hid hn0
      have Hbr0 := Lib.hid (show Below wr.heap.size wr (wr.alloc (.cells #[] 50)) from (Below.refl _ _).alloc (Nat.le_refl _) _)
      have Hfl := Lib.hid (fun (j : Nat) => show ((cur.take j).flatMap fun l => exts l (X : Int)).length ≤ 4 * j from by
        rw [flat_len]
        have h1 : (cur.take j).length ≤ j := List.length_take_le _ _
        have h2 : (X : Int).toNat + 1 ≤ 4 := by omega
        have h3 := Nat.mul_le_mul h1 h2
        omega)
      have Hrl := Lib.hid (fun l (hl : l ∈ cur) => show l.length ≤ 4 from by have := (hrk.out.2 l hl).1; omega)
      clear hcx hm hn0 HK1 hxa hxb hrk hnew
      obtain ⟨wa, rfl⟩ : ∃ x, x = wr := ⟨_, rfl⟩
      go_wp2
      go_loopg [6, 30] m (fun g vl i wj => ∃ (j : Nat), i = .int .i64 j ∧ j + g = m ∧ Hid (New (OTab 3 50) wa.heap.size wj vl ((cur.take j).flatMap fun l => exts l (X : Int))) ∧ Hid (Below wa.heap.size wa wj))
      case atStart => exact ⟨0, rfl, by omega, Lib.hid (by simpa using Hn0.out), Hbr0⟩
      case round =>
        obtain ⟨wj, rfl⟩ : ∃ x, x = wr := ⟨_, rfl⟩
        obtain ⟨j, rfl, hj, hnj, hbj⟩ := hrel
        by_cases hlt2 : j < m
        · obtain ⟨ob, oo, rfl, hob, hox⟩ := Hcx.out (by omega)
          obtain ⟨l, hl, hld⟩ := at_lt (xs := cur) (k := j) (by have := Hm.out; omega)
          obtain ⟨ul, hul, hurl⟩ := hox j l hl
          have hulj : wj.cell? ⟨ob, oo + j, none⟩ = some ul := (hbj.out.cell (p := ⟨ob, oo + j, none⟩) hob).trans hul
          have Hlr := Lib.hid hurl
          have hl4 := Hrl.out l (List.mem_of_getElem? hl)
          have HT := Lib.hid (show (cur.take (j + 1)).flatMap (fun l => exts l (X : Int)) = (cur.take j).flatMap (fun l => exts l (X : Int)) ++ exts l (X : Int) from by rw [List.take_add_one, hl, List.flatMap_append]; simp)
          obtain ⟨la, lc, rfl, _, _, _⟩ := hurl.shape
          generalize hll : l.length = ll at *
          have Hll := Lib.hid hll
          have hfl := Hfl.out j
          have hjm : (j : Int) < (m : Int) := by omega
          clear hl hld hul hurl hox hll
          go_wp2
          go_loopg [6, 36] (X + 1) (fun g vl i wy => ∃ (y : Nat), i = .int .i64 y ∧ y + g = X + 1 ∧ Hid (New (OTab 3 50) wa.heap.size wy vl (((cur.take j).flatMap fun l => exts l (X : Int)) ++ (List.range y).map fun (z : Nat) => l ++ [(z : Int)])) ∧ Hid (Below wa.heap.size wa wy))
          case atStart => exact ⟨0, rfl, by omega, Lib.hid (by simpa using hnj.out), hbj⟩
          case round =>
            obtain ⟨wy, rfl⟩ : ∃ x, x = wr := ⟨_, rfl⟩
            obtain ⟨y, rfl, hy, hny, hby⟩ := hrel
            have hly := Lib.hid (Ints.frame _ _ _ _ Hlr.out hby.out)
            by_cases hlt3 : y < X + 1
            · have Hcl := Lib.hid (clone_c hly.out (by rw [Hll.out]; omega))
              have HTy := Lib.hid (show ((cur.take j).flatMap fun l => exts l (X : Int)) ++ (List.range (y + 1)).map (fun (z : Nat) => l ++ [(z : Int)]) = (((cur.take j).flatMap fun l => exts l (X : Int)) ++ (List.range y).map fun (z : Nat) => l ++ [(z : Int)]) ++ [l ++ [(y : Int)]] from by rw [List.range_succ, List.map_append, ← List.append_assoc]; rfl)
              have hyX : decide ((y : Int) < (X : Int) + 1) = true := decide_eq_true (by omega)
              have hle := hby.out.size
              have Hlen := Lib.hid (show (((cur.take j).flatMap fun l => exts l (X : Int)) ++ (List.range y).map fun (z : Nat) => l ++ [(z : Int)]).length ≤ 300 from by rw [List.length_append, List.length_map, List.length_range]; omega)
              go_wp2_with fail
              refine Hcl.out.mono ?_
              rintro e w2 ⟨u2, rfl, hn2, hb2⟩
              have Hn2 := Lib.hid hn2
              have Hb2 := Lib.hid hb2
              have hle2 := hb2.size
              clear hn2 hb2
              go_wp2_with (first
                | (at_builtin; refine wpl_push (w0 := w2) (lo := wy.heap.size) (y := (y : Int)) OIntR.kept rfl (.tmp 41) (.tmp 43) 50 rfl 3 (.int .i64 0) 8 Try.underlying50 infoI rfl Hn2.out hle2 ((Below.refl _ _).alloc (Nat.le_refl _) _) ⟨[], ⟨rfl, rfl⟩, by simp [Fresh]⟩ (bb := w2.heap.size) (c := 1) (by simp) rfl rfl (by rw [Hll.out]; omega) (by rw [Hll.out]; omega) ?_; intro v3 w3 hn3 _ _ hb3; obtain ⟨p3, n3, c3, rfl⟩ := hn3.slice; have Hn3 := Lib.hid hn3; have Hb3 := Lib.hid (Hb2.out.trans (hb3.mono (Nat.le_refl _))); clear hn3 hb3)
                | (at_builtin; refine wpl_push (w0 := wy) (lo := wa.heap.size) (OInts.kept _) rfl (.tmp 39) (.tmp 45) 41 rfl 50 (.slice none 0 0) 24 Try.underlying41 infoR rfl hny.out hle (Hb3.out.alloc Hb3.out.size _) (New.keep (OInts.kept _) Hn3.out ((Below.refl w3.heap.size _).alloc (Nat.le_refl _) _) (Nat.le_refl _)) (bb := w3.heap.size) (c := 1) (by simp) rfl rfl (by have := Hlen.out; omega) (by have := Hlen.out; omega) ?_; intro v5 w5 hn5 _ _ hb5; have Hn5 := Lib.hid hn5; have Hb5 := Lib.hid hb5; clear hn5 hb5)
                | fail)
              have R1 := Lib.hid (show New (OTab 3 50) wa.heap.size w5 v5 (((cur.take j).flatMap fun l => exts l (X : Int)) ++ (List.range (y + 1)).map fun (z : Nat) => l ++ [(z : Int)]) from by rw [HTy.out]; exact Hn5.out)
              have R2 := Lib.hid (hby.out.trans Hb5.out)
              clear hny hby hly
              go_roundg (X + 1 - (y + 1))
              case measure => omega
              case rel => exact ⟨y + 1, by go_num, by omega, R1, R2⟩
            · have e : y = X + 1 := by omega
              subst e
              have R1 := Lib.hid (show New (OTab 3 50) wa.heap.size wy _ ((cur.take (j + 1)).flatMap fun l => exts l (X : Int)) from by rw [HT.out]; exact hny.out)
              clear hly hny
              go_wp2
              go_roundg (m - (j + 1))
              case measure => omega
              case rel => exact ⟨j + 1, by go_num, by omega, R1, hby⟩
        · have e : j = m := by omega
          subst e
          have R1 := Lib.hid (show New (OTab 3 50) (w.heap.size + 1) wj _ (ext cur (X : Int)) from by
            have h1 := hnj.out
            rw [List.take_of_length_le (by rw [← Hm.out]; exact Nat.le_refl _)] at h1
            exact h1.mono (by omega))
          have R2 := Lib.hid (hbel.out.trans (hbj.out.mono (by omega)))
          have R3 := Lib.hid (show ∀ y, y ∈ row.take (k + 1) → 0 ≤ y ∧ y ≤ 3 from HtkN.out)
          clear hnj hbj
          go_wp2
          go_roundg (n - (k + 1))
          case measure => omega
          case rel => exact ⟨k + 1, ext cur (X : Int), by go_num, by omega, HF, HrkN, R1, R2, R3⟩
    · have e : k = n := by omega
      subst e
      have HF := Lib.hid (show V = cur.filter (keepI row) from by rw [HK.out, drop_len (by have := Hn.out; omega)]; rfl)
      obtain ⟨F, hF, hFn, hFe⟩ := hnew.out
      have hsm : Small row := ⟨by rw [← Hn.out]; exact h4, fun y hy => htk.out y (by rw [List.take_of_length_le (by have := Hn.out; omega)]; exact hy)⟩
      have Hdel := Lib.hid (DeleteFunc_c (w0 := w1) Hqb.out (by omega) (Ints.frame _ _ _ _ Hi.out Hb0.out) hsm (hbel.out.mono (by omega)) hF hFn (fun b hb => by have := hFe b hb; omega) (fun l hl => ⟨by have := (hrk.out.2 l hl).1; omega, (hrk.out.2 l hl).2⟩))
      have HFe := Lib.hid hFe
      have HB := Lib.hid (Hb0.out.trans (hbel.out.mono (by omega)))
      obtain ⟨ca, cc, rfl, _, _, _⟩ := hnew.out.tab.shape
      generalize cur.length = cn at *
      clear hF hFn hFe hsm hcell hnew hbel HK
      go_wp2_with fail
      refine Hdel.out.mono ?_
      rintro e w5 ⟨r, F', rfl, hown, hnd, hin, hoff⟩
      have HR := Lib.hid (show New (OTab 3 50) w.heap.size w5 r V from ⟨F', by rw [HF.out]; exact hown, hnd, fun b hb => by have := HFe.out b (hin b hb); omega⟩)
      have HZ := Lib.hid (HB.out.trans (hoff.below (fun b hb => by have := HFe.out b hb; omega) HB.out.size))
      clear hown hnd hin hoff
      go_wp2
      go_ret
      exact ⟨_, rfl, HR.out, HZ.out⟩
end Go.Proofs.Ytdohepngandajaa
