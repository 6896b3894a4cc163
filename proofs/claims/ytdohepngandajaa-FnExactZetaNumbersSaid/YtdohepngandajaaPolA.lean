/-
  IsSmall, both sides; a table without a row and a column (the program's).
-/
import Derived.Test.YtdohepngandajaaPolyM
import Derived.Test.YtdohepngandajaaRunA
import Derived.Test.YtdohepngandajaaRegL
import Derived.Deep.DeepCutAuto
namespace Go.Sd
open Go.RowKit Go.Deep
theorem Tab.rowOf {w : World} {v : Value} {m : List (List Int)} (h : Tab w v m) {i : Nat} {r : List Int} (hr : m[i]? = some r) : ∃ b o c a' c', v = .slice (some ⟨b, o, none⟩) m.length c ∧ b < w.heap.size ∧ w.cell? ⟨b, o + i, none⟩ = some (.slice a' r.length c') ∧ Ints w (.slice a' r.length c') r := by
  obtain ⟨a, c, rfl, -, -, hc⟩ := h.shape
  have hi := (List.getElem?_eq_some_iff.1 hr).1
  obtain ⟨b, o, rfl, hb, hx⟩ := hc (by omega)
  obtain ⟨u, hu, hru⟩ := hx i r hr
  obtain ⟨a', c', rfl, -⟩ := hru.shape
  exact ⟨b, o, c, a', c', rfl, hb, hu, hru⟩
theorem Ints.elOf {w : World} {v : Value} {xs : List Int} (h : Ints w v xs) {j : Nat} {x : Int} (hx : xs[j]? = some x) : ∃ b o c, v = .slice (some ⟨b, o, none⟩) xs.length c ∧ b < w.heap.size ∧ w.cell? ⟨b, o + j, none⟩ = some (.int .i64 x) := by
  obtain ⟨a, c, rfl, -, -, hc⟩ := h.shape
  have hi := (List.getElem?_eq_some_iff.1 hx).1
  obtain ⟨b, o, rfl, hb, hx'⟩ := hc (by omega)
  obtain ⟨u, hu, hru⟩ := hx' j x hx
  exact ⟨b, o, c, rfl, hb, by rw [hu, show u = .int .i64 x from hru]⟩
end Go.Sd
namespace Go.Proofs.Ytdohepngandajaa
open Go.RowKit Go.Deep Go.Sd
set_option linter.unusedSimpArgs false
theorem all_drop {α : Type} {p : α → Bool} {xs : List α} {k : Nat} {x : α} (h : xs[k]? = some x) : (xs.drop k).all p = (p x && (xs.drop (k + 1)).all p) := by
  obtain ⟨h1, h2⟩ := List.getElem?_eq_some_iff.1 h
  rw [List.drop_eq_getElem_cons h1, h2, List.all_cons]
def nines (m : List (List Int)) : Bool := m.all fun r => r.all nineOk
set_option maxHeartbeats 1000000 in
set_option maxRecDepth 100000 in
theorem impl_IsSmall_c {w : World} {v : Value} {m : List (List Int)} (h : Tab w v m) :
    Calls Try.prog 106 #[v] w fun e w' => e = .returned (.bool (smallM m)) ∧ w' = w := by
  have HI := Lib.hid (impl_IsMatrix_c h)
  have HT := Lib.hid h
  obtain ⟨va, vc, rfl, -⟩ := h.shape
  have hlen := h.len
  have HM := Lib.hid (show smallM m = (isMat m && (decide (m.length ≤ 4) && nines m)) from rfl)
  generalize smallM m = R at HM ⊢
  clear h
  cases him : isMat m with
  | false =>
    have HF := Lib.hid (show R = false from by rw [HM.out, him]; rfl)
    rw [him] at HI
    clear HM HT him
    go_enter Try.func106, Try.ntmps106
    go_wp2_with fail
    (with_reducible refine HI.out.mono ?_)
    rintro e w0 ⟨rfl, rfl⟩
    go_wp2
    go_ret
    exact ⟨by rw [HF.out]; rfl, rfl⟩
  | true =>
  rw [him] at HI HM
  clear him
  by_cases h4 : 4 < m.length
  · have h4i : (4 : Int) < (m.length : Int) := by omega
    have HF := Lib.hid (show R = false from by rw [HM.out, show decide (m.length ≤ 4) = false from decide_eq_false (by omega)]; rfl)
    clear HM HT
    go_enter Try.func106, Try.ntmps106
    go_wp2_with fail
    (with_reducible refine HI.out.mono ?_)
    rintro e w0 ⟨rfl, rfl⟩
    go_wp2
    go_ret
    exact ⟨by rw [HF.out]; rfl, rfl⟩
  have h4i : ¬ ((4 : Int) < (m.length : Int)) := by omega
  have HR := Lib.hid (show R = (m.drop 0).all (fun r => r.all nineOk) from by rw [HM.out, show decide (m.length ≤ 4) = true from decide_eq_true (by omega)]; rfl)
  clear HM
  obtain ⟨n, hn⟩ : ∃ n, n = m.length := ⟨_, rfl⟩
  have Hn := Lib.hid hn
  have HT' := Lib.hid (show Tab w (.slice va n vc) m from by rw [hn]; exact HT.out)
  have hn4 : n ≤ 4 := by omega
  rw [← hn] at h4i hlen HI ⊢
  clear HT hn h4
  go_enter Try.func106, Try.ntmps106
  go_wp2_with fail
  (with_reducible refine HI.out.mono ?_)
  rintro e w0 ⟨rfl, rfl⟩
  go_wp2
  go_loopg [17] n (fun g i wr => ∃ (k : Nat), i = .int .i64 k ∧ k + g = n ∧ Hid (R = (m.drop k).all (fun r => r.all nineOk)) ∧ wr = w)
  case atStart => exact ⟨0, rfl, by omega, HR, rfl⟩
  case round =>
    clear HR
    obtain ⟨k, rfl, hk, HR, rfl⟩ := hrel
    by_cases hkn : k < n
    · have hki : (k : Int) < (n : Int) := by omega
      obtain ⟨g, rfl⟩ : ∃ x, gk = x + 1 := ⟨gk - 1, by omega⟩
      obtain ⟨row, hrow, -⟩ := at_lt (xs := m) (k := k) (by have := Hn.out; omega)
      obtain ⟨b, o, c, ra, rc, hv, -, g1, hri⟩ := HT'.out.rowOf hrow
      simp only [Value.slice.injEq] at hv
      obtain ⟨rfl, -, rfl⟩ := hv
      have HR1 := Lib.hid (show R = ((row.drop 0).all nineOk && (m.drop (k + 1)).all (fun r => r.all nineOk)) from by rw [HR.out, all_drop hrow]; rfl)
      have hrl := hri.len
      obtain ⟨rn, hrn⟩ : ∃ n, n = row.length := ⟨_, rfl⟩
      have Hrn := Lib.hid hrn
      rw [← hrn] at g1 hri hrl
      have Hri := Lib.hid hri
      clear hrow hri HR hrn
      go_wp2
      go_loopg [23] rn (fun g2 i wr2 => ∃ (j : Nat), i = .int .i64 j ∧ j + g2 = rn ∧ Hid (R = ((row.drop j).all nineOk && (m.drop (k + 1)).all (fun r => r.all nineOk))) ∧ wr2 = wr)
      case atStart => exact ⟨0, rfl, by omega, HR1, rfl⟩
      case round =>
        clear HR1 g1
        obtain ⟨j, rfl, hj, HR, rfl⟩ := hrel
        by_cases hjn : j < rn
        · have hji : (j : Int) < (rn : Int) := by omega
          obtain ⟨g2, rfl⟩ : ∃ x, gk = x + 1 := ⟨gk - 1, by omega⟩
          obtain ⟨x, hx, -⟩ := at_lt (xs := row) (k := j) (by have := Hrn.out; omega)
          obtain ⟨b2, o2, c2, hv, -, g2'⟩ := Hri.out.elOf hx
          simp only [Value.slice.injEq] at hv
          obtain ⟨rfl, -, rfl⟩ := hv
          have HR1 := Lib.hid (show R = ((nineOk x && (row.drop (j + 1)).all nineOk) && (m.drop (k + 1)).all (fun r => r.all nineOk)) from by rw [HR.out, all_drop hx])
          clear hx HR
          by_cases h9 : 9 < x
          · have HF := Lib.hid (show R = false from by rw [HR1.out, show nineOk x = false from decide_eq_false (by omega)]; rfl)
            clear HR1
            go_wp2
            go_ret
            exact ⟨by rw [HF.out]; rfl, rfl⟩
          · have HF := Lib.hid (show R = ((row.drop (j + 1)).all nineOk && (m.drop (k + 1)).all (fun r => r.all nineOk)) from by rw [HR1.out, show nineOk x = true from decide_eq_true (by omega)]; rfl)
            clear HR1
            go_wp2
            go_roundg g2
            case measure => omega
            case rel => exact ⟨j + 1, by go_num, by omega, HF, rfl⟩
        · have hji : ¬ ((j : Int) < (rn : Int)) := by omega
          have HF := Lib.hid (show R = (m.drop (k + 1)).all (fun r => r.all nineOk) from by rw [HR.out, drop_len (by have := Hrn.out; omega)]; rfl)
          clear HR
          go_wp2
          go_roundg g
          case measure => omega
          case rel => exact ⟨k + 1, by go_num, by omega, HF, rfl⟩
    · have hki : ¬ ((k : Int) < (n : Int)) := by omega
      have HF := Lib.hid (show R = true from by rw [HR.out, drop_len (by have := Hn.out; omega)]; rfl)
      clear HR
      go_wp2
      go_ret
      exact ⟨by rw [HF.out]; rfl, rfl⟩
set_option maxHeartbeats 1000000 in
set_option maxRecDepth 100000 in
theorem spec_IsSmall_c {w : World} {v : Value} {m : List (List Int)} (h : Tab w v m) :
    Calls Try.prog 104 #[v] w fun e w' => e = .returned (.bool (smallM m)) ∧ w' = w := by
  have HI := Lib.hid (spec_IsMatrix_c h)
  have HT := Lib.hid h
  obtain ⟨va, vc, rfl, -⟩ := h.shape
  have hlen := h.len
  have HM := Lib.hid (show smallM m = (isMat m && (decide (m.length ≤ 4) && nines m)) from rfl)
  generalize smallM m = R at HM ⊢
  obtain ⟨N, hN⟩ : ∃ N, N = nines m := ⟨_, rfl⟩
  rw [← hN] at HM
  have HR := Lib.hid (show N = (m.drop 0).all (fun r => r.all nineOk) from hN)
  clear h hN
  obtain ⟨n, hn⟩ : ∃ n, n = m.length := ⟨_, rfl⟩
  have Hn := Lib.hid hn
  have HT' := Lib.hid (show Tab w (.slice va n vc) m from by rw [hn]; exact HT.out)
  generalize isMat m = im at HI HM
  rw [← hn] at hlen HI HM ⊢
  clear HT hn
  go_enter Try.func104, Try.ntmps104
  go_wp2
  go_loopg [3] n (fun g i wr => ∃ (k : Nat), i = .int .i64 k ∧ k + g = n ∧ Hid (N = (m.drop k).all (fun r => r.all nineOk)) ∧ wr = w)
  case atStart => exact ⟨0, rfl, by omega, HR, rfl⟩
  case round =>
    clear HR
    obtain ⟨k, rfl, hk, HR, rfl⟩ := hrel
    by_cases hkn : k < n
    · have hki : (k : Int) < (n : Int) := by omega
      obtain ⟨g, rfl⟩ : ∃ x, gk = x + 1 := ⟨gk - 1, by omega⟩
      obtain ⟨row, hrow, -⟩ := at_lt (xs := m) (k := k) (by have := Hn.out; omega)
      obtain ⟨b, o, c, ra, rc, hv, -, g1, hri⟩ := HT'.out.rowOf hrow
      simp only [Value.slice.injEq] at hv
      obtain ⟨rfl, -, rfl⟩ := hv
      have HR1 := Lib.hid (show N = ((row.drop 0).all nineOk && (m.drop (k + 1)).all (fun r => r.all nineOk)) from by rw [HR.out, all_drop hrow]; rfl)
      have hrl := hri.len
      obtain ⟨rn, hrn⟩ : ∃ n, n = row.length := ⟨_, rfl⟩
      have Hrn := Lib.hid hrn
      rw [← hrn] at g1 hri hrl
      have Hri := Lib.hid hri
      clear hrow hri HR hrn
      go_wp2
      go_loopg [4] rn (fun g2 i wr2 => ∃ (j : Nat), i = .int .i64 j ∧ j + g2 = rn ∧ Hid (N = ((row.drop j).all nineOk && (m.drop (k + 1)).all (fun r => r.all nineOk))) ∧ wr2 = wr)
      case atStart => exact ⟨0, rfl, by omega, HR1, rfl⟩
      case round =>
        clear HR1
        obtain ⟨j, rfl, hj, HR, rfl⟩ := hrel
        by_cases hjn : j < rn
        · have hji : (j : Int) < (rn : Int) := by omega
          obtain ⟨g2, rfl⟩ : ∃ x, gk = x + 1 := ⟨gk - 1, by omega⟩
          obtain ⟨x, hx, -⟩ := at_lt (xs := row) (k := j) (by have := Hrn.out; omega)
          obtain ⟨b2, o2, c2, hv, -, g2'⟩ := Hri.out.elOf hx
          simp only [Value.slice.injEq] at hv
          obtain ⟨rfl, -, rfl⟩ := hv
          have HR1 := Lib.hid (show N = ((nineOk x && (row.drop (j + 1)).all nineOk) && (m.drop (k + 1)).all (fun r => r.all nineOk)) from by rw [HR.out, all_drop hx])
          clear hx HR
          by_cases h9 : 9 < x
          · have HF := Lib.hid (show R = false from by rw [HM.out, HR1.out, show nineOk x = false from decide_eq_false (by omega)]; simp)
            clear HR1 HM HI
            go_wp2
            go_ret
            exact ⟨by rw [HF.out]; rfl, rfl⟩
          · have HF := Lib.hid (show N = ((row.drop (j + 1)).all nineOk && (m.drop (k + 1)).all (fun r => r.all nineOk)) from by rw [HR1.out, show nineOk x = true from decide_eq_true (by omega)]; rfl)
            clear HR1
            go_wp2
            go_roundg g2
            case measure => omega
            case rel => exact ⟨j + 1, by go_num, by omega, HF, rfl⟩
        · have hji : ¬ ((j : Int) < (rn : Int)) := by omega
          have HF := Lib.hid (show N = (m.drop (k + 1)).all (fun r => r.all nineOk) from by rw [HR.out, drop_len (by have := Hrn.out; omega)]; rfl)
          clear HR
          go_wp2
          go_roundg g
          case measure => omega
          case rel => exact ⟨k + 1, by go_num, by omega, HF, rfl⟩
    · have hki : ¬ ((k : Int) < (n : Int)) := by omega
      have HF := Lib.hid (show R = (im && decide (n ≤ 4)) from by rw [HM.out, HR.out, drop_len (by have := Hn.out; omega)]; simp)
      clear HR HM
      go_wp2_with fail
      (with_reducible refine HI.out.mono ?_)
      rintro e w0 ⟨rfl, rfl⟩
      cases im with
      | false =>
        go_wp2
        go_ret
        exact ⟨by rw [HF.out]; rfl, rfl⟩
      | true =>
        go_wp2
        go_ret
        exact ⟨by rw [HF.out, show (true && decide (n ≤ 4)) = decide ((n : Int) ≤ 4) from by rw [Bool.true_and]; exact decide_eq_decide.2 (by omega)]; rfl, rfl⟩
end Go.Proofs.Ytdohepngandajaa
