/-
  Texts of this claim joined: laws for its walks, contracts of the functions that the law reaches.
-/
import Derived.Test.YtcilgihmaaobeaaDoorRows
import Derived.Test.YtcilgihmaaobeaaDoorFnSyncM1
import Derived.Test.YtcilgihmaaobeaaDoorFnSyncM8
import Derived.Test.YtcilgihmaaobeaaDoorFnSyncM10
import Derived.IntWalk
import Derived.BigQuiet
import Derived.Laws.DeepStrings4
import Derived.Test.YtcilgihmaaobeaaDoorFnSyncM2
import Derived.Test.YtcilgihmaaobeaaDoorFnSyncM6
import Derived.Test.YtcilgihmaaobeaaDoorFnSyncM4
import Derived.Test.YtcilgihmaaobeaaDoorFnSyncM7
set_option linter.unusedVariables false
set_option linter.unusedSimpArgs false
section
namespace Go.Proofs.YtcilgihmaaobeaaDoor
open Go.RowKit Go.Deep Go.Sd
set_option linter.unusedSimpArgs false
/-- A word of two letters. -/
def Two (u : List Nat) : Prop := ∃ a b, u = [a, b] ∧ a < 3 ∧ b < 3
theorem byte_of {a : Nat} (h : a < 3) : (UInt8.ofNat (97 + a)).toNat = 97 + a := by
  rw [UInt8.toNat_ofNat']
  omega
/-- What the walks read of a word of two letters. -/
theorem Two.facts {u : List Nat} (h : Two u) : (wordT u).size = 2 ∧ (∀ h, ((wordT u)[0]'h).toNat = 97 + u.getD 0 0) ∧ (∀ h, ((wordT u)[1]'h).toNat = 97 + u.getD 1 0) ∧ (wordT u).extract 1 2 = wordT (u.drop 1) ∧ (wordT u).extract 0 2 = wordT u := by
  obtain ⟨a, b, rfl, ha, hb⟩ := h
  refine ⟨rfl, fun _ => byte_of ha, fun _ => byte_of hb, ?_, ?_⟩
  · apply ByteArray.ext
    apply Array.toList_inj.1
    rw [extract_list]
    rfl
  · apply ByteArray.ext
    apply Array.toList_inj.1
    rw [extract_list]
    rfl
theorem wordT_append (u v : List Nat) : wordT u ++ wordT v = wordT (u ++ v) := by
  apply ByteArray.ext
  apply Array.toList_inj.1
  simp [wordT]
theorem avo_q {w : World} {v : Value} {F : List ByteArray} {s : ByteArray} (h : TsR w v F) (hs : s.size ≤ 1000) (hf : ∀ f, f ∈ F → f.size ≤ 1048576) :
    Calls Tryd.prog 88 #[v, .string s] w (Reads w (.bool (avoM F s))) :=
  (l3Avoids_c h hs hf).mono fun _ _ h => ⟨h.1, by rw [← h.2]; exact Drawn.refl _⟩
theorem two_add' {u v : ByteArray} (hu : u.size = 2) (hv : v.size = 1) : ¬ u.size + v.size > 9223372036854775807 := by omega
theorem _root_.Go.Sd.SlOf.dn' {w : World} {v : Value} {xs : List ByteArray} (h : TsR w v xs) (n : Nat) : TsR (w.drewN n) v xs := TsR.frame _ _ _ _ h (below_drewN (Below.refl _ _) n)
set_option maxHeartbeats 2000000 in
set_option maxRecDepth 100000 in
theorem l3GoesT_c {w : World} {vs vl : Value} {z : Sh} {out : List (List Nat)} {u : List Nat} (hz : ShR w vs z) (hf : ∀ f, f ∈ z.2 → f.size ≤ 1048576) (hl : TsR w vl (out.map wordT)) (hu : Two u) (ho : ∀ v, v ∈ out → Two v) :
    Calls Tryd.prog 98 #[vs, vl, .string (wordT u), .bool true] w fun e w' => e = .returned (.bool (out.any fun v => goesB z.2 u v)) ∧ Below w.heap.size w w' := by
  obtain ⟨L, F⟩ := z
  obtain ⟨va, rfl, ht⟩ := hz
  simp only at ht hf
  obtain ⟨w0, e0, hb0, c0, c1, m0⟩ := boxA_ex w 92 (.int .i64 L) va
  have HFr := Lib.hid (TsR.frame _ _ _ _ ht hb0)
  have hl0 := TsR.frame _ _ _ _ hl hb0
  have HB := Lib.hid hb0
  have Ho := Lib.hid ho
  have Hf := Lib.hid hf
  have hlen := hl0.len
  obtain ⟨a, c, rfl, -, -, hcell⟩ := hl0.shape
  rw [List.length_map] at hcell hlen
  obtain ⟨va1, va2, rfl, -⟩ := HFr.out.shape
  generalize hfl : F.length = fl at c1 e0 HFr ⊢
  have Hfl := Lib.hid hfl
  have HT := Lib.hid (fun (k : Nat) (v : List Nat) (h : out[k]? = some v) (h2 : goesB F u v = true) => (show (out.any fun v => goesB F u v) = true from List.any_eq_true.2 ⟨v, List.mem_of_getElem? h, h2⟩))
  have HN := Lib.hid (fun (h : ∀ (k : Nat) (v : List Nat), out[k]? = some v → (goesB F u v) = false) => (show (out.any fun v => goesB F u v) = false from by
    rw [List.any_eq_false]
    intro v hv
    obtain ⟨k, hk⟩ := List.getElem?_of_mem hv
    rw [h k v hk]
    decide))
  have HG := Lib.hid (fun (v : List Nat) => (show (goesB F u v) = (decide (u.getD 1 0 = v.getD 0 0) && avoM F (wordT (u ++ v.drop 1))) from rfl))
  generalize (out.any fun v => goesB F u v) = T at HT HN ⊢
  obtain ⟨n, hn⟩ : ∃ n, n = out.length := ⟨_, rfl⟩
  have Hn := Lib.hid hn
  rw [List.length_map, ← hn]
  rw [← hn] at hcell hlen
  have Hcell := Lib.hid hcell
  obtain ⟨hus, hu0, hu1, hue, -⟩ := hu.facts
  obtain ⟨su, hsu⟩ : ∃ x, x = wordT u := ⟨_, rfl⟩
  obtain ⟨ui, hui⟩ : ∃ x, x = 97 + u.getD 1 0 := ⟨_, rfl⟩
  have Hui := Lib.hid hui
  rw [← hui] at hu1
  rw [← hsu] at hus hu0 hu1 hue ⊢
  have Hsu := Lib.hid hsu
  have Hue := Lib.hid hue
  clear hcell hn ht hl hl0 hf hfl ho hb0 hsu hui hue
  go_enter Tryd.func98, Tryd.ntmps98
  go_wp2
  go_loopg [9] n (fun g i wr => ∃ (j : Nat), i = .int .i64 j ∧ j + g = n ∧ Hid (∀ (k : Nat) (v : List Nat), k < j → out[k]? = some v → (goesB F u v) = false) ∧ Drawn w0 wr)
  case atStart => exact ⟨0, rfl, by omega, Lib.hid (fun k v hk => absurd hk (Nat.not_lt_zero _)), Drawn.refl _⟩
  case round =>
    obtain ⟨j, rfl, hj, HK, hdr⟩ := hrel
    by_cases h1 : j < n
    · have h1i : (j : Int) < (n : Int) := by omega
      obtain ⟨g, rfl⟩ : ∃ x, gk = x + 1 := ⟨gk - 1, by omega⟩
      obtain ⟨b, o, rfl, -, hx⟩ := Hcell.out (by omega)
      obtain ⟨v, hv, -⟩ := at_lt (xs := out) (k := j) (by rw [← Hn.out]; exact h1)
      obtain ⟨y, hy, hy2⟩ := hx j (wordT v) (by rw [List.getElem?_map, hv]; rfl)
      have hy2' : y = .string (wordT v) := hy2
      subst hy2'
      rw [← hdr.cell] at c0 c1 hy
      obtain ⟨hvs, hv0, hv1, hve, -⟩ := (Ho.out v (List.mem_of_getElem? hv)).facts
      obtain ⟨sv, hsv⟩ : ∃ x, x = wordT v := ⟨_, rfl⟩
      obtain ⟨vi, hvi⟩ : ∃ x, x = 97 + v.getD 0 0 := ⟨_, rfl⟩
      have Hvi := Lib.hid hvi
      rw [← hvi] at hv0
      rw [← hsv] at hvs hv0 hv1 hve hy
      have Hsv := Lib.hid hsv
      have Hve := Lib.hid hve
      have hex : (sv).extract 1 (sv).size = (sv).extract 1 2 := by rw [hvs]
      have hes : ((sv).extract 1 2).size = 1 := by rw [ByteArray.size_extract, hvs]; rfl
      have HA := Lib.hid (fun (wb : World) (hd : Drawn w0 wb) (m : Nat) => Reads.quiet (avo_q (s := su ++ sv.extract 1 2) ((hd.read TsR.frame HFr.out).dn' m) (by rw [ByteArray.size_append, hes, hus]; omega) Hf.out))
      have hcat : (su ++ sv.extract 1 2) = (wordT (u ++ v.drop 1)) := by rw [Hve.out, Hsu.out, wordT_append]
      have hcatA : avoM F (su ++ sv.extract 1 2) = avoM F (wordT (u ++ v.drop 1)) := by rw [hcat]
      clear hcat
      have hnx : (goesB F u v) = false → Hid (∀ (k : Nat) (v : List Nat), k < j + 1 → out[k]? = some v → (goesB F u v) = false) := fun hg => Lib.hid fun k v' hk hv' => by
        by_cases e : k = j
        · rw [e, hv] at hv'
          cases hv'
          exact hg
        · exact HK.out k v' (by omega) hv'
      have hyes : (goesB F u v) = true → Hid (T = true) := fun hg => Lib.hid (HT.out j v hv hg)
      have hgv := HG.out v
      clear hx hv hy2 hsv hvi hve
      have hs0 : ¬ (su).size + ((sv).extract 1 2).size > 9223372036854775807 := two_add' (hus) hes
      by_cases hq : u.getD 1 0 = v.getD 0 0
      · have t0 : vi = ui := by rw [Hvi.out, Hui.out, hq]
        have t1 : ((vi : Int) == (ui : Int)) = true := by rw [t0]; simp
        clear t0
        rw [decide_eq_true hq, Bool.true_and] at hgv
        cases hav : avoM F (wordT (u ++ v.drop 1)) with
        | true =>
          have hT := hyes (by rw [hgv, hav])
          rw [hcatA, hav] at HA
          clear hgv hav hyes hnx HK hcatA
          go_wp2
          go_quiet ((go_at_call 88; refine HA.out _ ?_ _; first | exact hdq | exact hdr))
          go_wp2
          go_ret
          exact ⟨by rw [hT.out]; rfl, HB.out.trans ((hdr.drewN _).below _)⟩
        | false =>
          have hK2 := hnx (by rw [hgv, hav])
          rw [hcatA, hav] at HA
          clear hgv hav hyes hnx HK hcatA
          go_wp2
          go_quiet ((go_at_call 88; refine HA.out _ ?_ _; first | exact hdq | exact hdr))
          go_wp2
          go_quiet (fail)
          go_wp2
          go_roundg g
          case measure => omega
          case rel => exact ⟨j + 1, by go_num, by omega, hK2, hdr.drewN _⟩
      · have t1 : ((vi : Int) == (ui : Int)) = false := by
          have : vi ≠ ui := by rw [Hvi.out, Hui.out]; omega
          simp; omega
        rw [decide_eq_false hq, Bool.false_and] at hgv
        have hK2 := hnx hgv
        clear hgv hyes hnx HK HA hcatA
        go_wp2
        go_quiet (fail)
        go_wp2
        go_quiet (fail)
        go_wp2
        go_roundg g
        case measure => omega
        case rel => exact ⟨j + 1, by go_num, by omega, hK2, hdr.drewN _⟩
    · have h1i : ¬ (j : Int) < (n : Int) := by omega
      have hT := Lib.hid (HN.out fun k v hk => HK.out k v (by have := (List.getElem?_eq_some_iff.1 hk).1; rw [← Hn.out] at this; omega) hk)
      clear HK
      go_wp2
      go_ret
      exact ⟨by rw [hT.out]; rfl, HB.out.trans (hdr.below _)⟩
set_option maxHeartbeats 2000000 in
set_option maxRecDepth 100000 in
theorem l3GoesF_c {w : World} {vs vl : Value} {z : Sh} {out : List (List Nat)} {u : List Nat} (hz : ShR w vs z) (hf : ∀ f, f ∈ z.2 → f.size ≤ 1048576) (hl : TsR w vl (out.map wordT)) (hu : Two u) (ho : ∀ v, v ∈ out → Two v) :
    Calls Tryd.prog 98 #[vs, vl, .string (wordT u), .bool false] w fun e w' => e = .returned (.bool (out.any fun v => goesB z.2 v u)) ∧ Below w.heap.size w w' := by
  obtain ⟨L, F⟩ := z
  obtain ⟨va, rfl, ht⟩ := hz
  simp only at ht hf
  obtain ⟨w0, e0, hb0, c0, c1, m0⟩ := boxA_ex w 92 (.int .i64 L) va
  have HFr := Lib.hid (TsR.frame _ _ _ _ ht hb0)
  have hl0 := TsR.frame _ _ _ _ hl hb0
  have HB := Lib.hid hb0
  have Ho := Lib.hid ho
  have Hf := Lib.hid hf
  have hlen := hl0.len
  obtain ⟨a, c, rfl, -, -, hcell⟩ := hl0.shape
  rw [List.length_map] at hcell hlen
  obtain ⟨va1, va2, rfl, -⟩ := HFr.out.shape
  generalize hfl : F.length = fl at c1 e0 HFr ⊢
  have Hfl := Lib.hid hfl
  have HT := Lib.hid (fun (k : Nat) (v : List Nat) (h : out[k]? = some v) (h2 : goesB F v u = true) => (show (out.any fun v => goesB F v u) = true from List.any_eq_true.2 ⟨v, List.mem_of_getElem? h, h2⟩))
  have HN := Lib.hid (fun (h : ∀ (k : Nat) (v : List Nat), out[k]? = some v → (goesB F v u) = false) => (show (out.any fun v => goesB F v u) = false from by
    rw [List.any_eq_false]
    intro v hv
    obtain ⟨k, hk⟩ := List.getElem?_of_mem hv
    rw [h k v hk]
    decide))
  have HG := Lib.hid (fun (v : List Nat) => (show (goesB F v u) = (decide (v.getD 1 0 = u.getD 0 0) && avoM F (wordT (v ++ u.drop 1))) from rfl))
  generalize (out.any fun v => goesB F v u) = T at HT HN ⊢
  obtain ⟨n, hn⟩ : ∃ n, n = out.length := ⟨_, rfl⟩
  have Hn := Lib.hid hn
  rw [List.length_map, ← hn]
  rw [← hn] at hcell hlen
  have Hcell := Lib.hid hcell
  obtain ⟨hus, hu0, hu1, hue, -⟩ := hu.facts
  obtain ⟨su, hsu⟩ : ∃ x, x = wordT u := ⟨_, rfl⟩
  obtain ⟨ui, hui⟩ : ∃ x, x = 97 + u.getD 0 0 := ⟨_, rfl⟩
  have Hui := Lib.hid hui
  rw [← hui] at hu0
  rw [← hsu] at hus hu0 hu1 hue ⊢
  have Hsu := Lib.hid hsu
  have Hue := Lib.hid hue
  clear hcell hn ht hl hl0 hf hfl ho hb0 hsu hui hue
  go_enter Tryd.func98, Tryd.ntmps98
  go_wp2
  go_loopg [9] n (fun g i wr => ∃ (j : Nat), i = .int .i64 j ∧ j + g = n ∧ Hid (∀ (k : Nat) (v : List Nat), k < j → out[k]? = some v → (goesB F v u) = false) ∧ Drawn w0 wr)
  case atStart => exact ⟨0, rfl, by omega, Lib.hid (fun k v hk => absurd hk (Nat.not_lt_zero _)), Drawn.refl _⟩
  case round =>
    obtain ⟨j, rfl, hj, HK, hdr⟩ := hrel
    by_cases h1 : j < n
    · have h1i : (j : Int) < (n : Int) := by omega
      obtain ⟨g, rfl⟩ : ∃ x, gk = x + 1 := ⟨gk - 1, by omega⟩
      obtain ⟨b, o, rfl, -, hx⟩ := Hcell.out (by omega)
      obtain ⟨v, hv, -⟩ := at_lt (xs := out) (k := j) (by rw [← Hn.out]; exact h1)
      obtain ⟨y, hy, hy2⟩ := hx j (wordT v) (by rw [List.getElem?_map, hv]; rfl)
      have hy2' : y = .string (wordT v) := hy2
      subst hy2'
      rw [← hdr.cell] at c0 c1 hy
      obtain ⟨hvs, hv0, hv1, hve, -⟩ := (Ho.out v (List.mem_of_getElem? hv)).facts
      obtain ⟨sv, hsv⟩ : ∃ x, x = wordT v := ⟨_, rfl⟩
      obtain ⟨vi, hvi⟩ : ∃ x, x = 97 + v.getD 1 0 := ⟨_, rfl⟩
      have Hvi := Lib.hid hvi
      rw [← hvi] at hv1
      rw [← hsv] at hvs hv0 hv1 hve hy
      have Hsv := Lib.hid hsv
      have Hve := Lib.hid hve
      have hex : (su).extract 1 (su).size = (su).extract 1 2 := by rw [hus]
      have hes : ((su).extract 1 2).size = 1 := by rw [ByteArray.size_extract, hus]; rfl
      have HA := Lib.hid (fun (wb : World) (hd : Drawn w0 wb) (m : Nat) => Reads.quiet (avo_q (s := sv ++ su.extract 1 2) ((hd.read TsR.frame HFr.out).dn' m) (by rw [ByteArray.size_append, hes, hvs]; omega) Hf.out))
      have hcat : (sv ++ su.extract 1 2) = (wordT (v ++ u.drop 1)) := by rw [Hue.out, Hsv.out, wordT_append]
      have hcatA : avoM F (sv ++ su.extract 1 2) = avoM F (wordT (v ++ u.drop 1)) := by rw [hcat]
      clear hcat
      have hnx : (goesB F v u) = false → Hid (∀ (k : Nat) (v : List Nat), k < j + 1 → out[k]? = some v → (goesB F v u) = false) := fun hg => Lib.hid fun k v' hk hv' => by
        by_cases e : k = j
        · rw [e, hv] at hv'
          cases hv'
          exact hg
        · exact HK.out k v' (by omega) hv'
      have hyes : (goesB F v u) = true → Hid (T = true) := fun hg => Lib.hid (HT.out j v hv hg)
      have hgv := HG.out v
      clear hx hv hy2 hsv hvi hve
      have hs0 : ¬ (sv).size + ((su).extract 1 2).size > 9223372036854775807 := two_add' (hvs) hes
      by_cases hq : v.getD 1 0 = u.getD 0 0
      · have t0 : vi = ui := by rw [Hvi.out, Hui.out, hq]
        have t1 : ((vi : Int) == (ui : Int)) = true := by rw [t0]; simp
        clear t0
        rw [decide_eq_true hq, Bool.true_and] at hgv
        cases hav : avoM F (wordT (v ++ u.drop 1)) with
        | true =>
          have hT := hyes (by rw [hgv, hav])
          rw [hcatA, hav] at HA
          clear hgv hav hyes hnx HK hcatA
          go_wp2
          go_quiet (fail)
          rename_i nq
          have hdq := hdr.drewN nq
          have c0q : (wr.drewN nq).cell? ⟨w.heap.size, 0, none⟩ = _ := c0
          have c1q : (wr.drewN nq).cell? ⟨w.heap.size, 1, none⟩ = _ := c1
          have hyq : (wr.drewN nq).cell? ⟨b, o + j, none⟩ = _ := hy
          generalize wr.drewN nq = wq at hdq c0q c1q hyq ⊢
          go_wp2
          go_quiet ((go_at_call 88; refine HA.out _ ?_ _; first | exact hdq | exact hdr))
          go_wp2
          go_ret
          exact ⟨by rw [hT.out]; rfl, HB.out.trans ((hdq.drewN _).below _)⟩
        | false =>
          have hK2 := hnx (by rw [hgv, hav])
          rw [hcatA, hav] at HA
          clear hgv hav hyes hnx HK hcatA
          go_wp2
          go_quiet (fail)
          rename_i nq
          have hdq := hdr.drewN nq
          have c0q : (wr.drewN nq).cell? ⟨w.heap.size, 0, none⟩ = _ := c0
          have c1q : (wr.drewN nq).cell? ⟨w.heap.size, 1, none⟩ = _ := c1
          have hyq : (wr.drewN nq).cell? ⟨b, o + j, none⟩ = _ := hy
          generalize wr.drewN nq = wq at hdq c0q c1q hyq ⊢
          go_wp2
          go_quiet ((go_at_call 88; refine HA.out _ ?_ _; first | exact hdq | exact hdr))
          go_wp2
          go_roundg g
          case measure => omega
          case rel => exact ⟨j + 1, by go_num, by omega, hK2, hdq.drewN _⟩
      · have t1 : ((vi : Int) == (ui : Int)) = false := by
          have : vi ≠ ui := by rw [Hvi.out, Hui.out]; omega
          simp; omega
        rw [decide_eq_false hq, Bool.false_and] at hgv
        have hK2 := hnx hgv
        clear hgv hyes hnx HK HA hcatA
        go_wp2
        go_quiet (fail)
        go_wp2
        go_quiet (fail)
        go_wp2
        go_roundg g
        case measure => omega
        case rel => exact ⟨j + 1, by go_num, by omega, hK2, hdr.drewN _⟩
    · have h1i : ¬ (j : Int) < (n : Int) := by omega
      have hT := Lib.hid (HN.out fun k v hk => HK.out k v (by have := (List.getElem?_eq_some_iff.1 hk).1; rw [← Hn.out] at this; omega) hk)
      clear HK
      go_wp2
      go_ret
      exact ⟨by rw [hT.out]; rfl, HB.out.trans (hdr.below _)⟩
end Go.Proofs.YtcilgihmaaobeaaDoor
end

section
namespace Go.Proofs.YtcilgihmaaobeaaDoor
open Go.RowKit Go.Deep Go.Sd
set_option linter.unusedSimpArgs false
set_option maxHeartbeats 400000 in
theorem powerK_c {w : World} {L e : Nat} (hL : L ≤ 3) (he : e ≤ 6) :
    Calls Tryd.prog 72 #[.int .i64 L, .int .i64 e] w fun x w' => x = .returned (.int .i64 ((L ^ e : Nat) : Int)) ∧ w = w' := by
  have HL := Lib.hid hL
  go_enter Tryd.func72, Tryd.ntmps72
  go_wp2
  go_loopg [5, 7] e (fun g v i wr => ∃ (k z : Nat), i = .int .i64 k ∧ v = .int .i64 z ∧ k + g = e ∧ Hid (z = L ^ k) ∧ w = wr)
  case atStart => exact ⟨0, 1, rfl, rfl, by omega, Lib.hid rfl, rfl⟩
  case round =>
    obtain ⟨k, z, rfl, rfl, hk, hz, rfl⟩ := hrel
    by_cases hlt : k < e
    · have hz1 : z ≤ 729 := by rw [hz.out]; exact pow_le HL.out (by omega)
      have hz2 : z * L ≤ 729 := by rw [hz.out, ← Nat.pow_succ]; exact pow_le HL.out (by omega)
      have hz3 : wrap64 ((z : Int) * (L : Int)) = ((z * L : Nat) : Int) := by rw [← Int.natCast_mul]; exact IntWalk.wrap64_in _ (by omega)
      have R := Lib.hid (show z * L = L ^ (k + 1) from by rw [hz.out, Nat.pow_succ])
      clear hz
      generalize z * L = zz at hz2 hz3 R
      go_wp2
      go_roundg (e - (k + 1))
      case measure => omega
      case rel => exact ⟨k + 1, zz, by go_num, by first | rfl | rw [hz3], by omega, R, rfl⟩
    · have E := Lib.hid (show z = L ^ e from by rw [hz.out]; congr 1; omega)
      clear hz
      go_wp2
      go_ret
      exact ⟨by rw [E.out]; rfl, rfl⟩
theorem SlOf.comap {α β : Type} {f : β → Value} {h : α → β} {w : World} {v : Value} {xs : List α} (hs : SlOf (ValR f) w v (xs.map h)) : SlOf (ValR fun x => f (h x)) w v xs := by
  obtain ⟨us, h1, h2, h3⟩ := hs
  exact ⟨us, h1, by simpa using h2, fun i u x hu hx => h3 i u (h x) hu (by rw [List.getElem?_map, hx]; rfl)⟩
set_option maxHeartbeats 2000000 in
set_option maxRecDepth 100000 in
theorem wordAt_c {w : World} {L n i : Nat} (hL0 : 0 < L) (hL : L ≤ 3) (hn : n ≤ 6) (hi : i < 1000) :
    Calls Tryd.prog 73 #[.int .i64 L, .int .i64 n, .int .i64 i] w fun e w' => e = .returned (.string (wordT (wordD L n i))) ∧ Below w.heap.size w w' := by
  obtain ⟨D, hD⟩ : ∃ D, D = wordD L n i := ⟨_, rfl⟩
  rw [← hD]
  have HD0 := Lib.hid (show D.take n = wordD L n i from by rw [hD]; exact List.take_of_length_le (by rw [wordD_len]; exact Nat.le_refl _))
  have HDl := Lib.hid (show D.length = n from by rw [hD]; exact wordD_len _ _ _)
  have HDx := Lib.hid (show ∀ x, x ∈ D → x < 3 from fun x hx => by rw [hD] at hx; have := wordD_lt hL0 n i x hx; omega)
  have HL := Lib.hid hL
  clear hD
  go_enter Tryd.func73, Tryd.ntmps73
  go_wp2_with (first
    | (at_make; refine wpl_make (R := OValR (Value.int .u8)) rfl (.tmp 9) (.tmp 9) 22 rfl 5 (.int .u8 0) 1 Tryd.underlying22 infoB8 rfl n (by rfl) (by rfl) (by omega) (by omega) (d := (0 : Int)) (fun _ => ⟨rfl, rfl⟩) ?_; intro w1 hz1 hn1 hb1; have Hz1 := Lib.hid hz1; have Hn1 := Lib.hid hn1; have Hb1 := Lib.hid hb1; clear hz1 hn1 hb1)
    | fail)
  have HN0 := Lib.hid (show New (OwnOf 5 (OValR (Value.int .u8))) w.heap.size w1 (.slice (some ⟨w.heap.size, 0, none⟩) n n) (List.replicate n 0 ++ (D.drop n).map fun x : Nat => 97 + (x : Int)) from by
    rw [List.drop_of_length_le (by rw [HDl.out]; exact Nat.le_refl _)]
    simpa using Hn1.out)
  clear Hz1 Hn1
  go_loopg [2, 8] n (fun g vi v8 wr => ∃ (j : Nat), vi = .int .i64 j ∧ v8 = .int .i64 ((g : Int) - 1) ∧ g ≤ n ∧ j < 1000 ∧ Hid (D.take g = wordD L g j) ∧ Hid (New (OwnOf 5 (OValR (Value.int .u8))) w.heap.size wr (.slice (some ⟨w.heap.size, 0, none⟩) n n) (List.replicate g 0 ++ (D.drop g).map fun x : Nat => 97 + (x : Int))) ∧ Hid (Below w.heap.size w wr))
  case atStart => exact ⟨i, rfl, by first | rfl | (congr 1), Nat.le_refl _, hi, HD0, HN0, Hb1⟩
  case round =>
    clear HD0 HN0 Hb1
    obtain ⟨j, rfl, rfl, hg, hj, HT, HN, HB⟩ := hrel
    cases gk with
    | zero =>
      have hcv := conv_word (w := wr) Tryd.underlying22 Tryd.underlying5 Tryd.underlying9 (wd := D) (a := some ⟨w.heap.size, 0, none⟩) (n := n) (c := n) (by
        obtain ⟨F, hF, _⟩ := HN.out
        have h1 : SlOf (ValR (Value.int .u8)) wr (.slice (some ⟨w.heap.size, 0, none⟩) n n) (D.map fun x : Nat => 97 + (x : Int)) := by
          have h2 : SlOf (ValR (Value.int .u8)) wr _ _ := OwnOf.reads (fun _ _ _ _ h => h.1) hF
          simpa using h2
        exact SlOf.comap (h := fun x : Nat => 97 + (x : Int)) h1) HDx.out
      clear HT HN
      go_wp2
      go_ret
      exact ⟨rfl, HB.out⟩
    | succ m =>
      have hlen : (List.replicate (m + 1) (0 : Int) ++ (D.drop (m + 1)).map fun x : Nat => 97 + (x : Int)).length = n := by simp [HDl.out]; omega
      obtain ⟨b', c', hv, _, _, hblt, hcl, hfr, hst⟩ := HN.out.val_at (i := m) (x := 0) (fun _ => rfl) (by rw [List.getElem?_append_left (by simp)]; simp)
      rw [hlen] at hv
      simp at hv
      obtain ⟨rfl, rfl⟩ := hv
      have hr : D.drop m = (j % L) :: D.drop (m + 1) ∧ D.take m = wordD L m (j / L) := by
        have h1 := HT.out
        unfold wordD at h1
        have hm : m < D.length := by rw [HDl.out]; omega
        obtain ⟨x, hx, hd⟩ := at_lt hm
        rw [List.take_add_one, hx] at h1
        have h2 := List.append_inj' h1 rfl
        have h3 : x = j % L := by have := h2.2; simpa using this
        exact ⟨by rw [hd, h3], h2.1⟩
      have hrx : j % L < L := Nat.mod_lt _ hL0
      have hd1 : j / L ≤ j := Nat.div_le_self _ _
      have hm1 : (j : Int) % (L : Int) = ((j % L : Nat) : Int) := by rw [Int.natCast_emod]
      have hm2 : (j : Int) / (L : Int) = ((j / L : Nat) : Int) := by rw [Int.natCast_ediv]
      generalize j % L = r at hr hrx hm1
      generalize j / L = d at hr hd1 hm2
      have hL3 := HL.out
      have HT2 := Lib.hid hr.2
      have HN2 := Lib.hid (show New (OwnOf 5 (OValR (Value.int .u8))) w.heap.size (wr.setCell ⟨w.heap.size, m, none⟩ (.int .u8 (97 + (r : Int)))) (.slice (some ⟨w.heap.size, 0, none⟩) n n) (List.replicate m 0 ++ (D.drop m).map fun x : Nat => 97 + (x : Int)) from by
        have h := hst (97 + (r : Int))
        have e : (List.replicate (m + 1) (0 : Int) ++ (D.drop (m + 1)).map fun x : Nat => 97 + (x : Int)).set m (97 + (r : Int)) = List.replicate m 0 ++ (D.drop m).map fun x : Nat => 97 + (x : Int) := by
          rw [hr.1, List.replicate_succ', List.append_assoc, List.set_append_right _ _ (by simp)]
          simp
        rw [e] at h
        exact h)
      have HB2 := Lib.hid (HB.out.setCell (p := ⟨w.heap.size, m, none⟩) (Nat.le_refl _) (.int .u8 (97 + (r : Int))))
      have hu8 : IntKind.u8.wrap (97 + (r : Int)) = 97 + (r : Int) := IntWalk.u8_in _ (by omega)
      have hL1 : (L : Int) ≠ 0 := by omega
      have hmn : (m : Int) < (n : Int) := by omega
      have hwr : IntKind.i64.wrap (d : Int) = (d : Int) := IntWalk.i64_in _ (by omega)
      have hwr2 : IntKind.i64.wrap (r : Int) = (r : Int) := IntWalk.i64_in _ (by omega)
      clear HT HN HB hst hr hlen
      go_wp2
      go_roundg m
      case measure => omega
      case rel => exact ⟨d, rfl, rfl, by omega, by omega, HT2, HN2, HB2⟩
abbrev OStrL (e : TypeId) : OwnRel (List ByteArray) := OwnOf e (OValR Value.string)
/-- append of a text, laid in a block of its own. -/
theorem New.pushStr {lo : Nat} {w : World} {v : Value} {xs : List ByteArray} (h : New (OStrL 9) lo w v xs) (hlo : lo ≤ w.heap.size) {w0 : World} (hb : Below w.heap.size w w0) (s : ByteArray) (hl : xs.length ≤ 1000000) :
    ∃ a c w', (Builtin.append_ #[48, 48] 48 #[v, .slice (some ⟨w0.heap.size, 0, none⟩) 1 1]).run Tryd.prog (w0.alloc (.cells #[.string s] 9)) = .ok (.slice a (xs.length + 1) c) w' ∧ New (OStrL 9) lo w' (.slice a (xs.length + 1) c) (xs ++ [s]) ∧ Below lo w w' := by
  obtain ⟨v', w', hr, hs, hb'⟩ := Sep.push (P := Tryd.prog) OStr.kept 48 48 (.string ⟨#[]⟩) 16 Tryd.underlying48 infoStr rfl (Sep.one (OwnOf.kept OStr.kept).held h) hlo (w1 := w0.alloc (.cells #[.string s] 9)) (hb.alloc hb.size _) (q := .string s) (x := s) ⟨[], ⟨rfl, rfl⟩, by simp [Fresh]⟩ (bb := w0.heap.size) (c := 1) (World.cell?_alloc_at _ _ _ 0 rfl) (by omega) (by omega)
  have hn := hs.headNew
  obtain ⟨a, c, e, _⟩ := hs.strsAt
  subst e
  rw [show (xs ++ [s]).length = xs.length + 1 by simp] at hr hn
  exact ⟨a, c, w', hr, hn, hb'⟩
set_option maxHeartbeats 2000000 in
set_option maxRecDepth 100000 in
theorem wordsOf_c {w : World} {L n : Nat} (hL0 : 0 < L) (hL : L ≤ 3) (hn : n ≤ 6) :
    Calls Tryd.prog 61 #[.int .i64 L, .int .i64 n] w (Makes (OStrL 9) w ((allW L n).map wordT)) := by
  have HE := Lib.hid (show (List.range (L ^ n)).map (fun i => wordT (wordD L n i)) = (allW L n).map wordT from by rw [allW_eq hL0, List.map_map]; rfl)
  have HP := Lib.hid (fun w => powerK_c (w := w) hL hn)
  have HW := Lib.hid (fun w i (hi : i < 1000) => wordAt_c (w := w) hL0 hL hn hi)
  have hM := pow_le hL hn
  generalize L ^ n = M at HE HP hM
  have H0 := Lib.hid (New.empty (e := 9) (R := OValR Value.string) w (Nat.le_refl _))
  have B0 := Lib.hid (show Below w.heap.size w (w.alloc (.cells #[] 9)) from (Below.refl _ _).alloc (Nat.le_refl _) _)
  go_enter Tryd.func61, Tryd.ntmps61
  go_wp2_with fail
  refine (HP.out _).mono ?_
  rintro e w' ⟨rfl, rfl⟩
  go_wp2
  go_loopg [5, 11] M (fun g vs i wr => ∃ (k : Nat) (a : Option Addr) (c : Nat), vs = .slice a k c ∧ i = .int .i64 k ∧ k + g = M ∧ Hid (New (OStrL 9) w.heap.size wr (.slice a k c) ((List.range k).map fun i => wordT (wordD L n i))) ∧ Hid (Below w.heap.size w wr))
  case atStart => exact ⟨0, _, _, rfl, rfl, by omega, H0, B0⟩
  case round =>
    clear H0 B0
    obtain ⟨k, a, c, rfl, rfl, hk, HN, HB⟩ := hrel
    by_cases hlt : k < M
    · have C1 := Lib.hid (HW.out wr k (by omega))
      have hz := HB.out.size
      have hki : (k : Int) < (M : Int) := by omega
      go_wp2_with fail
      refine C1.out.mono ?_
      rintro e w2 ⟨rfl, hb2⟩
      obtain ⟨a', c', w3, hr, hn3, hb3⟩ := New.pushStr HN.out hz hb2 (wordT (wordD L n k)) (by simp; omega)
      have e1 : ((List.range k).map fun i => wordT (wordD L n i)).length = k := by simp
      rw [e1] at hr hn3
      have HN3 := Lib.hid (show New (OStrL 9) w.heap.size w3 (.slice a' (k + 1) c') ((List.range (k + 1)).map fun i => wordT (wordD L n i)) from by rw [List.range_succ, List.map_append]; exact hn3)
      have HB3 := Lib.hid (HB.out.trans hb3)
      have Hr := Lib.hid hr
      clear hr hn3 hb3 hb2 HN HB C1 e1
      go_wp2_with (first
        | (at_builtin; refine wpl_append_run rfl (.tmp 14) (.tmp 19) 48 rfl rfl rfl Hr.out ?_)
        | fail)
      go_roundg (M - (k + 1))
      case measure => omega
      case rel => exact ⟨k + 1, _, _, rfl, by go_num, by omega, HN3, HB3⟩
    · obtain rfl : k = M := by omega
      have HR := Lib.hid (show New (OStrL 9) w.heap.size wr (.slice a k c) ((allW L n).map wordT) from by rw [← HE.out]; exact HN.out)
      clear HN
      go_wp2
      go_ret
      exact ⟨_, rfl, HR.out, HB.out⟩
set_option maxHeartbeats 2000000 in
set_option maxRecDepth 100000 in
theorem filtered_c {w : World} {L n : Nat} (hL0 : 0 < L) (hL : L ≤ 3) (hn : n ≤ 6) {F : FuncId} {caps : Array Value} {f : List Nat → Bool} (hcf : ∀ (args : Array Value) (w : World), (callFunc F args).run Tryd.prog w = .ok (.enter F args) w) (hF : ∀ w1 wd, Below w.heap.size w w1 → wd.length = n → (∀ x, x ∈ wd → x < L) → Calls Tryd.prog F (#[.string (wordT wd)] ++ caps) w1 fun e w' => e = .returned (.bool (f wd)) ∧ Below w1.heap.size w1 w') :
    Calls Tryd.prog 37 #[.int .i64 L, .int .i64 n, .func (.func F) #[] caps] w (Makes (OStrL 9) w (((allW L n).filter f).map wordT)) := by
  have HW := Lib.hid (fun w1 => wordsOf_c (w := w1) hL0 hL hn)
  have Hm := Lib.hid (fun wd (h : wd ∈ allW L n) => allW_mem hL0 h)
  have HF := Lib.hid hF
  have hM : (allW L n).length ≤ 729 := by rw [allW_len hL0]; exact pow_le hL hn
  have H0 := Lib.hid (New.empty (e := 9) (R := OValR Value.string) w (Nat.le_refl _))
  generalize allW L n = A at HW Hm hM ⊢
  clear hF
  obtain ⟨w0, e0⟩ : ∃ x, x = w.alloc (.cells #[] 9) := ⟨_, rfl⟩
  have B0 := Lib.hid (show Below w.heap.size w w0 from by rw [e0]; exact (Below.refl _ _).alloc (Nat.le_refl _) _)
  rw [← e0] at H0
  have e0s := e0.symm
  clear e0
  go_enter Tryd.func37, Tryd.ntmps37
  go_wp2_with fail
  refine (HW.out _).mono ?_
  rintro e w1 ⟨r, rfl, hn1, hb1⟩
  have hzw := B0.out.size
  have hs1 := ((Sep.one (OwnOf.kept OStr.kept).held H0.out).new (OwnOf.kept OStr.kept).held hb1 hzw hn1).swap
  obtain ⟨ra, rc, er, _⟩ := hs1.swap.strsAt
  subst er
  rw [List.length_map] at hs1 ⊢
  have HS1 := Lib.hid hs1
  have HB1 := Lib.hid (B0.out.trans (hb1.mono hzw))
  clear hn1 hb1 hs1 H0 B0 e0s
  go_wp2
  go_loopg [7, 15] A.length (fun g vs i wr => ∃ (k : Nat) (a : Option Addr) (c : Nat), vs = .slice a ((A.take k).filter f).length c ∧ i = .int .i64 k ∧ k + g = A.length ∧ Hid (Sep w.heap.size wr [Res.strs 9 (.slice a ((A.take k).filter f).length c) (((A.take k).filter f).map wordT), Res.strs 9 (.slice ra A.length rc) (A.map wordT)]) ∧ Hid (Below w.heap.size w wr))
  case atStart => exact ⟨0, _, _, rfl, rfl, by omega, HS1, HB1⟩
  case round =>
    clear HS1 HB1
    obtain ⟨k, a, c, rfl, rfl, hk, HS, HB⟩ := hrel
    by_cases hlt : k < A.length
    · obtain ⟨wd, hwd, _⟩ := at_lt hlt
      obtain ⟨_, _, hv, hq⟩ := HS.out.swap.strsAt
      obtain ⟨b, e1, hb, hc⟩ := hq (by simp; omega)
      simp at hv
      obtain ⟨rfl, rfl⟩ := hv
      subst e1
      have g0 := hc k (wordT wd) (by simp [hwd])
      have hm := Hm.out wd (List.mem_of_getElem? hwd)
      have C1 := Lib.hid (HF.out wr wd HB.out hm.1 hm.2)
      have hz := HB.out.size
      have hki : (k : Int) < (A.length : Int) := by omega
      have HT := Lib.hid (show (A.take (k + 1)).filter f = (A.take k).filter f ++ (if f wd = true then [wd] else []) from by rw [← take_snoc' hwd, List.filter_append]; congr 1; simp [List.filter_cons])
      have hfl : ((A.take k).filter f).length ≤ 729 := Nat.le_trans (List.length_filter_le _ _) (by simp; omega)
      generalize hfn : (A.take k).filter f = fl at HS HT hfl
      clear hfn hwd hq hc hm
      go_wp2_with fail
      refine C1.out.mono ?_
      rintro e w2 ⟨rfl, hb2⟩
      have HS2 := Lib.hid (HS.out.below hb2 (Nat.le_refl _))
      have HB2 := Lib.hid (HB.out.trans (hb2.mono hz))
      have g2 := (hb2.cell (p := ⟨b, k, none⟩) hb).trans g0
      have hz2 := HB2.out.size
      clear C1 hb2 HS HB g0 hb
      cases hf : f wd with
      | false =>
        have HT2 := Lib.hid (show (A.take (k + 1)).filter f = fl from by rw [HT.out, hf]; simp)
        clear HT
        go_wp2
        go_roundg (A.length - (k + 1))
        case measure => omega
        case rel => exact ⟨k + 1, _, _, by rw [HT2.out], by go_num, by omega, by rw [HT2.out]; exact HS2, HB2⟩
      | true =>
        have HT2 := Lib.hid (show (A.take (k + 1)).filter f = fl ++ [wd] from by rw [HT.out, hf]; simp)
        obtain ⟨v', w3, hr, hs3, hb3⟩ := Sep.push (P := Tryd.prog) OStr.kept 48 48 (.string ⟨#[]⟩) 16 Tryd.underlying48 infoStr rfl HS2.out hz2 (w1 := w2.alloc (.cells #[.string (wordT wd)] 9)) ((Below.refl _ _).alloc (Nat.le_refl _) _) (q := .string (wordT wd)) (x := wordT wd) ⟨[], ⟨rfl, rfl⟩, by simp [Fresh]⟩ (bb := w2.heap.size) (c := 1) (World.cell?_alloc_at _ _ _ 0 rfl) (by simp; omega) (by simp; omega)
        obtain ⟨a', c', ev, _⟩ := hs3.strsAt
        subst ev
        have e5 : (fl.map wordT ++ [wordT wd]).length = (fl ++ [wd]).length := by simp
        have e6 : fl.map wordT ++ [wordT wd] = (fl ++ [wd]).map wordT := by simp
        rw [e5, e6] at hs3
        rw [e5] at hr
        have e7 : (fl ++ [wd]).length = fl.length + 1 := by simp
        rw [e7] at hs3 hr
        have HS3 := Lib.hid hs3
        have HB3 := Lib.hid (HB2.out.trans hb3)
        have Hr := Lib.hid hr
        have E7 := Lib.hid e7
        clear HT hs3 hr hb3 e5 e6 e7 HS2 HB2
        go_wp2_with (first
          | (at_builtin; refine wpl_append_run rfl (.tmp 22) (.tmp 24) 48 rfl rfl rfl Hr.out ?_)
          | fail)
        go_roundg (A.length - (k + 1))
        case measure => omega
        case rel => exact ⟨k + 1, _, _, by rw [HT2.out, E7.out], by go_num, by omega, by rw [HT2.out, E7.out]; exact HS3, HB3⟩
    · have HR := Lib.hid (show New (OStrL 9) w.heap.size wr (.slice a ((A.take k).filter f).length c) ((A.filter f).map wordT) from by have h := HS.out.headNew; rw [List.take_of_length_le (by omega)] at h ⊢; exact h)
      have hki : ¬ ((k : Int) < (A.length : Int)) := by omega
      generalize ((A.take k).filter f).length = fl at HR
      clear HS
      go_wp2
      go_ret
      exact ⟨_, rfl, HR.out, HB.out⟩
end Go.Proofs.YtcilgihmaaobeaaDoor
end

section
namespace Go.Proofs.YtcilgihmaaobeaaDoor
open Go.RowKit Go.Deep Go.Sd
set_option linter.unusedSimpArgs false
abbrev extW (L : Nat) (w : List Nat) : List (List Nat) := (List.range L).map fun x => w ++ [x]
set_option maxHeartbeats 4000000 in
set_option maxRecDepth 100000 in
theorem l2All_c {w : World} {L n : Nat} (hL0 : 0 < L) (hL : L ≤ 3) (hn : n ≤ 6) :
    Calls Tryd.prog 42 #[.int .i64 L, .int .i64 n] w (Makes (OStrL 9) w ((allW L n).map wordT)) := by
  have Hln := Lib.hid (fun i (hi : i ≤ n) => (show (allW L i).length ≤ 729 from by rw [allW_len hL0]; exact pow_le hL (by omega)))
  have Hme := Lib.hid (fun i wd (h : wd ∈ allW L i) => allW_mem hL0 h)
  have HLn := Lib.hid hL0
  have H0 := Lib.hid (show New (OStrL 9) w.heap.size (w.alloc (.cells #[.string ⟨#[]⟩] 9)) (.slice (some ⟨w.heap.size, 0, none⟩) 1 1) ((allW L 0).map wordT) from New.oneG (e := 9) OStr.kept (lo := w.heap.size) (w := w) (u := .string ⟨#[]⟩) (x := ⟨#[]⟩) ⟨[], ⟨rfl, rfl⟩, by simp [Fresh]⟩ (Nat.le_refl _))
  have HB0 := Lib.hid (show Below w.heap.size w (w.alloc (.cells #[.string ⟨#[]⟩] 9)) from (Below.refl _ _).alloc (Nat.le_refl _) _)
  clear hL0
  go_enter Tryd.func42, Tryd.ntmps42
  go_wp2
  go_loopg [5, 6] n (fun g vs i wr => ∃ (k : Nat) (a : Option Addr) (c : Nat), vs = .slice a (allW L k).length c ∧ i = .int .i64 k ∧ k + g = n ∧ Hid (New (OStrL 9) w.heap.size wr (.slice a (allW L k).length c) ((allW L k).map wordT)) ∧ Hid (Below w.heap.size w wr))
  case atStart => exact ⟨0, _, _, rfl, rfl, by omega, H0, HB0⟩
  case round =>
    clear H0 HB0
    obtain ⟨k, a, c, rfl, rfl, hk, HN, HB⟩ := hrel
    obtain ⟨wq, rfl⟩ : ∃ x, x = wr := ⟨_, rfl⟩
    by_cases hlt : k < n
    · have hz := HB.out.size
      have HA := Lib.hid (show allW L (k + 1) = (allW L k).flatMap (extW L) from rfl)
      have hAl := Hln.out k (by omega)
      have hAl1 := Hln.out (k + 1) (by omega)
      have HAm := Lib.hid (fun wd h => Hme.out k wd h)
      have hki : (k : Int) < (n : Int) := by omega
      rw [HA.out] at hAl1
      have HS1 := Lib.hid ((Sep.one (OwnOf.kept OStr.kept).held HN.out).new (OwnOf.kept OStr.kept).held ((Below.refl _ _).alloc (Nat.le_refl _) _) hz (New.empty (e := 9) (R := OValR Value.string) wq (Nat.le_refl _)))
      obtain ⟨w2, e2⟩ : ∃ x, x = wq.alloc (.cells #[] 9) := ⟨_, rfl⟩
      rw [← e2] at HS1
      have HB1 := Lib.hid (show Below w.heap.size w w2 from by rw [e2]; exact HB.out.alloc hz _)
      have e2s := e2.symm
      generalize allW L k = A at HN HA hAl hAl1 HAm HS1 ⊢
      clear e2 HN HB
      go_wp2
      clear e2s
      go_loopg [7, 8] A.length (fun g2 vn i wr => ∃ (j : Nat) (na : Option Addr) (nc : Nat), vn = .slice na ((A.take j).flatMap (extW L)).length nc ∧ i = .int .i64 j ∧ j + g2 = A.length ∧ Hid (Sep w.heap.size wr [Res.strs 9 (.slice na ((A.take j).flatMap (extW L)).length nc) (((A.take j).flatMap (extW L)).map wordT), Res.strs 9 (.slice a A.length c) (A.map wordT)]) ∧ Hid (Below w.heap.size w wr))
      case atStart => exact ⟨0, _, _, rfl, rfl, by omega, HS1, HB1⟩
      case round =>
        clear HS1 HB1 hz
        obtain ⟨j, na, nc, rfl, rfl, hj, HS, HB⟩ := hrel
        obtain ⟨wj, rfl⟩ : ∃ x, x = wr := ⟨_, rfl⟩
        by_cases hjl : j < A.length
        · obtain ⟨wd, hwd, _⟩ := at_lt hjl
          have HT := Lib.hid (show (A.take (j + 1)).flatMap (extW L) = (A.take j).flatMap (extW L) ++ extW L wd from by rw [← take_snoc' hwd, List.flatMap_append]; simp)
          have Hle := Lib.hid (show ((A.take (j + 1)).flatMap (extW L)).length ≤ 729 from by
            have h1 : (A.flatMap (extW L)).length = ((A.take (j + 1)).flatMap (extW L)).length + ((A.drop (j + 1)).flatMap (extW L)).length := by rw [← List.length_append, ← List.flatMap_append, List.take_append_drop]
            omega)
          have hm := HAm.out wd (List.mem_of_getElem? hwd)
          have Hwd := Lib.hid hwd
          have hji : (j : Int) < (A.length : Int) := by omega
          generalize (A.take j).flatMap (extW L) = B at HS HT ⊢
          have HS0 := Lib.hid (show Sep w.heap.size wj [Res.strs 9 (.slice na (B ++ (extW L wd).take 0).length nc) ((B ++ (extW L wd).take 0).map wordT), Res.strs 9 (.slice a A.length c) (A.map wordT)] from by simpa using HS.out)
          clear HS hwd
          go_wp2
          go_loopg [7, 9] L (fun g3 vn i wr => ∃ (x : Nat) (na : Option Addr) (nc : Nat), vn = .slice na (B ++ (extW L wd).take x).length nc ∧ i = .int .i64 x ∧ x + g3 = L ∧ Hid (Sep w.heap.size wr [Res.strs 9 (.slice na (B ++ (extW L wd).take x).length nc) ((B ++ (extW L wd).take x).map wordT), Res.strs 9 (.slice a A.length c) (A.map wordT)]) ∧ Hid (Below w.heap.size w wr))
          case atStart => exact ⟨0, na, nc, by simp, rfl, by omega, HS0, HB⟩
          case round =>
            clear HS0 HB
            obtain ⟨x, na, nc, rfl, rfl, hx, HS, HB⟩ := hrel
            obtain ⟨wx, rfl⟩ : ∃ x, x = wr := ⟨_, rfl⟩
            by_cases hxl : x < L
            · obtain ⟨_, _, hv, hq⟩ := HS.out.swap.strsAt
              obtain ⟨b, e1, hb, hc⟩ := hq (by simp; omega)
              simp at hv
              obtain ⟨rfl, rfl⟩ := hv
              subst e1
              have g0 := hc j (wordT wd) (by simp [Hwd.out])
              have hz := HB.out.size
              have hxi : (x : Int) < (L : Int) := by omega
              have hext : (extW L wd).take (x + 1) = (extW L wd).take x ++ [wd ++ [x]] := (take_snoc' (by simp [List.getElem?_range hxl])).symm
              have hBl : (B ++ (extW L wd).take x).length ≤ 729 := by
                have h1 := Hle.out
                rw [HT.out] at h1
                have h2 : ((extW L wd).take x).length ≤ (extW L wd).length := by rw [List.length_take]; omega
                simp only [List.length_append] at h1 ⊢
                omega
              have hb6a : Below wx.heap.size wx ((wx.alloc (.cells #[.string (wordT (wd ++ [x]))] 9)).drew) := ((Below.refl _ _).alloc (Nat.le_refl _) _).drew
              obtain ⟨v7, w7, hr7, hS7, hb7⟩ := Sep.push (P := Tryd.prog) OStr.kept 48 48 (.string ⟨#[]⟩) 16 Tryd.underlying48 infoStr rfl HS.out hz hb6a (q := .string (wordT (wd ++ [x]))) (x := wordT (wd ++ [x])) ⟨[], ⟨rfl, rfl⟩, by simp [Fresh]⟩ (bb := wx.heap.size) (c := 1) (World.cell?_alloc_at _ _ _ 0 rfl) (by simp only [List.length_map]; omega) (by simp only [List.length_map]; omega)
              have e7 : (B ++ (extW L wd).take x).map wordT ++ [wordT (wd ++ [x])] = (B ++ (extW L wd).take (x + 1)).map wordT := by rw [hext]; simp
              obtain ⟨na', nc', rfl, _⟩ := hS7.strsAt
              have e7' : ((B ++ (extW L wd).take x).map wordT ++ [wordT (wd ++ [x])]).length = (B ++ (extW L wd).take x).length + 1 := by simp only [List.length_append, List.length_map, List.length_cons, List.length_nil]
              have e8 : (B ++ (extW L wd).take (x + 1)).length = (B ++ (extW L wd).take x).length + 1 := by rw [hext]; simp only [List.length_append, List.length_cons, List.length_nil]; omega
              rw [e7'] at hr7 hS7
              rw [e7] at hS7
              have HS7 := Lib.hid hS7
              have HB7 := Lib.hid (HB.out.trans hb7)
              have Hr := Lib.hid hr7
              have E8 := Lib.hid e8
              have habc := fun w => abc_slice (x := x) (by omega) w
              have hcat := wordT_snoc wd x
              have hsz1 : (wordT [x]).size = 1 := by simp [wordT, ByteArray.size]
              have hws : (wordT wd).size = wd.length := wordT_size wd
              have hsz2 : ¬ (9223372036854775807 < wd.length + 1) := by rw [hm.1]; omega
              have hSd : wx.drew.cell? ⟨b, j, none⟩ = some (.string (wordT wd)) := g0
              have hS1 : ((wx.alloc (.cells #[.string (wordT (wd ++ [x]))] 9)).drew).cell? ⟨b, j, none⟩ = some (.string (wordT wd)) := (hb6a.cell (p := ⟨b, j, none⟩) hb).trans g0
              generalize (B ++ (extW L wd).take x).length = bl at Hr hBl E8 HS7 ⊢
              have hx3 : IntKind.i64.wrap ((x : Int) + 1) = (x : Int) + 1 := IntWalk.i64_in _ (by omega)
              clear HS HB hS7 hb7 hr7 hb6a e7 e7' e8 hq hc hext hm g0
              go_wp2
              refine wp_region_M 12 (fun w' => w'.cell? ⟨b, j, none⟩ = some (.string (wordT wd))) (by kernel_rfl) ?_
              refine wpAnyM_take 0 (v := ?_) rfl (by kernel_rfl) (by kernel_rfl) (by kernel_rfl) (by kernel_rfl) (fun _ _ _ h => h) (Or.inl ⟨by rfl, ?_⟩) hSd ?_
              rotate_left
              · (intro w hSw; (try dsimp only at hSw); go_simp) <;> (try with_reducible rfl)
              try simp only [Act.put, List.setIfInBounds_toArray, List.set_cons_zero, List.set_cons_succ]
              refine wpAnyM_take 1 (v := ?_) rfl (by kernel_rfl) (by kernel_rfl) (by kernel_rfl) (by kernel_rfl) (fun _ _ _ h => h) (Or.inl ⟨by rfl, ?_⟩) hSd ?_
              rotate_left
              · (intro w hSw; (try dsimp only at hSw); go_simp) <;> (try with_reducible rfl)
              try simp only [Act.put, List.setIfInBounds_toArray, List.set_cons_zero, List.set_cons_succ]
              refine wpAnyM_take 2 (v := ?_) rfl (by kernel_rfl) (by kernel_rfl) (by kernel_rfl) (by kernel_rfl) (fun _ _ _ h => h) (Or.inl ⟨by rfl, ?_⟩) hSd ?_
              rotate_left
              · (intro w hSw; (try dsimp only at hSw); go_simp) <;> (try with_reducible rfl)
              try simp only [Act.put, List.setIfInBounds_toArray, List.set_cons_zero, List.set_cons_succ]
              refine wpAnyM_take 3 (v := ?_) rfl (by kernel_rfl) (by kernel_rfl) (by kernel_rfl) (by kernel_rfl) (fun _ _ _ h => h) (Or.inl ⟨by rfl, ?_⟩) hSd ?_
              rotate_left
              · (intro w hSw; (try dsimp only at hSw); go_simp) <;> (try with_reducible rfl)
              try simp only [Act.put, List.setIfInBounds_toArray, List.set_cons_zero, List.set_cons_succ]
              refine wpAnyM_take 4 (v := ?_) rfl (by kernel_rfl) (by kernel_rfl) (by kernel_rfl) (by kernel_rfl) (fun _ _ _ h => h) (Or.inl ⟨by rfl, ?_⟩) hSd ?_
              rotate_left
              · (intro w hSw; (try dsimp only at hSw); go_simp) <;> (try with_reducible rfl)
              try simp only [Act.put, List.setIfInBounds_toArray, List.set_cons_zero, List.set_cons_succ]
              refine wpAnyM_take 5 (v := ?_) rfl (by kernel_rfl) (by kernel_rfl) (by kernel_rfl) (by kernel_rfl) (fun _ _ _ h => h) (Or.inl ⟨by rfl, ?_⟩) hSd ?_
              rotate_left
              · (intro w hSw; (try dsimp only at hSw); go_simp) <;> (try with_reducible rfl)
              try simp only [Act.put, List.setIfInBounds_toArray, List.set_cons_zero, List.set_cons_succ]
              refine wpAnyM_take 6 (v := ?_) rfl (by kernel_rfl) (by kernel_rfl) (by kernel_rfl) (by kernel_rfl) (fun _ _ _ h => h) (Or.inl ⟨by rfl, ?_⟩) hSd ?_
              rotate_left
              · (intro w hSw; (try dsimp only at hSw); go_simp) <;> (try with_reducible rfl)
              try simp only [Act.put, List.setIfInBounds_toArray, List.set_cons_zero, List.set_cons_succ]
              refine wpAnyM_take 7 (v := ?_) rfl (by kernel_rfl) (by kernel_rfl) (by kernel_rfl) (by kernel_rfl) (fun _ _ _ h => h) (Or.inl ⟨by rfl, ?_⟩) hSd ?_
              rotate_left
              · (intro w hSw; (try dsimp only at hSw); go_simp) <;> (try with_reducible rfl)
              try simp only [Act.put, List.setIfInBounds_toArray, List.set_cons_zero, List.set_cons_succ]
              refine wpAnyM_take 8 (v := ?_) rfl (by kernel_rfl) (by kernel_rfl) (by kernel_rfl) (by kernel_rfl) (fun _ _ _ h => h) (Or.inl ⟨by rfl, ?_⟩) hSd ?_
              rotate_left
              · (intro w hSw; (try dsimp only at hSw); go_simp) <;> (try with_reducible rfl)
              try simp only [Act.put, List.setIfInBounds_toArray, List.set_cons_zero, List.set_cons_succ]
              refine wpAnyM_take 9 (v := ?_) rfl (by kernel_rfl) (by kernel_rfl) (by kernel_rfl) (by kernel_rfl) (fun _ _ _ h => h) (Or.inl ⟨by rfl, ?_⟩) hSd ?_
              rotate_left
              · (intro w hSw; (try dsimp only at hSw); go_simp) <;> (try with_reducible rfl)
              try simp only [Act.put, List.setIfInBounds_toArray, List.set_cons_zero, List.set_cons_succ]
              refine wpAnyM_one 10 (by kernel_rfl) rfl (fun K hK => ?_)
              go_simp
              refine hK.out _ _ (fun _ => hS1) ?_
              clear hK K
              try simp only [Act.put, List.setIfInBounds_toArray, List.set_cons_zero, List.set_cons_succ]
              refine wpAnyM_one 11 (by kernel_rfl) rfl (fun K hK => ?_)
              refine step_append_run (by rfl) (.tmp 28) (.tmp 38) 48 (by rfl) (by rfl) (by rfl) Hr.out ?_
              refine hK.out _ _ (fun h => absurd h (not_remM (by kernel_rfl))) ?_
              clear hK K
              try simp only [Act.put, List.setIfInBounds_toArray, List.set_cons_zero, List.set_cons_succ]
              refine wpAnyM_one 12 (by kernel_rfl) rfl (fun K hK => ?_)
              go_simp
              refine hK.out _ _ (fun h => absurd h (not_remM (by kernel_rfl))) ?_
              clear hK K
              try simp only [Act.put, List.setIfInBounds_toArray, List.set_cons_zero, List.set_cons_succ]
              refine wpAnyM_done (by kernel_rfl) ?_ _
              all_goals (
                go_wp2
                go_roundg (L - (x + 1))
                case measure => omega
                case rel => exact ⟨x + 1, _, _, by rw [E8.out], by go_num, by omega, by rw [E8.out]; exact HS7, HB7⟩)
            · have hxe : x = L := by omega
              have HS2 := Lib.hid (show Sep w.heap.size wx [Res.strs 9 (.slice na ((A.take (j + 1)).flatMap (extW L)).length nc) (((A.take (j + 1)).flatMap (extW L)).map wordT), Res.strs 9 (.slice a A.length c) (A.map wordT)] from by
                have h := HS.out
                rw [List.take_of_length_le (by simp; omega)] at h
                rw [HT.out]
                exact h)
              have E2 := Lib.hid (show (B ++ (extW L wd).take x).length = ((A.take (j + 1)).flatMap (extW L)).length from by rw [List.take_of_length_le (by simp; omega), HT.out])
              have hxi : ¬ ((x : Int) < (L : Int)) := by omega
              generalize (B ++ (extW L wd).take x).length = bl at E2 ⊢
              clear HS hxe HT
              go_wp2
              go_roundg (A.length - (j + 1))
              case measure => omega
              case rel => exact ⟨j + 1, na, nc, by rw [E2.out], by go_num, by omega, HS2, HB⟩
        · have HR := Lib.hid (show New (OStrL 9) w.heap.size wj (.slice na (allW L (k + 1)).length nc) ((allW L (k + 1)).map wordT) from by
            have h := HS.out.headNew
            rw [List.take_of_length_le (by omega)] at h
            rw [HA.out]
            exact h)
          have E2 := Lib.hid (show ((A.take j).flatMap (extW L)).length = (allW L (k + 1)).length from by rw [List.take_of_length_le (by omega), HA.out])
          have hji : ¬ ((j : Int) < (A.length : Int)) := by omega
          generalize ((A.take j).flatMap (extW L)).length = bl at E2 ⊢
          clear HS HA
          go_wp2
          go_roundg (n - (k + 1))
          case measure => omega
          case rel => exact ⟨k + 1, na, nc, by rw [E2.out], by go_num, by omega, HR, HB⟩
    · obtain rfl : k = n := by omega
      have hki : ¬ ((k : Int) < (k : Int)) := by omega
      have HR := Lib.hid HN.out
      generalize (allW L k).length = bl at HR ⊢
      clear HN
      go_wp2
      go_ret
      exact ⟨_, rfl, HR.out, HB.out⟩
end Go.Proofs.YtcilgihmaaobeaaDoor
end

section
namespace Go.Proofs.YtcilgihmaaobeaaDoor
open Go.RowKit Go.Deep Go.Sd
set_option linter.unusedSimpArgs false
theorem allW_two {L : Nat} (h0 : 0 < L) (h3 : L ≤ 3) {wd : List Nat} (h : wd ∈ allW L 2) : Two wd := by
  obtain ⟨h1, h2⟩ := allW_mem h0 h
  match wd, h1 with
  | [a, b], _ => exact ⟨a, b, rfl, by have := h2 a (by simp); omega, by have := h2 b (by simp); omega⟩
theorem avoW_two {F : List ByteArray} {L : Nat} (h0 : 0 < L) (h3 : L ≤ 3) {wd : List Nat} (h : wd ∈ avoW F L) : Two wd := allW_two h0 h3 (List.mem_filter.1 h).1
set_option maxHeartbeats 2000000 in
set_option maxRecDepth 100000 in
theorem l3Words_c {w : World} {vs : Value} {L : Nat} {F : List ByteArray} (hz : ShR w vs ((L : Int), F)) (h0 : 0 < L) (h3 : L ≤ 3) (hf : ∀ f, f ∈ F → f.size ≤ 1048576) :
    Calls Tryd.prog 97 #[vs, .int .i64 2] w (Makes (OStrL 9) w ((avoW F L).map wordT)) := by
  obtain ⟨va, rfl, ht⟩ := hz
  simp only at ht
  obtain ⟨w0, e0, hb0, c0, c1, m0⟩ := boxA_ex w 92 (.int .i64 L) va
  have HFr := Lib.hid (TsR.frame _ _ _ _ ht hb0)
  obtain ⟨va1, va2, rfl, -⟩ := HFr.out.shape
  generalize hfl : F.length = fl at c1 e0 HFr ⊢
  have Hf := Lib.hid hf
  have HB0 := Lib.hid hb0
  have HW := Lib.hid (fun w1 => (show Calls Tryd.prog 42 #[.int .i64 (L : Int), .int .i64 2] w1 _ from l2All_c (w := w1) (n := 2) h0 h3 (by decide)))
  have Hm := Lib.hid (fun wd (h : wd ∈ allW L 2) => allW_two h0 h3 h)
  have hM : (allW L 2).length ≤ 729 := by rw [allW_len h0]; exact pow_le h3 (by decide)
  have H0 := Lib.hid (New.empty (e := 9) (R := OValR Value.string) w0 (Nat.le_refl _))
  have HAv := Lib.hid (show avoW F L = (allW L 2).filter (fun wd => avoM F (wordT wd)) from rfl)
  generalize avoW F L = AV at HAv ⊢
  generalize allW L 2 = A at HW Hm hM HAv
  obtain ⟨w1, e1⟩ : ∃ x, x = w0.alloc (.cells #[] 9) := ⟨_, rfl⟩
  have B0 := Lib.hid (show Below w0.heap.size w0 w1 from by rw [e1]; exact (Below.refl _ _).alloc (Nat.le_refl _) _)
  rw [← e1] at H0
  have e1s := e1.symm
  have d0 := (B0.out.cell (p := ⟨w.heap.size, 0, none⟩) m0).trans c0
  clear e1 hfl hf ht hb0
  go_enter Tryd.func97, Tryd.ntmps97
  go_wp2_with fail
  refine (HW.out _).mono ?_
  rintro e w2 ⟨r, rfl, hn1, hb1⟩
  have hzw := B0.out.size
  have hs1 := ((Sep.one (OwnOf.kept OStr.kept).held H0.out).new (OwnOf.kept OStr.kept).held hb1 hzw hn1).swap
  obtain ⟨ra, rc, er, _⟩ := hs1.swap.strsAt
  subst er
  rw [List.length_map] at hs1 ⊢
  have HS1 := Lib.hid hs1
  have HB1 := Lib.hid (B0.out.trans (hb1.mono hzw))
  clear hn1 hb1 hs1 H0 B0 e1s hzw d0
  go_wp2
  go_loopg [5, 7] A.length (fun g vs i wr => ∃ (k : Nat) (a : Option Addr) (c : Nat), vs = .slice a ((A.take k).filter fun wd => avoM F (wordT wd)).length c ∧ i = .int .i64 k ∧ k + g = A.length ∧ Hid (Sep w0.heap.size wr [Res.strs 9 (.slice a ((A.take k).filter fun wd => avoM F (wordT wd)).length c) (((A.take k).filter fun wd => avoM F (wordT wd)).map wordT), Res.strs 9 (.slice ra A.length rc) (A.map wordT)]) ∧ Hid (Below w0.heap.size w0 wr))
  case atStart => exact ⟨0, _, _, rfl, rfl, by omega, HS1, HB1⟩
  case round =>
    clear HS1 HB1
    obtain ⟨k, a, c, rfl, rfl, hk, HS, HB⟩ := hrel
    obtain ⟨wB, rfl⟩ : ∃ x, x = wr := ⟨_, rfl⟩
    by_cases hlt : k < A.length
    · obtain ⟨g, rfl⟩ : ∃ x, gk = x + 1 := ⟨gk - 1, by omega⟩
      obtain ⟨wd, hwd, _⟩ := at_lt hlt
      obtain ⟨_, _, hv, hq⟩ := HS.out.swap.strsAt
      obtain ⟨b, e1, hb, hc⟩ := hq (by simp; omega)
      simp at hv
      obtain ⟨rfl, rfl⟩ := hv
      subst e1
      have g0 := hc k (wordT wd) (by simp [hwd])
      have hm := (Hm.out wd (List.mem_of_getElem? hwd)).facts.1
      have k0 := (HB.out.cell (p := ⟨w.heap.size, 0, none⟩) m0).trans c0
      have k1 := (HB.out.cell (p := ⟨w.heap.size, 1, none⟩) m0).trans c1
      have C1 := Lib.hid (fun m => Reads.quiet (avo_q (s := wordT wd) ((TsR.frame _ _ _ _ HFr.out HB.out).dn' m) (by rw [hm]; decide) Hf.out))
      have hki : (k : Int) < (A.length : Int) := by omega
      have HT := Lib.hid (show (A.take (k + 1)).filter (fun wd => avoM F (wordT wd)) = (A.take k).filter (fun wd => avoM F (wordT wd)) ++ (if avoM F (wordT wd) = true then [wd] else []) from by rw [← take_snoc' hwd, List.filter_append]; congr 1; simp [List.filter_cons])
      have hfl : ((A.take k).filter fun wd => avoM F (wordT wd)).length ≤ 729 := Nat.le_trans (List.length_filter_le _ _) (by simp; omega)
      generalize hfn : ((A.take k).filter fun wd => avoM F (wordT wd)) = fl' at HS HT hfl
      clear hfn hwd hq hc hm
      cases hav : avoM F (wordT wd) with
      | false =>
        rw [hav] at C1
        have HT2 := Lib.hid (show (A.take (k + 1)).filter (fun wd => avoM F (wordT wd)) = fl' from by rw [HT.out, hav]; simp)
        clear HT hav hb
        go_wp2
        go_quiet ((go_at_call 88; exact C1.out _))
        rename_i nq
        have HS2 := Lib.hid (HS.out.below (below_drewN (Below.refl wB.heap.size wB) nq) (Nat.le_refl _))
        have HB2 := Lib.hid (HB.out.trans (below_drewN (Below.refl w0.heap.size wB) nq))
        go_wp2
        go_roundg g
        case measure => omega
        case rel => exact ⟨k + 1, _, _, by rw [HT2.out], by go_num, by omega, by rw [HT2.out]; exact HS2, HB2⟩
      | true =>
        rw [hav] at C1
        have HT2 := Lib.hid (show (A.take (k + 1)).filter (fun wd => avoM F (wordT wd)) = fl' ++ [wd] from by rw [HT.out, hav]; simp)
        clear HT hav
        go_wp2
        go_quiet ((go_at_call 88; exact C1.out _))
        rename_i nq
        have hs2 := HS.out.below (below_drewN (Below.refl wB.heap.size wB) nq) (Nat.le_refl _)
        have hb2 := HB.out.trans (below_drewN (Below.refl w0.heap.size wB) nq)
        have g2 : (wB.drewN nq).cell? ⟨b, k, none⟩ = _ := g0
        generalize wB.drewN nq = w2 at hs2 hb2 g2 ⊢
        have hz2 := hb2.size
        obtain ⟨v', w3, hr, hs3, hb3⟩ := Sep.push (P := Tryd.prog) OStr.kept 48 48 (.string ⟨#[]⟩) 16 Tryd.underlying48 infoStr rfl hs2 hz2 (w1 := w2.alloc (.cells #[.string (wordT wd)] 9)) ((Below.refl _ _).alloc (Nat.le_refl _) _) (q := .string (wordT wd)) (x := wordT wd) ⟨[], ⟨rfl, rfl⟩, by simp [Fresh]⟩ (bb := w2.heap.size) (c := 1) (World.cell?_alloc_at _ _ _ 0 rfl) (by simp; omega) (by simp; omega)
        obtain ⟨a', c', ev, _⟩ := hs3.strsAt
        subst ev
        have e5 : (fl'.map wordT ++ [wordT wd]).length = (fl' ++ [wd]).length := by simp
        have e6 : fl'.map wordT ++ [wordT wd] = (fl' ++ [wd]).map wordT := by simp
        rw [e5, e6] at hs3
        rw [e5] at hr
        have e7 : (fl' ++ [wd]).length = fl'.length + 1 := by simp
        rw [e7] at hs3 hr
        have HS3 := Lib.hid hs3
        have HB3 := Lib.hid (hb2.trans hb3)
        have Hr := Lib.hid hr
        have E7 := Lib.hid e7
        clear hs3 hr hb3 e5 e6 e7 hs2 hb2 HS HB C1
        go_wp2_with (first
          | (at_builtin; refine wpl_append_run rfl (.tmp 26) (.tmp 31) 48 rfl rfl rfl Hr.out ?_)
          | fail)
        go_roundg g
        case measure => omega
        case rel => exact ⟨k + 1, _, _, by rw [HT2.out, E7.out], by go_num, by omega, by rw [HT2.out, E7.out]; exact HS3, HB3⟩
    · have HR := Lib.hid (show New (OStrL 9) w0.heap.size wB (.slice a ((A.take k).filter fun wd => avoM F (wordT wd)).length c) (AV.map wordT) from by have h := HS.out.headNew; rw [HAv.out]; rw [List.take_of_length_le (by omega)] at h ⊢; exact h)
      have hki : ¬ ((k : Int) < (A.length : Int)) := by omega
      have HBf := Lib.hid (HB0.out.trans (HB.out.mono (Nat.le_of_lt m0)))
      have HR2 := Lib.hid (HR.out.mono (Nat.le_of_lt m0))
      generalize ((A.take k).filter fun wd => avoM F (wordT wd)).length = fl' at HR2
      clear HS HR
      go_wp2
      go_ret
      exact ⟨_, rfl, HR2.out, HBf.out⟩
end Go.Proofs.YtcilgihmaaobeaaDoor
end
