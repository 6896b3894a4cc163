/-
  Laws for this claim's walks, contracts of the functions that it reaches.
-/
import Derived.Test.YtcilgihmaaobeaaGreatDoorFnLabelsM23
set_option linter.unusedVariables false
set_option linter.unusedSimpArgs false
section
namespace Go.Proofs.YtcilgihmaaobeaaGreatDoor
open Go.RowKit Go.Deep Go.Sd
set_option linter.unusedSimpArgs false
/-- A word of two letters. -/
def Two (u : List Nat) : Prop := ∃ a b, u = [a, b] ∧ a < 3 ∧ b < 3
theorem byte_of {a : Nat} (h : a < 3) : (UInt8.ofNat (97 + a)).toNat = 97 + a := by
  rw [UInt8.toNat_ofNat']
  omega
/-- What the walks read of a word of two letters. -/
theorem Two.facts {u : List Nat} (h : Two u) : (wordT u).size = 2 ∧ (∀ h, ((wordT u)[0]'h).toNat = 97 + u.getD 0 0) ∧ (∀ h, ((wordT u)[1]'h).toNat = 97 + u.getD 1 0) ∧ (wordT u).extract 1 2 = wordT (u.drop 1) ∧ (wordT u).extract 0 2 = wordT u := by
  obtain ⟨a, b, rfl, ha, hb⟩ := h
  refine ⟨rfl, fun _ => byte_of ha, fun _ => byte_of hb, ?_, ?_⟩
  · apply ByteArray.ext
    apply Array.toList_inj.1
    rw [extract_list]
    rfl
  · apply ByteArray.ext
    apply Array.toList_inj.1
    rw [extract_list]
    rfl
theorem wordT_append (u v : List Nat) : wordT u ++ wordT v = wordT (u ++ v) := by
  apply ByteArray.ext
  apply Array.toList_inj.1
  simp [wordT]
theorem avo_q {w : World} {v : Value} {F : List ByteArray} {s : ByteArray} (h : TsR w v F) (hs : s.size ≤ 1000) (hf : ∀ f, f ∈ F → f.size ≤ 1048576) :
    Calls Tryz.prog 87 #[v, .string s] w (Reads w (.bool (avoM F s))) :=
  (l3Avoids_c h hs hf).mono fun _ _ h => ⟨h.1, by rw [← h.2]; exact Drawn.refl _⟩
theorem two_add' {u v : ByteArray} (hu : u.size = 2) (hv : v.size = 1) : ¬ u.size + v.size > 9223372036854775807 := by omega
theorem _root_.Go.Sd.SlOf.dn' {w : World} {v : Value} {xs : List ByteArray} (h : TsR w v xs) (n : Nat) : TsR (w.drewN n) v xs := TsR.frame _ _ _ _ h (below_drewN (Below.refl _ _) n)
set_option maxHeartbeats 2000000 in
set_option maxRecDepth 100000 in
theorem l3GoesT_c {w : World} {vs vl : Value} {z : Sh} {out : List (List Nat)} {u : List Nat} (hz : ShR w vs z) (hf : ∀ f, f ∈ z.2 → f.size ≤ 1048576) (hl : TsR w vl (out.map wordT)) (hu : Two u) (ho : ∀ v, v ∈ out → Two v) :
    Calls Tryz.prog 95 #[vs, vl, .string (wordT u), .bool true] w fun e w' => e = .returned (.bool (out.any fun v => goesB z.2 u v)) ∧ Below w.heap.size w w' := by
  obtain ⟨L, F⟩ := z
  obtain ⟨va, rfl, ht⟩ := hz
  simp only at ht hf
  obtain ⟨w0, e0, hb0, c0, c1, m0⟩ := boxA_ex w 37 (.int .i64 L) va
  have HFr := Lib.hid (TsR.frame _ _ _ _ ht hb0)
  have hl0 := TsR.frame _ _ _ _ hl hb0
  have HB := Lib.hid hb0
  have Ho := Lib.hid ho
  have Hf := Lib.hid hf
  have hlen := hl0.len
  obtain ⟨a, c, rfl, -, -, hcell⟩ := hl0.shape
  rw [List.length_map] at hcell hlen
  obtain ⟨va1, va2, rfl, -⟩ := HFr.out.shape
  generalize hfl : F.length = fl at c1 e0 HFr ⊢
  have Hfl := Lib.hid hfl
  have HT := Lib.hid (fun (k : Nat) (v : List Nat) (h : out[k]? = some v) (h2 : goesB F u v = true) => (show (out.any fun v => goesB F u v) = true from List.any_eq_true.2 ⟨v, List.mem_of_getElem? h, h2⟩))
  have HN := Lib.hid (fun (h : ∀ (k : Nat) (v : List Nat), out[k]? = some v → (goesB F u v) = false) => (show (out.any fun v => goesB F u v) = false from by
    rw [List.any_eq_false]
    intro v hv
    obtain ⟨k, hk⟩ := List.getElem?_of_mem hv
    rw [h k v hk]
    decide))
  have HG := Lib.hid (fun (v : List Nat) => (show (goesB F u v) = (decide (u.getD 1 0 = v.getD 0 0) && avoM F (wordT (u ++ v.drop 1))) from rfl))
  generalize (out.any fun v => goesB F u v) = T at HT HN ⊢
  obtain ⟨n, hn⟩ : ∃ n, n = out.length := ⟨_, rfl⟩
  have Hn := Lib.hid hn
  rw [List.length_map, ← hn]
  rw [← hn] at hcell hlen
  have Hcell := Lib.hid hcell
  obtain ⟨hus, hu0, hu1, hue, -⟩ := hu.facts
  obtain ⟨su, hsu⟩ : ∃ x, x = wordT u := ⟨_, rfl⟩
  obtain ⟨ui, hui⟩ : ∃ x, x = 97 + u.getD 1 0 := ⟨_, rfl⟩
  have Hui := Lib.hid hui
  rw [← hui] at hu1
  rw [← hsu] at hus hu0 hu1 hue ⊢
  have Hsu := Lib.hid hsu
  have Hue := Lib.hid hue
  clear hcell hn ht hl hl0 hf hfl ho hb0 hsu hui hue
  go_enter Tryz.func95, Tryz.ntmps95
  go_wp2
  go_loopg [9] n (fun g i wr => ∃ (j : Nat), i = .int .i64 j ∧ j + g = n ∧ Hid (∀ (k : Nat) (v : List Nat), k < j → out[k]? = some v → (goesB F u v) = false) ∧ Drawn w0 wr)
  case atStart => exact ⟨0, rfl, by omega, Lib.hid (fun k v hk => absurd hk (Nat.not_lt_zero _)), Drawn.refl _⟩
  case round =>
    obtain ⟨j, rfl, hj, HK, hdr⟩ := hrel
    by_cases h1 : j < n
    · have h1i : (j : Int) < (n : Int) := by omega
      obtain ⟨g, rfl⟩ : ∃ x, gk = x + 1 := ⟨gk - 1, by omega⟩
      obtain ⟨b, o, rfl, -, hx⟩ := Hcell.out (by omega)
      obtain ⟨v, hv, -⟩ := at_lt (xs := out) (k := j) (by rw [← Hn.out]; exact h1)
      obtain ⟨y, hy, hy2⟩ := hx j (wordT v) (by rw [List.getElem?_map, hv]; rfl)
      have hy2' : y = .string (wordT v) := hy2
      subst hy2'
      rw [← hdr.cell] at c0 c1 hy
      obtain ⟨hvs, hv0, hv1, hve, -⟩ := (Ho.out v (List.mem_of_getElem? hv)).facts
      obtain ⟨sv, hsv⟩ : ∃ x, x = wordT v := ⟨_, rfl⟩
      obtain ⟨vi, hvi⟩ : ∃ x, x = 97 + v.getD 0 0 := ⟨_, rfl⟩
      have Hvi := Lib.hid hvi
      rw [← hvi] at hv0
      rw [← hsv] at hvs hv0 hv1 hve hy
      have Hsv := Lib.hid hsv
      have Hve := Lib.hid hve
      have hex : (sv).extract 1 (sv).size = (sv).extract 1 2 := by rw [hvs]
      have hes : ((sv).extract 1 2).size = 1 := by rw [ByteArray.size_extract, hvs]; rfl
      have HA := Lib.hid (fun (wb : World) (hd : Drawn w0 wb) (m : Nat) => Reads.quiet (avo_q (s := su ++ sv.extract 1 2) ((hd.read TsR.frame HFr.out).dn' m) (by rw [ByteArray.size_append, hes, hus]; omega) Hf.out))
      have hcat : (su ++ sv.extract 1 2) = (wordT (u ++ v.drop 1)) := by rw [Hve.out, Hsu.out, wordT_append]
      have hcatA : avoM F (su ++ sv.extract 1 2) = avoM F (wordT (u ++ v.drop 1)) := by rw [hcat]
      clear hcat
      have hnx : (goesB F u v) = false → Hid (∀ (k : Nat) (v : List Nat), k < j + 1 → out[k]? = some v → (goesB F u v) = false) := fun hg => Lib.hid fun k v' hk hv' => by
        by_cases e : k = j
        · rw [e, hv] at hv'
          cases hv'
          exact hg
        · exact HK.out k v' (by omega) hv'
      have hyes : (goesB F u v) = true → Hid (T = true) := fun hg => Lib.hid (HT.out j v hv hg)
      have hgv := HG.out v
      clear hx hv hy2 hsv hvi hve
      have hs0 : ¬ (su).size + ((sv).extract 1 2).size > 9223372036854775807 := two_add' (hus) hes
      by_cases hq : u.getD 1 0 = v.getD 0 0
      · have t0 : vi = ui := by rw [Hvi.out, Hui.out, hq]
        have t1 : ((vi : Int) == (ui : Int)) = true := by rw [t0]; simp
        clear t0
        rw [decide_eq_true hq, Bool.true_and] at hgv
        cases hav : avoM F (wordT (u ++ v.drop 1)) with
        | true =>
          have hT := hyes (by rw [hgv, hav])
          rw [hcatA, hav] at HA
          clear hgv hav hyes hnx HK hcatA
          go_wp2
          go_quiet ((go_at_call 87; refine HA.out _ ?_ _; first | exact hdq | exact hdr))
          go_wp2
          go_ret
          exact ⟨by rw [hT.out]; rfl, HB.out.trans ((hdr.drewN _).below _)⟩
        | false =>
          have hK2 := hnx (by rw [hgv, hav])
          rw [hcatA, hav] at HA
          clear hgv hav hyes hnx HK hcatA
          go_wp2
          go_quiet ((go_at_call 87; refine HA.out _ ?_ _; first | exact hdq | exact hdr))
          go_wp2
          go_quiet (fail)
          go_wp2
          go_roundg g
          case measure => omega
          case rel => exact ⟨j + 1, by go_num, by omega, hK2, hdr.drewN _⟩
      · have t1 : ((vi : Int) == (ui : Int)) = false := by
          have : vi ≠ ui := by rw [Hvi.out, Hui.out]; omega
          simp; omega
        rw [decide_eq_false hq, Bool.false_and] at hgv
        have hK2 := hnx hgv
        clear hgv hyes hnx HK HA hcatA
        go_wp2
        go_quiet (fail)
        go_wp2
        go_quiet (fail)
        go_wp2
        go_roundg g
        case measure => omega
        case rel => exact ⟨j + 1, by go_num, by omega, hK2, hdr.drewN _⟩
    · have h1i : ¬ (j : Int) < (n : Int) := by omega
      have hT := Lib.hid (HN.out fun k v hk => HK.out k v (by have := (List.getElem?_eq_some_iff.1 hk).1; rw [← Hn.out] at this; omega) hk)
      clear HK
      go_wp2
      go_ret
      exact ⟨by rw [hT.out]; rfl, HB.out.trans (hdr.below _)⟩
set_option maxHeartbeats 2000000 in
set_option maxRecDepth 100000 in
theorem l3GoesF_c {w : World} {vs vl : Value} {z : Sh} {out : List (List Nat)} {u : List Nat} (hz : ShR w vs z) (hf : ∀ f, f ∈ z.2 → f.size ≤ 1048576) (hl : TsR w vl (out.map wordT)) (hu : Two u) (ho : ∀ v, v ∈ out → Two v) :
    Calls Tryz.prog 95 #[vs, vl, .string (wordT u), .bool false] w fun e w' => e = .returned (.bool (out.any fun v => goesB z.2 v u)) ∧ Below w.heap.size w w' := by
  obtain ⟨L, F⟩ := z
  obtain ⟨va, rfl, ht⟩ := hz
  simp only at ht hf
  obtain ⟨w0, e0, hb0, c0, c1, m0⟩ := boxA_ex w 37 (.int .i64 L) va
  have HFr := Lib.hid (TsR.frame _ _ _ _ ht hb0)
  have hl0 := TsR.frame _ _ _ _ hl hb0
  have HB := Lib.hid hb0
  have Ho := Lib.hid ho
  have Hf := Lib.hid hf
  have hlen := hl0.len
  obtain ⟨a, c, rfl, -, -, hcell⟩ := hl0.shape
  rw [List.length_map] at hcell hlen
  obtain ⟨va1, va2, rfl, -⟩ := HFr.out.shape
  generalize hfl : F.length = fl at c1 e0 HFr ⊢
  have Hfl := Lib.hid hfl
  have HT := Lib.hid (fun (k : Nat) (v : List Nat) (h : out[k]? = some v) (h2 : goesB F v u = true) => (show (out.any fun v => goesB F v u) = true from List.any_eq_true.2 ⟨v, List.mem_of_getElem? h, h2⟩))
  have HN := Lib.hid (fun (h : ∀ (k : Nat) (v : List Nat), out[k]? = some v → (goesB F v u) = false) => (show (out.any fun v => goesB F v u) = false from by
    rw [List.any_eq_false]
    intro v hv
    obtain ⟨k, hk⟩ := List.getElem?_of_mem hv
    rw [h k v hk]
    decide))
  have HG := Lib.hid (fun (v : List Nat) => (show (goesB F v u) = (decide (v.getD 1 0 = u.getD 0 0) && avoM F (wordT (v ++ u.drop 1))) from rfl))
  generalize (out.any fun v => goesB F v u) = T at HT HN ⊢
  obtain ⟨n, hn⟩ : ∃ n, n = out.length := ⟨_, rfl⟩
  have Hn := Lib.hid hn
  rw [List.length_map, ← hn]
  rw [← hn] at hcell hlen
  have Hcell := Lib.hid hcell
  obtain ⟨hus, hu0, hu1, hue, -⟩ := hu.facts
  obtain ⟨su, hsu⟩ : ∃ x, x = wordT u := ⟨_, rfl⟩
  obtain ⟨ui, hui⟩ : ∃ x, x = 97 + u.getD 0 0 := ⟨_, rfl⟩
  have Hui := Lib.hid hui
  rw [← hui] at hu0
  rw [← hsu] at hus hu0 hu1 hue ⊢
  have Hsu := Lib.hid hsu
  have Hue := Lib.hid hue
  clear hcell hn ht hl hl0 hf hfl ho hb0 hsu hui hue
  go_enter Tryz.func95, Tryz.ntmps95
  go_wp2
  go_loopg [9] n (fun g i wr => ∃ (j : Nat), i = .int .i64 j ∧ j + g = n ∧ Hid (∀ (k : Nat) (v : List Nat), k < j → out[k]? = some v → (goesB F v u) = false) ∧ Drawn w0 wr)
  case atStart => exact ⟨0, rfl, by omega, Lib.hid (fun k v hk => absurd hk (Nat.not_lt_zero _)), Drawn.refl _⟩
  case round =>
    obtain ⟨j, rfl, hj, HK, hdr⟩ := hrel
    by_cases h1 : j < n
    · have h1i : (j : Int) < (n : Int) := by omega
      obtain ⟨g, rfl⟩ : ∃ x, gk = x + 1 := ⟨gk - 1, by omega⟩
      obtain ⟨b, o, rfl, -, hx⟩ := Hcell.out (by omega)
      obtain ⟨v, hv, -⟩ := at_lt (xs := out) (k := j) (by rw [← Hn.out]; exact h1)
      obtain ⟨y, hy, hy2⟩ := hx j (wordT v) (by rw [List.getElem?_map, hv]; rfl)
      have hy2' : y = .string (wordT v) := hy2
      subst hy2'
      rw [← hdr.cell] at c0 c1 hy
      obtain ⟨hvs, hv0, hv1, hve, -⟩ := (Ho.out v (List.mem_of_getElem? hv)).facts
      obtain ⟨sv, hsv⟩ : ∃ x, x = wordT v := ⟨_, rfl⟩
      obtain ⟨vi, hvi⟩ : ∃ x, x = 97 + v.getD 1 0 := ⟨_, rfl⟩
      have Hvi := Lib.hid hvi
      rw [← hvi] at hv1
      rw [← hsv] at hvs hv0 hv1 hve hy
      have Hsv := Lib.hid hsv
      have Hve := Lib.hid hve
      have hex : (su).extract 1 (su).size = (su).extract 1 2 := by rw [hus]
      have hes : ((su).extract 1 2).size = 1 := by rw [ByteArray.size_extract, hus]; rfl
      have HA := Lib.hid (fun (wb : World) (hd : Drawn w0 wb) (m : Nat) => Reads.quiet (avo_q (s := sv ++ su.extract 1 2) ((hd.read TsR.frame HFr.out).dn' m) (by rw [ByteArray.size_append, hes, hvs]; omega) Hf.out))
      have hcat : (sv ++ su.extract 1 2) = (wordT (v ++ u.drop 1)) := by rw [Hue.out, Hsv.out, wordT_append]
      have hcatA : avoM F (sv ++ su.extract 1 2) = avoM F (wordT (v ++ u.drop 1)) := by rw [hcat]
      clear hcat
      have hnx : (goesB F v u) = false → Hid (∀ (k : Nat) (v : List Nat), k < j + 1 → out[k]? = some v → (goesB F v u) = false) := fun hg => Lib.hid fun k v' hk hv' => by
        by_cases e : k = j
        · rw [e, hv] at hv'
          cases hv'
          exact hg
        · exact HK.out k v' (by omega) hv'
      have hyes : (goesB F v u) = true → Hid (T = true) := fun hg => Lib.hid (HT.out j v hv hg)
      have hgv := HG.out v
      clear hx hv hy2 hsv hvi hve
      have hs0 : ¬ (sv).size + ((su).extract 1 2).size > 9223372036854775807 := two_add' (hvs) hes
      by_cases hq : v.getD 1 0 = u.getD 0 0
      · have t0 : vi = ui := by rw [Hvi.out, Hui.out, hq]
        have t1 : ((vi : Int) == (ui : Int)) = true := by rw [t0]; simp
        clear t0
        rw [decide_eq_true hq, Bool.true_and] at hgv
        cases hav : avoM F (wordT (v ++ u.drop 1)) with
        | true =>
          have hT := hyes (by rw [hgv, hav])
          rw [hcatA, hav] at HA
          clear hgv hav hyes hnx HK hcatA
          go_wp2
          go_quiet (fail)
          rename_i nq
          have hdq := hdr.drewN nq
          have c0q : (wr.drewN nq).cell? ⟨w.heap.size, 0, none⟩ = _ := c0
          have c1q : (wr.drewN nq).cell? ⟨w.heap.size, 1, none⟩ = _ := c1
          have hyq : (wr.drewN nq).cell? ⟨b, o + j, none⟩ = _ := hy
          generalize wr.drewN nq = wq at hdq c0q c1q hyq ⊢
          go_wp2
          go_quiet ((go_at_call 87; refine HA.out _ ?_ _; first | exact hdq | exact hdr))
          go_wp2
          go_ret
          exact ⟨by rw [hT.out]; rfl, HB.out.trans ((hdq.drewN _).below _)⟩
        | false =>
          have hK2 := hnx (by rw [hgv, hav])
          rw [hcatA, hav] at HA
          clear hgv hav hyes hnx HK hcatA
          go_wp2
          go_quiet (fail)
          rename_i nq
          have hdq := hdr.drewN nq
          have c0q : (wr.drewN nq).cell? ⟨w.heap.size, 0, none⟩ = _ := c0
          have c1q : (wr.drewN nq).cell? ⟨w.heap.size, 1, none⟩ = _ := c1
          have hyq : (wr.drewN nq).cell? ⟨b, o + j, none⟩ = _ := hy
          generalize wr.drewN nq = wq at hdq c0q c1q hyq ⊢
          go_wp2
          go_quiet ((go_at_call 87; refine HA.out _ ?_ _; first | exact hdq | exact hdr))
          go_wp2
          go_roundg g
          case measure => omega
          case rel => exact ⟨j + 1, by go_num, by omega, hK2, hdq.drewN _⟩
      · have t1 : ((vi : Int) == (ui : Int)) = false := by
          have : vi ≠ ui := by rw [Hvi.out, Hui.out]; omega
          simp; omega
        rw [decide_eq_false hq, Bool.false_and] at hgv
        have hK2 := hnx hgv
        clear hgv hyes hnx HK HA hcatA
        go_wp2
        go_quiet (fail)
        go_wp2
        go_quiet (fail)
        go_wp2
        go_roundg g
        case measure => omega
        case rel => exact ⟨j + 1, by go_num, by omega, hK2, hdr.drewN _⟩
    · have h1i : ¬ (j : Int) < (n : Int) := by omega
      have hT := Lib.hid (HN.out fun k v hk => HK.out k v (by have := (List.getElem?_eq_some_iff.1 hk).1; rw [← Hn.out] at this; omega) hk)
      clear HK
      go_wp2
      go_ret
      exact ⟨by rw [hT.out]; rfl, HB.out.trans (hdr.below _)⟩
end Go.Proofs.YtcilgihmaaobeaaGreatDoor
end
