/-
  Laws for this claim's walks, contracts of the functions that it reaches.
-/
import Derived.Test.YtcilgihmaaobeaaGreatDoorFnLabelsM31
import Derived.Test.YtcilgihmaaobeaaGreatDoorFnLabelsM18
set_option linter.unusedVariables false
set_option linter.unusedSimpArgs false
section
namespace Go.Proofs.YtcilgihmaaobeaaGreatDoor
open Go.RowKit Go.Deep Go.Sd
set_option linter.unusedSimpArgs false
abbrev ResG (v : Value) (M : List (List Int)) : Res := Res.of (OTab 3 61) (OTab.kept _ _).held v M
theorem OBool.kept : Kept (OValR Value.bool) := ⟨fun _ _ _ _ _ h _ => h, fun _ _ _ _ h b hb => by rw [h.2] at hb; simp at hb, fun _ _ _ _ h => by rw [h.1]; rfl⟩
abbrev Res.bools (e : TypeId) (v : Value) (xs : List Bool) : Res := Res.of (OwnOf e (OValR Value.bool)) (OwnOf.kept OBool.kept).held v xs
theorem _root_.Go.Sd.Sep.boolsAt {lo : Nat} {w : World} {e : TypeId} {v : Value} {xs : List Bool} {rs : List Res} (h : Sep lo w (Res.bools e v xs :: rs)) : ∃ a c, v = .slice a xs.length c ∧ (0 < xs.length → ∃ b, a = some ⟨b, 0, none⟩ ∧ b < w.heap.size ∧ ∀ i x, xs[i]? = some x → w.cell? ⟨b, i, none⟩ = some (.bool x)) := by
  obtain ⟨G, hG, hf, _⟩ := h.head
  have hG' : OwnOf e (OValR Value.bool) w v xs G := hG
  have hrd : SlOf (ValR Value.bool) w v xs := OwnOf.reads (fun _ _ _ _ h => h.1) hG'
  obtain ⟨a, c, rfl, _, _, h1⟩ := hrd.shape
  refine ⟨a, c, rfl, fun h0 => ?_⟩
  obtain ⟨b, o, rfl, hb, hx⟩ := h1 h0
  obtain ⟨x0, hx0, _⟩ := at_lt h0
  obtain ⟨b', c', u, G2, hv, _⟩ := hG'.focus OBool.kept hf.1 hx0
  have e1 : b = b' ∧ o = 0 := by simp at hv; exact ⟨hv.1.1, hv.1.2⟩
  obtain ⟨rfl, rfl⟩ := e1
  refine ⟨b, rfl, hb, fun i x hi => ?_⟩
  obtain ⟨u, hu, rfl⟩ := hx i x hi
  simpa using hu
/-! The rows of the graph of avoiding pairs. -/
def nxR (F : List ByteArray) (W : List (List Nat)) (i m : Nat) : List Int := ((List.range m).filter fun j => goesB F (W.getD i []) (W.getD j [])).map fun j : Nat => (j : Int)
def nxM (F : List ByteArray) (W : List (List Nat)) : List (List Int) := (List.range W.length).map fun i => nxR F W i W.length
theorem nxR_succ (F : List ByteArray) (W : List (List Nat)) (i m : Nat) : nxR F W i (m + 1) = nxR F W i m ++ (if goesB F (W.getD i []) (W.getD m []) = true then [(m : Int)] else []) := by
  unfold nxR
  rw [List.range_succ, List.filter_append, List.map_append]
  congr 1
  rw [List.filter_cons]
  split <;> rfl
theorem nxR_len (F : List ByteArray) (W : List (List Nat)) (i m : Nat) : (nxR F W i m).length ≤ m := by
  unfold nxR
  rw [List.length_map]
  exact Nat.le_trans (List.length_filter_le _ _) (by simp)
theorem nxM_len (F : List ByteArray) (W : List (List Nat)) : (nxM F W).length = W.length := by simp [nxM]
theorem nxM_at {F : List ByteArray} {W : List (List Nat)} {i : Nat} (h : i < W.length) : (nxM F W)[i]? = some (nxR F W i W.length) := by simp [nxM, h]
theorem nxM_take {F : List ByteArray} {W : List (List Nat)} {i : Nat} (h : i < W.length) : (nxM F W).take i ++ [nxR F W i W.length] = (nxM F W).take (i + 1) := by rw [List.take_add_one, nxM_at h]; rfl
theorem nxM_in (F : List ByteArray) (W : List (List Nat)) : ∀ r, r ∈ nxM F W → ∀ x, x ∈ r → 0 ≤ x ∧ x < (W.length : Int) := by
  intro r hr x hx
  obtain ⟨i, _, rfl⟩ := List.mem_map.1 hr
  obtain ⟨j, hj, rfl⟩ := List.mem_map.1 hx
  have := List.mem_range.1 (List.mem_filter.1 hj).1
  omega
theorem nxM_ent {F : List ByteArray} {W : List (List Nat)} {i j : Nat} (hi : i < W.length) (hj : j < W.length) : EntN (nxM F W) i j ↔ EG F W i j := by
  unfold EntN EG
  rw [List.getD_eq_getElem?_getD, nxM_at hi]
  simp only [Option.getD_some]
  unfold nxR
  rw [List.mem_map]
  constructor
  · rintro ⟨m, hm, e⟩
    have e : m = j := by omega
    subst e
    exact ⟨_, _, at_of hi, at_of hj, (List.mem_filter.1 hm).2⟩
  · rintro ⟨u, v, hu, hv, h⟩
    refine ⟨j, List.mem_filter.2 ⟨List.mem_range.2 hj, ?_⟩, rfl⟩
    rw [getD_of hu, getD_of hv]
    exact h
theorem nxM_live (F : List ByteArray) (W : List (List Nat)) : liveL (EntN (nxM F W)) W.length = liveL (EG F W) W.length := liveL_congr fun i j hi hj => nxM_ent hi hj
theorem pick_snoc {α : Type} (x : α) (b : Bool) : ∀ (xs : List α) (bs : List Bool), xs.length = bs.length → pick (xs ++ [x]) (bs ++ [b]) = pick xs bs ++ (if b = true then [x] else [])
  | [], [], _ => by
    cases b with
    | true => rfl
    | false => rfl
  | [], _ :: _, h => by cases h
  | _ :: _, [], h => by cases h
  | y :: ys, c :: cs, h => by
    have ih := pick_snoc x b ys cs (by simpa using h)
    show pick (y :: (ys ++ [x])) (c :: (cs ++ [b])) = _
    cases c with
    | true => rw [pick_t, pick_t, ih]; rfl
    | false => rw [pick_f, pick_f, ih]
theorem pick_take {α : Type} {xs : List α} {bs : List Bool} {k : Nat} {x : α} {b : Bool} (hx : xs[k]? = some x) (hb : bs[k]? = some b) : pick (xs.take (k + 1)) (bs.take (k + 1)) = pick (xs.take k) (bs.take k) ++ (if b = true then [x] else []) := by
  rw [← take_snoc' hx, ← take_snoc' hb]
  refine pick_snoc x b _ _ ?_
  have h1 := (List.getElem?_eq_some_iff.1 hx).1
  have h2 := (List.getElem?_eq_some_iff.1 hb).1
  simp
  omega
theorem pick_le {α : Type} : ∀ (xs : List α) (bs : List Bool), (pick xs bs).length ≤ xs.length
  | [], _ => by simp [pick]
  | _ :: _, [] => by simp [pick]
  | x :: xs, b :: bs => by
    have := pick_le xs bs
    cases b with
    | true => rw [pick_t]; simp; exact this
    | false => rw [pick_f]; simp; omega
set_option maxHeartbeats 1000000 in
set_option maxRecDepth 100000 in
theorem lively_nil {w : World} {a : Option Addr} {c : Nat} :
    Calls Tryz.prog 42 #[.slice a 0 c] w (Makes (OwnOf 4 (OValR Value.bool)) w []) := by
  have hmk : ∀ w : World, (Instr.makeSlice 69 (.int .i64 0) (.int .i64 0)).run Tryz.prog w = .ok (.slice (some ⟨w.heap.size, 0, none⟩) 0 0) (w.alloc (.cells (madeCells #[.bool false] 0) 4)) := fun w => run_make_row' (P := Tryz.prog) 69 4 (.bool false) 1 Tryz.underlying69 infoB rfl .i64 .i64 0 (by omega) (by omega) (w := w)
  have HN := Lib.hid (New.made (R := OValR Value.bool) 4 w (.bool false) false 0 (Nat.le_refl w.heap.size) (by omega) (fun _ => ⟨rfl, rfl⟩))
  have HB := Lib.hid ((Below.refl w.heap.size w).alloc (Nat.le_refl _) (.cells (madeCells #[.bool false] 0) 4))
  go_enter Tryz.func42, Tryz.ntmps42
  go_wp2
  clear hmk
  go_loopg [17] 1 (fun g i wr => i = .int .i64 0 ∧ g = 1 ∧ wr = w.alloc (.cells (madeCells #[.bool false] 0) 4))
  case atStart => exact ⟨rfl, rfl, rfl⟩
  case round =>
    obtain ⟨rfl, -, rfl⟩ := hrel
    go_wp2
    go_loopg [26] 1 (fun g i wr => i = .int .i64 0 ∧ g = 1 ∧ wr = w.alloc (.cells (madeCells #[.bool false] 0) 4))
    case atStart => exact ⟨rfl, rfl, rfl⟩
    case round =>
      obtain ⟨rfl, -, rfl⟩ := hrel
      go_wp2
      go_ret
      exact ⟨_, rfl, HN.out, HB.out⟩
set_option maxHeartbeats 8000000 in
set_option maxRecDepth 100000 in
theorem states_c {w : World} {vs : Value} {L : Nat} {F : List ByteArray} (hz : ShR w vs ((L : Int), F)) (h0 : 0 < L) (h3 : L ≤ 3) (hM : MaxOk w) :
    Calls Tryz.prog 122 #[vs] w (Makes (OStrL 9) w ((pairsM F L).map wordT)) := by
  have HP := Lib.hid (show pairsM F L = pick (avoW F L) (liveL (EG F (avoW F L)) (avoW F L).length) from rfl)
  have HFi := Lib.hid (fun w1 (hb : Below w.heap.size w w1) => (show Calls Tryz.prog 37 #[.int .i64 (L : Int), .int .i64 2, .func (.func 81) #[vs] #[]] w1 _ from filteredM_c (w := w1) (n := 2) h0 h3 (by decide) (F := 81) (recv := vs) (f := fun wd => avoM F (wordT wd)) (fun _ _ => rfl) fun w2 wd hb2 hl _ => (show Calls Tryz.prog 81 #[vs, .string (wordT wd)] w2 (fun e w' => e = .returned (.bool (avoM F (wordT wd))) ∧ Below w2.heap.size w2 w') from avoids_c (ShR.frame _ _ _ _ (ShR.frame _ _ _ _ hz hb) hb2) ((hM.below hb).below hb2) (by rw [wordT_size, hl]; decide))))
  have HAv := Lib.hid (fun w1 (hb : Below w.heap.size w w1) (s : ByteArray) (hs : s.size ≤ 1000) => (show Calls Tryz.prog 81 #[vs, .string s] w1 (fun e w' => e = .returned (.bool (avoM F s)) ∧ Below w1.heap.size w1 w') from avoids_c (ShR.frame _ _ _ _ hz hb) (hM.below hb) hs))
  have HFe := Lib.hid (show (allW L 2).filter (fun wd => avoM F (wordT wd)) = avoW F L from rfl)
  rw [HFe.out] at HFi
  have HTw := Lib.hid (fun u (h : u ∈ avoW F L) => avoW_two h0 h3 h)
  have h9 : (avoW F L).length ≤ 9 := by
    refine Nat.le_trans (List.length_filter_le _ _) ?_
    rw [allW_len h0]
    exact Nat.pow_le_pow_left h3 2
  have HNi := Lib.hid (nxM_in F (avoW F L))
  have HNl := Lib.hid (nxM_live F (avoW F L))
  generalize pairsM F L = PM at HP ⊢
  generalize avoW F L = W at HP HFi HTw h9 HNi HNl
  clear HFe
  obtain ⟨va, rfl, ht⟩ := hz
  simp only at ht HFi HAv
  obtain ⟨w0, e0, hb0, c0, c1, m0⟩ := boxA_ex w 37 (.int .i64 L) va
  obtain ⟨va1, va2, rfl, -⟩ := ht.shape
  generalize F.length = fl at c1 e0 HFi HAv ⊢
  have HB0 := Lib.hid hb0
  have hmf : ∀ (fn : Fn) (first cap : Array Value) (w : World), (Instr.makeFunc fn first cap).run Tryz.prog w = .ok (.func fn first cap) w := fun _ _ _ _ => rfl
  obtain ⟨n, hn⟩ : ∃ n, n = W.length := ⟨_, rfl⟩
  have Hn := Lib.hid hn
  rw [← hn] at h9 HNi HNl HP
  have HNM := Lib.hid (nxM_len F W)
  clear ht hb0 hM
  go_enter Tryz.func122, Tryz.ntmps122
  go_wp2_with fail
  (with_reducible refine (HFi.out _ HB0.out).mono ?_)
  rintro e w1 ⟨sv, rfl, hn1, hb1⟩
  have hs1 := Sep.one (OwnOf.kept OStr.kept).held hn1
  obtain ⟨sa, sc, es, hq⟩ := hs1.strsAt
  subst es
  rw [List.length_map, ← hn] at hq ⊢
  have c0 := (hb1.cell (p := ⟨w.heap.size, 0, none⟩) m0).trans c0
  have c1 := (hb1.cell (p := ⟨w.heap.size, 1, none⟩) m0).trans c1
  have m1 : w.heap.size < w1.heap.size := Nat.lt_of_lt_of_le m0 hb1.size
  have HB1 := Lib.hid (HB0.out.trans (hb1.mono HB0.out.size))
  have z1 : w.heap.size ≤ w1.heap.size := Nat.le_of_lt m1
  have Hq := Lib.hid hq
  have HN0 := Lib.hid (Sep.one (OTab.kept 3 61).held (New.empty (lo := w1.heap.size) (e := 61) (R := OInts 3) w1 (Nat.le_refl _)))
  obtain ⟨w2, e2⟩ : ∃ x, x = w1.alloc (.cells #[] 61) := ⟨_, rfl⟩
  rw [← e2] at HN0
  have HB2 := Lib.hid (show Below w1.heap.size w1 w2 from by rw [e2]; exact (Below.refl _ _).alloc (Nat.le_refl _) _)
  have e2s := e2.symm
  clear hb1 hn1 hs1 HFi hn HB0 m0 hq e2 hmf
  go_wp2
  clear e2s
  go_loopg [4, 21] n (fun g nv i wr => ∃ (k : Nat) (na : Option Addr) (nc : Nat), nv = .slice na k nc ∧ i = .int .i64 k ∧ k + g = n ∧ Hid (Sep w1.heap.size wr [ResG (.slice na k nc) ((nxM F W).take k)]) ∧ Hid (Below w1.heap.size w1 wr))
  case atStart => exact ⟨0, _, _, rfl, rfl, by omega, HN0, HB2⟩
  case round =>
    clear HN0 HB2
    obtain ⟨k, na, nc, rfl, rfl, hk, HS, HB⟩ := hrel
    obtain ⟨wA, rfl⟩ : ∃ x, x = wr := ⟨_, rfl⟩
    have zA := HB.out.size
    by_cases hlt : k < n
    · obtain ⟨g, rfl⟩ : ∃ x, gk = x + 1 := ⟨gk - 1, by omega⟩
      obtain ⟨b, e1, hb, hc⟩ := Hq.out (by omega)
      subst e1
      have Hc := Lib.hid hc
      have hki : (k : Int) < (n : Int) := by omega
      obtain ⟨u, hu, _⟩ := at_lt (xs := W) (k := k) (by rw [← Hn.out]; exact hlt)
      have gu := hc k (wordT u) (by rw [List.getElem?_map, hu]; rfl)
      have gu := (HB.out.cell (p := ⟨b, k, none⟩) hb).trans gu
      have Hu := Lib.hid hu
      have HS0 := Lib.hid (HS.out.new (OInts.kept 3).held ((Below.refl _ _).alloc (Nat.le_refl _) _) zA (New.empty (e := 3) (R := OIntR) wA (Nat.le_refl _)))
      obtain ⟨wN, eN⟩ : ∃ x, x = wA.alloc (.cells #[] 3) := ⟨_, rfl⟩
      rw [← eN] at HS0
      have HBN := Lib.hid (show Below w1.heap.size w1 wN from by rw [eN]; exact HB.out.alloc zA _)
      have eNs := eN.symm
      obtain ⟨hus, -, hu1, -, -⟩ := (HTw.out u (List.mem_of_getElem? hu)).facts
      obtain ⟨ui, hui⟩ : ∃ x, x = 97 + u.getD 1 0 := ⟨_, rfl⟩
      rw [← hui] at hu1
      obtain ⟨su, hsu⟩ : ∃ x, x = wordT u := ⟨_, rfl⟩
      rw [← hsu] at gu hus hu1
      have Hsu := Lib.hid hsu
      have Hui := Lib.hid hui
      clear eN HS HB hu hc hsu hui
      go_wp2
      clear eNs gu
      go_loopg [7, 28] n (fun g rv i wr => ∃ (j : Nat) (ra : Option Addr) (rc : Nat), rv = .slice ra (nxR F W k j).length rc ∧ i = .int .i64 j ∧ j + g = n ∧ Hid (Sep w1.heap.size wr [Res.ints 3 (.slice ra (nxR F W k j).length rc) (nxR F W k j), ResG (.slice na k nc) ((nxM F W).take k)]) ∧ Hid (Below w1.heap.size w1 wr))
      case atStart => exact ⟨0, _, _, rfl, rfl, by omega, HS0, HBN⟩
      case round =>
        clear HS0 HBN
        obtain ⟨j, ra, rc, rfl, rfl, hj, HS, HB⟩ := hrel
        obtain ⟨wB, rfl⟩ : ∃ x, x = wr := ⟨_, rfl⟩
        have zB := HB.out.size
        by_cases hltj : j < n
        · obtain ⟨g2, rfl⟩ : ∃ x, gk = x + 1 := ⟨gk - 1, by omega⟩
          have hji : (j : Int) < (n : Int) := by omega
          obtain ⟨v, hv, _⟩ := at_lt (xs := W) (k := j) (by rw [← Hn.out]; exact hltj)
          have gv := Hc.out j (wordT v) (by rw [List.getElem?_map, hv]; rfl)
          have gv := (HB.out.cell (p := ⟨b, j, none⟩) hb).trans gv
          have k0 := (HB.out.cell (p := ⟨w.heap.size, 0, none⟩) m1).trans c0
          have k1 := (HB.out.cell (p := ⟨w.heap.size, 1, none⟩) m1).trans c1
          have mB : w.heap.size < wB.heap.size := Nat.lt_of_lt_of_le m1 zB
          obtain ⟨hvs, hv0, hv1, hve, -⟩ := (HTw.out v (List.mem_of_getElem? hv)).facts
          have hgo : goesB F u v = (decide (u.getD 1 0 = v.getD 0 0) && avoM F (wordT (u ++ v.drop 1))) := rfl
          have hex : (wordT v).extract 1 (wordT v).size = (wordT v).extract 1 2 := by rw [hvs]
          have hes : ((wordT v).extract 1 2).size = 1 := by rw [ByteArray.size_extract, hvs]; rfl
          have hs0 : ¬ su.size + ((wordT v).extract 1 2).size > 9223372036854775807 := two_add' hus hes
          have hcat : su ++ (wordT v).extract 1 2 = wordT (u ++ v.drop 1) := by rw [hve, Hsu.out, wordT_append]
          have hBw : Below w.heap.size w wB := HB1.out.trans (HB.out.mono z1)
          have HA := Lib.hid (fun w' (hb' : Below wB.heap.size wB w') => HAv.out w' (hBw.trans (hb'.mono hBw.size)) (su ++ (wordT v).extract 1 2) (by rw [ByteArray.size_append, hes, hus]; decide))
          have HX := Lib.hid (show nxR F W k (j + 1) = nxR F W k j ++ (if goesB F u v = true then [(j : Int)] else []) from by rw [nxR_succ, getD_of Hu.out, getD_of hv])
          have hrl : (nxR F W k j).length ≤ 9 := Nat.le_trans (nxR_len F W k j) (by omega)
          obtain ⟨row, hrow⟩ : ∃ r, r = nxR F W k j := ⟨_, rfl⟩
          rw [← hrow] at HS HX hrl ⊢
          obtain ⟨vi, hvi⟩ : ∃ x, x = 97 + v.getD 0 0 := ⟨_, rfl⟩
          rw [← hvi] at hv0
          have Huv := Lib.hid (show (vi = ui ↔ u.getD 1 0 = v.getD 0 0) from by rw [Hui.out, hvi]; omega)
          have Hgo := Lib.hid hgo
          have Hcat := Lib.hid hcat
          clear hvi hv hgo hve hcat hv1 hrow hBw
          obtain ⟨sv, hsv⟩ : ∃ x, x = wordT v := ⟨_, rfl⟩
          rw [← hsv] at gv hvs hv0 hex hes hs0 HA Hcat
          clear hsv
          by_cases hq : u.getD 1 0 = v.getD 0 0
          · have t0' : vi = ui := Huv.out.2 hq
            have t1 : ((ui : Int) == (vi : Int)) = true := by rw [t0']; simp
            have HgA := Lib.hid (show goesB F u v = avoM F (su ++ sv.extract 1 2) from by rw [Hgo.out, decide_eq_true hq, Bool.true_and, Hcat.out])
            generalize avoM F (su ++ sv.extract 1 2) = av at HA HgA
            generalize goesB F u v = gg at HgA HX
            clear t0' Hgo Huv hq Hcat
            have HSS := Lib.hid (fun (w' : World) (hb' : Below wB.heap.size wB w') => (show w'.cell? ⟨w.heap.size, 0, none⟩ = some (.int .i64 L) ∧ w'.cell? ⟨w.heap.size, 1, none⟩ = some (.slice va1 fl va2) from ⟨(hb'.cell (p := ⟨w.heap.size, 0, none⟩) mB).trans k0, (hb'.cell (p := ⟨w.heap.size, 1, none⟩) mB).trans k1⟩))
            have hS0 := HSS.out _ (Below.refl _ _)
            have B1 := (Below.refl wB.heap.size wB).drew
            have hSd := HSS.out _ B1
            go_wp2
            go_region_held3 (fun w' => w'.cell? ⟨w.heap.size, 0, none⟩ = some (.int .i64 L) ∧ w'.cell? ⟨w.heap.size, 1, none⟩ = some (.slice va1 fl va2))
              (first | with_reducible exact hS2 | with_reducible exact hSd | with_reducible exact hS0 | go_keep)
              ((first
                | (go_at_call 81; (with_reducible refine (HA.out _ B1).mono ?_); rintro e u1 ⟨rfl, q1⟩; have B2 := B1.trans (q1.mono B1.size); have hS2 := HSS.out _ B2)
                | fail))
            all_goals
              have hs2 := HS.out.below B2 (Nat.le_refl _)
              have hb2 := HB.out.trans (B2.mono zB)
              have z2 := hb2.size
              cases av with
              | false =>
                have HT := Lib.hid (show nxR F W k (j + 1) = row from by rw [HX.out, HgA.out]; simp)
                have HS2 := Lib.hid hs2
                have HB2 := Lib.hid hb2
                clear HX HgA HA HS HB hs2 hb2 B1 B2 q1 HSS
                go_wp2
                go_roundg g2
                case measure => omega
                case rel => exact ⟨j + 1, _, _, by rw [HT.out], by go_num, by omega, by rw [HT.out]; exact HS2, HB2⟩
              | true =>
                have HT := Lib.hid (show nxR F W k (j + 1) = row ++ [(j : Int)] from by rw [HX.out, HgA.out]; simp)
                obtain ⟨ra', rc', w9, hr9, hs9, hb9⟩ := hs2.pushInt (P := Tryz.prog) 61 61 Tryz.underlying61 infoI z2 (j : Int) (by omega) 3
                have e9 : (row ++ [(j : Int)]).length = row.length + 1 := by simp
                rw [e9] at hr9 hs9
                have HS9 := Lib.hid hs9
                have HB9 := Lib.hid (hb2.trans hb9)
                have Hr9 := Lib.hid hr9
                have E9 := Lib.hid e9
                clear hr9 hs9 hb9 e9 HX HgA HA HS HB hs2 hb2 B1 B2 q1 HSS
                go_wp2_with (first
                  | (at_builtin; refine wpl_append_run rfl (.tmp 46) (.tmp 48) 61 rfl rfl rfl Hr9.out ?_)
                  | fail)
                go_roundg g2
                case measure => omega
                case rel => exact ⟨j + 1, _, _, by rw [HT.out, E9.out], by go_num, by omega, by rw [HT.out, E9.out]; exact HS9, HB9⟩
          · have t1 : ((ui : Int) == (vi : Int)) = false := by
              have : ¬ vi = ui := fun h => hq (Huv.out.1 h)
              simp; omega
            have HT := Lib.hid (show nxR F W k (j + 1) = row from by rw [HX.out, Hgo.out, decide_eq_false hq, Bool.false_and]; simp)
            clear HX Hgo Huv hq Hcat HA
            go_wp2
            go_quiet (fail)
            rename_i nq
            have HS2 := Lib.hid (HS.out.below (below_drewN (Below.refl wB.heap.size wB) nq) (Nat.le_refl _))
            have HB2 := Lib.hid (below_drewN HB.out nq)
            clear HS HB
            go_wp2
            go_roundg g2
            case measure => omega
            case rel => exact ⟨j + 1, _, _, by rw [HT.out], by go_num, by omega, by rw [HT.out]; exact HS2, HB2⟩
        · obtain rfl : j = n := by omega
          have hji : ¬ ((j : Int) < (j : Int)) := by omega
          have hkn := hlt
          have HX := Lib.hid (show (nxM F W).take k ++ [nxR F W k j] = (nxM F W).take (k + 1) from by have h := nxM_take (F := F) (W := W) (i := k) (by rw [← Hn.out]; exact hlt); rw [← Hn.out] at h; exact h)
          have Htl := Lib.hid (show ((nxM F W).take k).length = k from by rw [List.length_take, HNM.out, ← Hn.out]; omega)
          obtain ⟨v', w6, hr6, hs6, hb6⟩ := HS.out.swap.absorb (P := Tryz.prog) (OInts.kept 3) 42 42 (.slice none 0 0) 24 Tryz.underlying42 infoR rfl zB (w1 := wB.alloc (.cells #[.slice ra (nxR F W k j).length rc] 61)) ((Below.refl _ _).alloc (Nat.le_refl _) _) (bb := wB.heap.size) (c := 1) (World.cell?_alloc_at _ _ _ 0 rfl) (by rw [Htl.out]; omega) (by rw [Htl.out]; omega)
          rw [HX.out] at hs6
          obtain ⟨na', nc', ev, _⟩ := (New.tab hs6.headNew).shape
          have el : ((nxM F W).take (k + 1)).length = k + 1 := by rw [List.length_take, HNM.out, ← Hn.out]; omega
          rw [el] at ev
          rw [ev] at hr6 hs6
          have HS6 := Lib.hid hs6
          have HB6 := Lib.hid (HB.out.trans hb6)
          have Hr6 := Lib.hid hr6
          generalize (nxR F W k j).length = rl at Hr6
          clear hr6 hs6 hb6 ev el HS HB HX Htl
          go_wp2_with (first
            | (at_builtin; refine wpl_append_run rfl (.tmp 51) (.tmp 53) 42 rfl rfl rfl Hr6.out ?_)
            | fail)
          go_roundg g
          case measure => omega
          case rel => exact ⟨k + 1, _, _, rfl, by go_num, by omega, HS6, HB6⟩
    · obtain rfl : k = n := by omega
      have hki : ¬ ((k : Int) < (k : Int)) := by omega
      have HS1 := Lib.hid (show Sep w1.heap.size wA [ResG (.slice na k nc) (nxM F W)] from by have h := HS.out; rw [List.take_of_length_le (by rw [HNM.out, ← Hn.out]; exact Nat.le_refl _)] at h; exact h)
      have HS0 := Lib.hid (HS1.out.new (OwnOf.kept OStr.kept).held ((Below.refl _ _).alloc (Nat.le_refl _) _) zA (New.empty (e := 9) (R := OValR Value.string) wA (Nat.le_refl _)))
      obtain ⟨wN, eN⟩ : ∃ x, x = wA.alloc (.cells #[] 9) := ⟨_, rfl⟩
      rw [← eN] at HS0
      have HBN := Lib.hid (show Below w1.heap.size w1 wN from by rw [eN]; exact HB.out.alloc zA _)
      have eNs := eN.symm
      have HLv := Lib.hid (show ∀ (w' : World), w' = wN → Calls Tryz.prog 42 #[.slice na k nc] w' (Makes (OwnOf 4 (OValR Value.bool)) w' (liveL (EG F W) k)) from fun w' e => by
        by_cases hk0 : k = 0
        · subst hk0
          exact lively_nil
        · rw [← HNl.out]
          have ht : Tab w' (.slice na k nc) (nxM F W) := by rw [e]; exact New.tab HS0.out.swap.headNew
          exact lively_c ht (by rw [HNM.out, ← Hn.out]) HNi.out (by omega) (by omega))
      clear eN HS HB HS1
      go_wp2_with fail
      (with_reducible refine (HLv.out _ rfl).mono ?_)
      rintro e w5 ⟨bv, rfl, hn5, hb5⟩
      have zN := HBN.out.size
      have hs5 := HS0.out.new (OwnOf.kept OBool.kept).held hb5 zN hn5
      obtain ⟨ba, bc, eb, hbq⟩ := hs5.boolsAt
      rw [liveL_len] at eb hbq
      subst eb
      have HS5 := Lib.hid (show Sep w1.heap.size w5 [Res.strs 9 _ [], Res.bools 4 (.slice ba k bc) (liveL (EG F W) k)] from (hs5.swap.perm (by exact List.Perm.refl _)).front [_, _] |>.tail)
      have HB5 := Lib.hid (HBN.out.trans (hb5.mono zN))
      clear hs5 hb5 hn5 HBN HS0 HLv eNs hbq
      have Hll := Lib.hid (show (liveL (EG F W) k).length = k from liveL_len)
      have HPT := Lib.hid (show PM = pick (W.take k) ((liveL (EG F W) k).take k) from by rw [HP.out, List.take_of_length_le (by rw [← Hn.out]; exact Nat.le_refl _), List.take_of_length_le (by rw [liveL_len]; exact Nat.le_refl _)])
      generalize liveL (EG F W) k = B at HS5 Hll HPT
      clear HP HNl HNM HNi
      go_wp2
      go_loopg [10, 60] k (fun g ov i wr => ∃ (m : Nat) (oa : Option Addr) (oc : Nat), ov = .slice oa (pick (W.take m) (B.take m)).length oc ∧ i = .int .i64 m ∧ m + g = k ∧ Hid (Sep w1.heap.size wr [Res.strs 9 (.slice oa (pick (W.take m) (B.take m)).length oc) ((pick (W.take m) (B.take m)).map wordT), Res.bools 4 (.slice ba k bc) B]) ∧ Hid (Below w1.heap.size w1 wr))
      case atStart => exact ⟨0, _, _, rfl, rfl, by omega, HS5, HB5⟩
      case round =>
        clear HS5 HB5
        obtain ⟨m, oa, oc, rfl, rfl, hm, HS, HB⟩ := hrel
        obtain ⟨wC, rfl⟩ : ∃ x, x = wr := ⟨_, rfl⟩
        have zC := HB.out.size
        by_cases hlm : m < k
        · obtain ⟨g2, rfl⟩ : ∃ x, gk = x + 1 := ⟨gk - 1, by omega⟩
          have hmi : (m : Int) < (k : Int) := by omega
          obtain ⟨b, e1, hb, hc⟩ := Hq.out (by omega)
          subst e1
          obtain ⟨u, hu, _⟩ := at_lt (xs := W) (k := m) (by rw [← Hn.out]; exact hlm)
          have gu := hc m (wordT u) (by rw [List.getElem?_map, hu]; rfl)
          have gu := (HB.out.cell (p := ⟨b, m, none⟩) hb).trans gu
          obtain ⟨x, hx, _⟩ := at_lt (xs := B) (k := m) (by rw [Hll.out]; exact hlm)
          obtain ⟨_, _, hbv, hbq⟩ := HS.out.swap.boolsAt
          rw [Hll.out] at hbv hbq
          obtain ⟨bb, e2, hbb, hbc⟩ := hbq (by omega)
          have hbv := hbv.symm
          simp at hbv
          obtain ⟨rfl, rfl⟩ := hbv
          subst e2
          have gx := hbc m x hx
          have HX := Lib.hid (pick_take hu hx)
          have hol : (pick (W.take m) (B.take m)).length ≤ 9 := Nat.le_trans (pick_le _ _) (by simp; omega)
          obtain ⟨out, hout⟩ : ∃ r, r = pick (W.take m) (B.take m) := ⟨_, rfl⟩
          rw [← hout] at HS HX hol ⊢
          clear hu hx hbq hbc hc hout
          cases x with
          | false =>
            have HT := Lib.hid (show pick (W.take (m + 1)) (B.take (m + 1)) = out from by rw [HX.out]; simp)
            clear HX
            go_wp2
            go_roundg g2
            case measure => omega
            case rel => exact ⟨m + 1, _, _, by rw [HT.out], by go_num, by omega, by rw [HT.out]; exact HS, HB⟩
          | true =>
            have HT := Lib.hid (show pick (W.take (m + 1)) (B.take (m + 1)) = out ++ [u] from by rw [HX.out]; simp)
            obtain ⟨v', w6, hr, hs3, hb3⟩ := Sep.push (P := Tryz.prog) OStr.kept 29 29 (.string ⟨#[]⟩) 16 Tryz.underlying29 infoStr rfl HS.out zC (w1 := wC.alloc (.cells #[.string (wordT u)] 9)) ((Below.refl _ _).alloc (Nat.le_refl _) _) (q := .string (wordT u)) (x := wordT u) ⟨[], ⟨rfl, rfl⟩, by simp [Fresh]⟩ (bb := wC.heap.size) (c := 1) (World.cell?_alloc_at _ _ _ 0 rfl) (by simp; omega) (by simp; omega)
            obtain ⟨a', c', ev, _⟩ := hs3.strsAt
            subst ev
            have e5 : (out.map wordT ++ [wordT u]).length = (out ++ [u]).length := by simp
            have e6 : out.map wordT ++ [wordT u] = (out ++ [u]).map wordT := by simp
            rw [e5, e6] at hs3
            rw [e5] at hr
            have e7 : (out ++ [u]).length = out.length + 1 := by simp
            rw [e7] at hs3 hr
            have HS3 := Lib.hid hs3
            have HB3 := Lib.hid (HB.out.trans hb3)
            have Hr := Lib.hid hr
            have E7 := Lib.hid e7
            clear HX hs3 hr hb3 e5 e6 e7 HS HB
            go_wp2_with (first
              | (at_builtin; refine wpl_append_run rfl (.tmp 66) (.tmp 71) 29 rfl rfl rfl Hr.out ?_)
              | fail)
            go_roundg g2
            case measure => omega
            case rel => exact ⟨m + 1, _, _, by rw [HT.out, E7.out], by go_num, by omega, by rw [HT.out, E7.out]; exact HS3, HB3⟩
        · obtain rfl : m = k := by omega
          have hmi : ¬ ((m : Int) < (m : Int)) := by omega
          have HR := Lib.hid (show New (OStrL 9) w.heap.size wC (.slice oa (pick (W.take m) (B.take m)).length oc) (PM.map wordT) from by rw [HPT.out]; exact HS.out.headNew.mono z1)
          have HBf := Lib.hid (HB1.out.trans (HB.out.mono z1))
          generalize (pick (W.take m) (B.take m)).length = ol at HR
          clear HS HB
          go_wp2
          go_ret
          exact ⟨_, rfl, HR.out, HBf.out⟩
end Go.Proofs.YtcilgihmaaobeaaGreatDoor
end
