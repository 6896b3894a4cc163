/-
  Texts of this claim joined: laws for its walks, contracts of the functions that the law reaches.
-/
import Derived.Test.YtcilgihmaaobeaaLabelsOfM9
import Derived.Test.YtcilgihmaaobeaaRows
import Derived.Test.YtcilgihmaaobeaaLabelsOfM1
import Derived.Test.YtcilgihmaaobeaaLabelsOfM8
import Derived.Test.YtcilgihmaaobeaaLabelsOfM18
import Derived.Test.YtcilgihmaaobeaaLabelsOfM11
import Derived.Test.YtcilgihmaaobeaaLabelsOfM13
import Derived.Test.YtcilgihmaaobeaaLabelsOfM6
import Derived.IntWalk
import Derived.BigQuiet
import Derived.Deep.RegionHeld3
import Derived.Deep.DeepCutAuto
import Derived.Test.YtcilgihmaaobeaaLabelsOfM12
section
/-
  The words of a length for which a bound method holds: the program's filtered.
-/
namespace Go.Proofs.Ytcilgihmaaobeaa
open Go.RowKit Go.Deep Go.Sd
set_option linter.unusedSimpArgs false
set_option maxHeartbeats 2000000 in
set_option maxRecDepth 100000 in
theorem filteredM_c {w : World} {L n : Nat} (hL0 : 0 < L) (hL : L ≤ 3) (hn : n ≤ 6) {F : FuncId} {recv : Value} {f : List Nat → Bool} (hcf : ∀ (args : Array Value) (w : World), (callFunc F args).run Try.prog w = .ok (.enter F args) w) (hF : ∀ w1 wd, Below w.heap.size w w1 → wd.length = n → (∀ x, x ∈ wd → x < L) → Calls Try.prog F #[recv, .string (wordT wd)] w1 fun e w' => e = .returned (.bool (f wd)) ∧ Below w1.heap.size w1 w') :
    Calls Try.prog 51 #[.int .i64 L, .int .i64 n, .func (.func F) #[recv] #[]] w (Makes (OStrL 9) w (((allW L n).filter f).map wordT)) := by
  have HW := Lib.hid (fun w1 => wordsOf_c (w := w1) hL0 hL hn)
  have Hm := Lib.hid (fun wd (h : wd ∈ allW L n) => allW_mem hL0 h)
  have HF := Lib.hid hF
  have hM : (allW L n).length ≤ 729 := by rw [allW_len hL0]; exact pow_le hL hn
  have H0 := Lib.hid (New.empty (e := 9) (R := OValR Value.string) w (Nat.le_refl _))
  generalize allW L n = A at HW Hm hM ⊢
  clear hF
  obtain ⟨w0, e0⟩ : ∃ x, x = w.alloc (.cells #[] 9) := ⟨_, rfl⟩
  have B0 := Lib.hid (show Below w.heap.size w w0 from by rw [e0]; exact (Below.refl _ _).alloc (Nat.le_refl _) _)
  rw [← e0] at H0
  have e0s := e0.symm
  clear e0
  go_enter Try.func51, Try.ntmps51
  go_wp2_with fail
  refine (HW.out _).mono ?_
  rintro e w1 ⟨r, rfl, hn1, hb1⟩
  have hzw := B0.out.size
  have hs1 := ((Sep.one (OwnOf.kept OStr.kept).held H0.out).new (OwnOf.kept OStr.kept).held hb1 hzw hn1).swap
  obtain ⟨ra, rc, er, _⟩ := hs1.swap.strsAt
  subst er
  rw [List.length_map] at hs1 ⊢
  have HS1 := Lib.hid hs1
  have HB1 := Lib.hid (B0.out.trans (hb1.mono hzw))
  clear hn1 hb1 hs1 H0 B0 e0s
  go_wp2
  go_loopg [7, 15] A.length (fun g vs i wr => ∃ (k : Nat) (a : Option Addr) (c : Nat), vs = .slice a ((A.take k).filter f).length c ∧ i = .int .i64 k ∧ k + g = A.length ∧ Hid (Sep w.heap.size wr [Res.strs 9 (.slice a ((A.take k).filter f).length c) (((A.take k).filter f).map wordT), Res.strs 9 (.slice ra A.length rc) (A.map wordT)]) ∧ Hid (Below w.heap.size w wr))
  case atStart => exact ⟨0, _, _, rfl, rfl, by omega, HS1, HB1⟩
  case round =>
    clear HS1 HB1
    obtain ⟨k, a, c, rfl, rfl, hk, HS, HB⟩ := hrel
    by_cases hlt : k < A.length
    · obtain ⟨wd, hwd, _⟩ := at_lt hlt
      obtain ⟨_, _, hv, hq⟩ := HS.out.swap.strsAt
      obtain ⟨b, e1, hb, hc⟩ := hq (by simp; omega)
      simp at hv
      obtain ⟨rfl, rfl⟩ := hv
      subst e1
      have g0 := hc k (wordT wd) (by simp [hwd])
      have hm := Hm.out wd (List.mem_of_getElem? hwd)
      have C1 := Lib.hid (HF.out wr wd HB.out hm.1 hm.2)
      have hz := HB.out.size
      have hki : (k : Int) < (A.length : Int) := by omega
      have HT := Lib.hid (show (A.take (k + 1)).filter f = (A.take k).filter f ++ (if f wd = true then [wd] else []) from by rw [← take_snoc' hwd, List.filter_append]; congr 1; simp [List.filter_cons])
      have hfl : ((A.take k).filter f).length ≤ 729 := Nat.le_trans (List.length_filter_le _ _) (by simp; omega)
      generalize hfn : (A.take k).filter f = fl at HS HT hfl
      clear hfn hwd hq hc hm
      go_wp2_with fail
      refine C1.out.mono ?_
      rintro e w2 ⟨rfl, hb2⟩
      have HS2 := Lib.hid (HS.out.below hb2 (Nat.le_refl _))
      have HB2 := Lib.hid (HB.out.trans (hb2.mono hz))
      have g2 := (hb2.cell (p := ⟨b, k, none⟩) hb).trans g0
      have hz2 := HB2.out.size
      clear C1 hb2 HS HB g0 hb
      cases hf : f wd with
      | false =>
        have HT2 := Lib.hid (show (A.take (k + 1)).filter f = fl from by rw [HT.out, hf]; simp)
        clear HT
        go_wp2
        go_roundg (A.length - (k + 1))
        case measure => omega
        case rel => exact ⟨k + 1, _, _, by rw [HT2.out], by go_num, by omega, by rw [HT2.out]; exact HS2, HB2⟩
      | true =>
        have HT2 := Lib.hid (show (A.take (k + 1)).filter f = fl ++ [wd] from by rw [HT.out, hf]; simp)
        obtain ⟨v', w3, hr, hs3, hb3⟩ := Sep.push (P := Try.prog) OStr.kept 36 36 (.string ⟨#[]⟩) 16 Try.underlying36 infoStr rfl HS2.out hz2 (w1 := w2.alloc (.cells #[.string (wordT wd)] 9)) ((Below.refl _ _).alloc (Nat.le_refl _) _) (q := .string (wordT wd)) (x := wordT wd) ⟨[], ⟨rfl, rfl⟩, by simp [Fresh]⟩ (bb := w2.heap.size) (c := 1) (World.cell?_alloc_at _ _ _ 0 rfl) (by simp; omega) (by simp; omega)
        obtain ⟨a', c', ev, _⟩ := hs3.strsAt
        subst ev
        have e5 : (fl.map wordT ++ [wordT wd]).length = (fl ++ [wd]).length := by simp
        have e6 : fl.map wordT ++ [wordT wd] = (fl ++ [wd]).map wordT := by simp
        rw [e5, e6] at hs3
        rw [e5] at hr
        have e7 : (fl ++ [wd]).length = fl.length + 1 := by simp
        rw [e7] at hs3 hr
        have HS3 := Lib.hid hs3
        have HB3 := Lib.hid (HB2.out.trans hb3)
        have Hr := Lib.hid hr
        have E7 := Lib.hid e7
        clear HT hs3 hr hb3 e5 e6 e7 HS2 HB2
        go_wp2_with (first
          | (at_builtin; refine wpl_append_run rfl (.tmp 22) (.tmp 24) 36 rfl rfl rfl Hr.out ?_)
          | fail)
        go_roundg (A.length - (k + 1))
        case measure => omega
        case rel => exact ⟨k + 1, _, _, by rw [HT2.out, E7.out], by go_num, by omega, by rw [HT2.out, E7.out]; exact HS3, HB3⟩
    · have HR := Lib.hid (show New (OStrL 9) w.heap.size wr (.slice a ((A.take k).filter f).length c) ((A.filter f).map wordT) from by have h := HS.out.headNew; rw [List.take_of_length_le (by omega)] at h ⊢; exact h)
      have hki : ¬ ((k : Int) < (A.length : Int)) := by omega
      generalize ((A.take k).filter f).length = fl at HR
      clear HS
      go_wp2
      go_ret
      exact ⟨_, rfl, HR.out, HB.out⟩
end Go.Proofs.Ytcilgihmaaobeaa
end

section
/-
  The states of a valid shift: the program's.
-/
namespace Go.Proofs.Ytcilgihmaaobeaa
open Go.RowKit Go.Deep Go.Sd
set_option linter.unusedSimpArgs false
abbrev ResG (v : Value) (M : List (List Int)) : Res := Res.of (OTab 3 54) (OTab.kept _ _).held v M
theorem OBool.kept : Kept (OValR Value.bool) := ⟨fun _ _ _ _ _ h _ => h, fun _ _ _ _ h b hb => by rw [h.2] at hb; simp at hb, fun _ _ _ _ h => by rw [h.1]; rfl⟩
abbrev Res.bools (e : TypeId) (v : Value) (xs : List Bool) : Res := Res.of (OwnOf e (OValR Value.bool)) (OwnOf.kept OBool.kept).held v xs
theorem _root_.Go.Sd.Sep.boolsAt {lo : Nat} {w : World} {e : TypeId} {v : Value} {xs : List Bool} {rs : List Res} (h : Sep lo w (Res.bools e v xs :: rs)) : ∃ a c, v = .slice a xs.length c ∧ (0 < xs.length → ∃ b, a = some ⟨b, 0, none⟩ ∧ b < w.heap.size ∧ ∀ i x, xs[i]? = some x → w.cell? ⟨b, i, none⟩ = some (.bool x)) := by
  obtain ⟨G, hG, hf, _⟩ := h.head
  have hG' : OwnOf e (OValR Value.bool) w v xs G := hG
  have hrd : SlOf (ValR Value.bool) w v xs := OwnOf.reads (fun _ _ _ _ h => h.1) hG'
  obtain ⟨a, c, rfl, _, _, h1⟩ := hrd.shape
  refine ⟨a, c, rfl, fun h0 => ?_⟩
  obtain ⟨b, o, rfl, hb, hx⟩ := h1 h0
  obtain ⟨x0, hx0, _⟩ := at_lt h0
  obtain ⟨b', c', u, G2, hv, _⟩ := hG'.focus OBool.kept hf.1 hx0
  have e1 : b = b' ∧ o = 0 := by simp at hv; exact ⟨hv.1.1, hv.1.2⟩
  obtain ⟨rfl, rfl⟩ := e1
  refine ⟨b, rfl, hb, fun i x hi => ?_⟩
  obtain ⟨u, hu, rfl⟩ := hx i x hi
  simpa using hu
/-! The rows of the graph of avoiding pairs. -/
def nxR (F : List ByteArray) (W : List (List Nat)) (i m : Nat) : List Int := ((List.range m).filter fun j => goesB F (W.getD i []) (W.getD j [])).map fun j : Nat => (j : Int)
def nxM (F : List ByteArray) (W : List (List Nat)) : List (List Int) := (List.range W.length).map fun i => nxR F W i W.length
theorem nxR_succ (F : List ByteArray) (W : List (List Nat)) (i m : Nat) : nxR F W i (m + 1) = nxR F W i m ++ (if goesB F (W.getD i []) (W.getD m []) = true then [(m : Int)] else []) := by
  unfold nxR
  rw [List.range_succ, List.filter_append, List.map_append]
  congr 1
  rw [List.filter_cons]
  split <;> rfl
theorem nxR_len (F : List ByteArray) (W : List (List Nat)) (i m : Nat) : (nxR F W i m).length ≤ m := by
  unfold nxR
  rw [List.length_map]
  exact Nat.le_trans (List.length_filter_le _ _) (by simp)
theorem nxM_len (F : List ByteArray) (W : List (List Nat)) : (nxM F W).length = W.length := by simp [nxM]
theorem nxM_at {F : List ByteArray} {W : List (List Nat)} {i : Nat} (h : i < W.length) : (nxM F W)[i]? = some (nxR F W i W.length) := by simp [nxM, h]
theorem nxM_take {F : List ByteArray} {W : List (List Nat)} {i : Nat} (h : i < W.length) : (nxM F W).take i ++ [nxR F W i W.length] = (nxM F W).take (i + 1) := by rw [List.take_add_one, nxM_at h]; rfl
theorem nxM_in (F : List ByteArray) (W : List (List Nat)) : ∀ r, r ∈ nxM F W → ∀ x, x ∈ r → 0 ≤ x ∧ x < (W.length : Int) := by
  intro r hr x hx
  obtain ⟨i, _, rfl⟩ := List.mem_map.1 hr
  obtain ⟨j, hj, rfl⟩ := List.mem_map.1 hx
  have := List.mem_range.1 (List.mem_filter.1 hj).1
  omega
theorem nxM_ent {F : List ByteArray} {W : List (List Nat)} {i j : Nat} (hi : i < W.length) (hj : j < W.length) : EntN (nxM F W) i j ↔ EG F W i j := by
  unfold EntN EG
  rw [List.getD_eq_getElem?_getD, nxM_at hi]
  simp only [Option.getD_some]
  unfold nxR
  rw [List.mem_map]
  constructor
  · rintro ⟨m, hm, e⟩
    have e : m = j := by omega
    subst e
    exact ⟨_, _, at_of hi, at_of hj, (List.mem_filter.1 hm).2⟩
  · rintro ⟨u, v, hu, hv, h⟩
    refine ⟨j, List.mem_filter.2 ⟨List.mem_range.2 hj, ?_⟩, rfl⟩
    rw [getD_of hu, getD_of hv]
    exact h
theorem nxM_live (F : List ByteArray) (W : List (List Nat)) : liveL (EntN (nxM F W)) W.length = liveL (EG F W) W.length := liveL_congr fun i j hi hj => nxM_ent hi hj
theorem pick_snoc {α : Type} (x : α) (b : Bool) : ∀ (xs : List α) (bs : List Bool), xs.length = bs.length → pick (xs ++ [x]) (bs ++ [b]) = pick xs bs ++ (if b = true then [x] else [])
  | [], [], _ => by
    cases b with
    | true => rfl
    | false => rfl
  | [], _ :: _, h => by cases h
  | _ :: _, [], h => by cases h
  | y :: ys, c :: cs, h => by
    have ih := pick_snoc x b ys cs (by simpa using h)
    show pick (y :: (ys ++ [x])) (c :: (cs ++ [b])) = _
    cases c with
    | true => rw [pick_t, pick_t, ih]; rfl
    | false => rw [pick_f, pick_f, ih]
theorem pick_take {α : Type} {xs : List α} {bs : List Bool} {k : Nat} {x : α} {b : Bool} (hx : xs[k]? = some x) (hb : bs[k]? = some b) : pick (xs.take (k + 1)) (bs.take (k + 1)) = pick (xs.take k) (bs.take k) ++ (if b = true then [x] else []) := by
  rw [← take_snoc' hx, ← take_snoc' hb]
  refine pick_snoc x b _ _ ?_
  have h1 := (List.getElem?_eq_some_iff.1 hx).1
  have h2 := (List.getElem?_eq_some_iff.1 hb).1
  simp
  omega
theorem pick_le {α : Type} : ∀ (xs : List α) (bs : List Bool), (pick xs bs).length ≤ xs.length
  | [], _ => by simp [pick]
  | _ :: _, [] => by simp [pick]
  | x :: xs, b :: bs => by
    have := pick_le xs bs
    cases b with
    | true => rw [pick_t]; simp; exact this
    | false => rw [pick_f]; simp; omega
set_option maxHeartbeats 1000000 in
set_option maxRecDepth 100000 in
theorem lively_nil {w : World} {a : Option Addr} {c : Nat} :
    Calls Try.prog 78 #[.slice a 0 c] w (Makes (OwnOf 4 (OValR Value.bool)) w []) := by
  have hmk : ∀ w : World, (Instr.makeSlice 81 (.int .i64 0) (.int .i64 0)).run Try.prog w = .ok (.slice (some ⟨w.heap.size, 0, none⟩) 0 0) (w.alloc (.cells (madeCells #[.bool false] 0) 4)) := fun w => run_make_row' (P := Try.prog) 81 4 (.bool false) 1 Try.underlying81 infoB rfl .i64 .i64 0 (by omega) (by omega) (w := w)
  have HN := Lib.hid (New.made (R := OValR Value.bool) 4 w (.bool false) false 0 (Nat.le_refl w.heap.size) (by omega) (fun _ => ⟨rfl, rfl⟩))
  have HB := Lib.hid ((Below.refl w.heap.size w).alloc (Nat.le_refl _) (.cells (madeCells #[.bool false] 0) 4))
  go_enter Try.func78, Try.ntmps78
  go_wp2
  clear hmk
  go_loopg [17] 1 (fun g i wr => i = .int .i64 0 ∧ g = 1 ∧ wr = w.alloc (.cells (madeCells #[.bool false] 0) 4))
  case atStart => exact ⟨rfl, rfl, rfl⟩
  case round =>
    obtain ⟨rfl, -, rfl⟩ := hrel
    go_wp2
    go_loopg [26] 1 (fun g i wr => i = .int .i64 0 ∧ g = 1 ∧ wr = w.alloc (.cells (madeCells #[.bool false] 0) 4))
    case atStart => exact ⟨rfl, rfl, rfl⟩
    case round =>
      obtain ⟨rfl, -, rfl⟩ := hrel
      go_wp2
      go_ret
      exact ⟨_, rfl, HN.out, HB.out⟩
set_option maxHeartbeats 8000000 in
set_option maxRecDepth 100000 in
theorem states_c {w : World} {vs : Value} {L : Nat} {F : List ByteArray} (hz : ShR w vs ((L : Int), F)) (h0 : 0 < L) (h3 : L ≤ 3) (hM : MaxOk w) :
    Calls Try.prog 130 #[vs] w (Makes (OStrL 9) w ((pairsM F L).map wordT)) := by
  have HP := Lib.hid (show pairsM F L = pick (avoW F L) (liveL (EG F (avoW F L)) (avoW F L).length) from rfl)
  have HFi := Lib.hid (fun w1 (hb : Below w.heap.size w w1) => (show Calls Try.prog 51 #[.int .i64 (L : Int), .int .i64 2, .func (.func 91) #[vs] #[]] w1 _ from filteredM_c (w := w1) (n := 2) h0 h3 (by decide) (F := 91) (recv := vs) (f := fun wd => avoM F (wordT wd)) (fun _ _ => rfl) fun w2 wd hb2 hl _ => (show Calls Try.prog 91 #[vs, .string (wordT wd)] w2 (fun e w' => e = .returned (.bool (avoM F (wordT wd))) ∧ Below w2.heap.size w2 w') from avoids_c (ShR.frame _ _ _ _ (ShR.frame _ _ _ _ hz hb) hb2) ((hM.below hb).below hb2) (by rw [wordT_size, hl]; decide))))
  have HAv := Lib.hid (fun w1 (hb : Below w.heap.size w w1) (s : ByteArray) (hs : s.size ≤ 1000) => (show Calls Try.prog 91 #[vs, .string s] w1 (fun e w' => e = .returned (.bool (avoM F s)) ∧ Below w1.heap.size w1 w') from avoids_c (ShR.frame _ _ _ _ hz hb) (hM.below hb) hs))
  have HFe := Lib.hid (show (allW L 2).filter (fun wd => avoM F (wordT wd)) = avoW F L from rfl)
  rw [HFe.out] at HFi
  have HTw := Lib.hid (fun u (h : u ∈ avoW F L) => avoW_two h0 h3 h)
  have h9 : (avoW F L).length ≤ 9 := by
    refine Nat.le_trans (List.length_filter_le _ _) ?_
    rw [allW_len h0]
    exact Nat.pow_le_pow_left h3 2
  have HNi := Lib.hid (nxM_in F (avoW F L))
  have HNl := Lib.hid (nxM_live F (avoW F L))
  generalize pairsM F L = PM at HP ⊢
  generalize avoW F L = W at HP HFi HTw h9 HNi HNl
  clear HFe
  obtain ⟨va, rfl, ht⟩ := hz
  simp only at ht HFi HAv
  obtain ⟨w0, e0, hb0, c0, c1, m0⟩ := boxA_ex w 44 (.int .i64 L) va
  obtain ⟨va1, va2, rfl, -⟩ := ht.shape
  generalize F.length = fl at c1 e0 HFi HAv ⊢
  have HB0 := Lib.hid hb0
  have hmf : ∀ (fn : Fn) (first cap : Array Value) (w : World), (Instr.makeFunc fn first cap).run Try.prog w = .ok (.func fn first cap) w := fun _ _ _ _ => rfl
  obtain ⟨n, hn⟩ : ∃ n, n = W.length := ⟨_, rfl⟩
  have Hn := Lib.hid hn
  rw [← hn] at h9 HNi HNl HP
  have HNM := Lib.hid (nxM_len F W)
  clear ht hb0 hM
  go_enter Try.func130, Try.ntmps130
  go_wp2_with fail
  (with_reducible refine (HFi.out _ HB0.out).mono ?_)
  rintro e w1 ⟨sv, rfl, hn1, hb1⟩
  have hs1 := Sep.one (OwnOf.kept OStr.kept).held hn1
  obtain ⟨sa, sc, es, hq⟩ := hs1.strsAt
  subst es
  rw [List.length_map, ← hn] at hq ⊢
  have c0 := (hb1.cell (p := ⟨w.heap.size, 0, none⟩) m0).trans c0
  have c1 := (hb1.cell (p := ⟨w.heap.size, 1, none⟩) m0).trans c1
  have m1 : w.heap.size < w1.heap.size := Nat.lt_of_lt_of_le m0 hb1.size
  have HB1 := Lib.hid (HB0.out.trans (hb1.mono HB0.out.size))
  have z1 : w.heap.size ≤ w1.heap.size := Nat.le_of_lt m1
  have Hq := Lib.hid hq
  have HN0 := Lib.hid (Sep.one (OTab.kept 3 54).held (New.empty (lo := w1.heap.size) (e := 54) (R := OInts 3) w1 (Nat.le_refl _)))
  obtain ⟨w2, e2⟩ : ∃ x, x = w1.alloc (.cells #[] 54) := ⟨_, rfl⟩
  rw [← e2] at HN0
  have HB2 := Lib.hid (show Below w1.heap.size w1 w2 from by rw [e2]; exact (Below.refl _ _).alloc (Nat.le_refl _) _)
  have e2s := e2.symm
  clear hb1 hn1 hs1 HFi hn HB0 m0 hq e2 hmf
  go_wp2
  clear e2s
  go_loopg [4, 21] n (fun g nv i wr => ∃ (k : Nat) (na : Option Addr) (nc : Nat), nv = .slice na k nc ∧ i = .int .i64 k ∧ k + g = n ∧ Hid (Sep w1.heap.size wr [ResG (.slice na k nc) ((nxM F W).take k)]) ∧ Hid (Below w1.heap.size w1 wr))
  case atStart => exact ⟨0, _, _, rfl, rfl, by omega, HN0, HB2⟩
  case round =>
    clear HN0 HB2
    obtain ⟨k, na, nc, rfl, rfl, hk, HS, HB⟩ := hrel
    obtain ⟨wA, rfl⟩ : ∃ x, x = wr := ⟨_, rfl⟩
    have zA := HB.out.size
    by_cases hlt : k < n
    · obtain ⟨g, rfl⟩ : ∃ x, gk = x + 1 := ⟨gk - 1, by omega⟩
      obtain ⟨b, e1, hb, hc⟩ := Hq.out (by omega)
      subst e1
      have Hc := Lib.hid hc
      have hki : (k : Int) < (n : Int) := by omega
      obtain ⟨u, hu, _⟩ := at_lt (xs := W) (k := k) (by rw [← Hn.out]; exact hlt)
      have gu := hc k (wordT u) (by rw [List.getElem?_map, hu]; rfl)
      have gu := (HB.out.cell (p := ⟨b, k, none⟩) hb).trans gu
      have Hu := Lib.hid hu
      have HS0 := Lib.hid (HS.out.new (OInts.kept 3).held ((Below.refl _ _).alloc (Nat.le_refl _) _) zA (New.empty (e := 3) (R := OIntR) wA (Nat.le_refl _)))
      obtain ⟨wN, eN⟩ : ∃ x, x = wA.alloc (.cells #[] 3) := ⟨_, rfl⟩
      rw [← eN] at HS0
      have HBN := Lib.hid (show Below w1.heap.size w1 wN from by rw [eN]; exact HB.out.alloc zA _)
      have eNs := eN.symm
      obtain ⟨hus, -, hu1, -, -⟩ := (HTw.out u (List.mem_of_getElem? hu)).facts
      obtain ⟨ui, hui⟩ : ∃ x, x = 97 + u.getD 1 0 := ⟨_, rfl⟩
      rw [← hui] at hu1
      obtain ⟨su, hsu⟩ : ∃ x, x = wordT u := ⟨_, rfl⟩
      rw [← hsu] at gu hus hu1
      have Hsu := Lib.hid hsu
      have Hui := Lib.hid hui
      clear eN HS HB hu hc hsu hui
      go_wp2
      clear eNs gu
      go_loopg [7, 28] n (fun g rv i wr => ∃ (j : Nat) (ra : Option Addr) (rc : Nat), rv = .slice ra (nxR F W k j).length rc ∧ i = .int .i64 j ∧ j + g = n ∧ Hid (Sep w1.heap.size wr [Res.ints 3 (.slice ra (nxR F W k j).length rc) (nxR F W k j), ResG (.slice na k nc) ((nxM F W).take k)]) ∧ Hid (Below w1.heap.size w1 wr))
      case atStart => exact ⟨0, _, _, rfl, rfl, by omega, HS0, HBN⟩
      case round =>
        clear HS0 HBN
        obtain ⟨j, ra, rc, rfl, rfl, hj, HS, HB⟩ := hrel
        obtain ⟨wB, rfl⟩ : ∃ x, x = wr := ⟨_, rfl⟩
        have zB := HB.out.size
        by_cases hltj : j < n
        · obtain ⟨g2, rfl⟩ : ∃ x, gk = x + 1 := ⟨gk - 1, by omega⟩
          have hji : (j : Int) < (n : Int) := by omega
          obtain ⟨v, hv, _⟩ := at_lt (xs := W) (k := j) (by rw [← Hn.out]; exact hltj)
          have gv := Hc.out j (wordT v) (by rw [List.getElem?_map, hv]; rfl)
          have gv := (HB.out.cell (p := ⟨b, j, none⟩) hb).trans gv
          have k0 := (HB.out.cell (p := ⟨w.heap.size, 0, none⟩) m1).trans c0
          have k1 := (HB.out.cell (p := ⟨w.heap.size, 1, none⟩) m1).trans c1
          have mB : w.heap.size < wB.heap.size := Nat.lt_of_lt_of_le m1 zB
          obtain ⟨hvs, hv0, hv1, hve, -⟩ := (HTw.out v (List.mem_of_getElem? hv)).facts
          have hgo : goesB F u v = (decide (u.getD 1 0 = v.getD 0 0) && avoM F (wordT (u ++ v.drop 1))) := rfl
          have hex : (wordT v).extract 1 (wordT v).size = (wordT v).extract 1 2 := by rw [hvs]
          have hes : ((wordT v).extract 1 2).size = 1 := by rw [ByteArray.size_extract, hvs]; rfl
          have hs0 : ¬ su.size + ((wordT v).extract 1 2).size > 9223372036854775807 := two_add' hus hes
          have hcat : su ++ (wordT v).extract 1 2 = wordT (u ++ v.drop 1) := by rw [hve, Hsu.out, wordT_append]
          have hBw : Below w.heap.size w wB := HB1.out.trans (HB.out.mono z1)
          have HA := Lib.hid (fun w' (hb' : Below wB.heap.size wB w') => HAv.out w' (hBw.trans (hb'.mono hBw.size)) (su ++ (wordT v).extract 1 2) (by rw [ByteArray.size_append, hes, hus]; decide))
          have HX := Lib.hid (show nxR F W k (j + 1) = nxR F W k j ++ (if goesB F u v = true then [(j : Int)] else []) from by rw [nxR_succ, getD_of Hu.out, getD_of hv])
          have hrl : (nxR F W k j).length ≤ 9 := Nat.le_trans (nxR_len F W k j) (by omega)
          obtain ⟨row, hrow⟩ : ∃ r, r = nxR F W k j := ⟨_, rfl⟩
          rw [← hrow] at HS HX hrl ⊢
          obtain ⟨vi, hvi⟩ : ∃ x, x = 97 + v.getD 0 0 := ⟨_, rfl⟩
          rw [← hvi] at hv0
          have Huv := Lib.hid (show (vi = ui ↔ u.getD 1 0 = v.getD 0 0) from by rw [Hui.out, hvi]; omega)
          have Hgo := Lib.hid hgo
          have Hcat := Lib.hid hcat
          clear hvi hv hgo hve hcat hv1 hrow hBw
          obtain ⟨sv, hsv⟩ : ∃ x, x = wordT v := ⟨_, rfl⟩
          rw [← hsv] at gv hvs hv0 hex hes hs0 HA Hcat
          clear hsv
          by_cases hq : u.getD 1 0 = v.getD 0 0
          · have t0' : vi = ui := Huv.out.2 hq
            have t1 : ((ui : Int) == (vi : Int)) = true := by rw [t0']; simp
            have HgA := Lib.hid (show goesB F u v = avoM F (su ++ sv.extract 1 2) from by rw [Hgo.out, decide_eq_true hq, Bool.true_and, Hcat.out])
            generalize avoM F (su ++ sv.extract 1 2) = av at HA HgA
            generalize goesB F u v = gg at HgA HX
            clear t0' Hgo Huv hq Hcat
            have HSS := Lib.hid (fun (w' : World) (hb' : Below wB.heap.size wB w') => (show w'.cell? ⟨w.heap.size, 0, none⟩ = some (.int .i64 L) ∧ w'.cell? ⟨w.heap.size, 1, none⟩ = some (.slice va1 fl va2) from ⟨(hb'.cell (p := ⟨w.heap.size, 0, none⟩) mB).trans k0, (hb'.cell (p := ⟨w.heap.size, 1, none⟩) mB).trans k1⟩))
            have hS0 := HSS.out _ (Below.refl _ _)
            have B1 := (Below.refl wB.heap.size wB).drew
            have hSd := HSS.out _ B1
            go_wp2
            go_region_held3 (fun w' => w'.cell? ⟨w.heap.size, 0, none⟩ = some (.int .i64 L) ∧ w'.cell? ⟨w.heap.size, 1, none⟩ = some (.slice va1 fl va2))
              (first | with_reducible exact hS2 | with_reducible exact hSd | with_reducible exact hS0 | go_keep)
              ((first
                | (go_at_call 91; (with_reducible refine (HA.out _ B1).mono ?_); rintro e u1 ⟨rfl, q1⟩; have B2 := B1.trans (q1.mono B1.size); have hS2 := HSS.out _ B2)
                | fail))
            all_goals
              have hs2 := HS.out.below B2 (Nat.le_refl _)
              have hb2 := HB.out.trans (B2.mono zB)
              have z2 := hb2.size
              cases av with
              | false =>
                have HT := Lib.hid (show nxR F W k (j + 1) = row from by rw [HX.out, HgA.out]; simp)
                have HS2 := Lib.hid hs2
                have HB2 := Lib.hid hb2
                clear HX HgA HA HS HB hs2 hb2 B1 B2 q1 HSS
                go_wp2
                go_roundg g2
                case measure => omega
                case rel => exact ⟨j + 1, _, _, by rw [HT.out], by go_num, by omega, by rw [HT.out]; exact HS2, HB2⟩
              | true =>
                have HT := Lib.hid (show nxR F W k (j + 1) = row ++ [(j : Int)] from by rw [HX.out, HgA.out]; simp)
                obtain ⟨ra', rc', w9, hr9, hs9, hb9⟩ := hs2.pushInt (P := Try.prog) 54 54 Try.underlying54 infoI z2 (j : Int) (by omega) 3
                have e9 : (row ++ [(j : Int)]).length = row.length + 1 := by simp
                rw [e9] at hr9 hs9
                have HS9 := Lib.hid hs9
                have HB9 := Lib.hid (hb2.trans hb9)
                have Hr9 := Lib.hid hr9
                have E9 := Lib.hid e9
                clear hr9 hs9 hb9 e9 HX HgA HA HS HB hs2 hb2 B1 B2 q1 HSS
                go_wp2_with (first
                  | (at_builtin; refine wpl_append_run rfl (.tmp 46) (.tmp 48) 54 rfl rfl rfl Hr9.out ?_)
                  | fail)
                go_roundg g2
                case measure => omega
                case rel => exact ⟨j + 1, _, _, by rw [HT.out, E9.out], by go_num, by omega, by rw [HT.out, E9.out]; exact HS9, HB9⟩
          · have t1 : ((ui : Int) == (vi : Int)) = false := by
              have : ¬ vi = ui := fun h => hq (Huv.out.1 h)
              simp; omega
            have HT := Lib.hid (show nxR F W k (j + 1) = row from by rw [HX.out, Hgo.out, decide_eq_false hq, Bool.false_and]; simp)
            clear HX Hgo Huv hq Hcat HA
            go_wp2
            go_quiet (fail)
            rename_i nq
            have HS2 := Lib.hid (HS.out.below (below_drewN (Below.refl wB.heap.size wB) nq) (Nat.le_refl _))
            have HB2 := Lib.hid (below_drewN HB.out nq)
            clear HS HB
            go_wp2
            go_roundg g2
            case measure => omega
            case rel => exact ⟨j + 1, _, _, by rw [HT.out], by go_num, by omega, by rw [HT.out]; exact HS2, HB2⟩
        · obtain rfl : j = n := by omega
          have hji : ¬ ((j : Int) < (j : Int)) := by omega
          have hkn := hlt
          have HX := Lib.hid (show (nxM F W).take k ++ [nxR F W k j] = (nxM F W).take (k + 1) from by have h := nxM_take (F := F) (W := W) (i := k) (by rw [← Hn.out]; exact hlt); rw [← Hn.out] at h; exact h)
          have Htl := Lib.hid (show ((nxM F W).take k).length = k from by rw [List.length_take, HNM.out, ← Hn.out]; omega)
          obtain ⟨v', w6, hr6, hs6, hb6⟩ := HS.out.swap.absorb (P := Try.prog) (OInts.kept 3) 60 60 (.slice none 0 0) 24 Try.underlying60 infoR rfl zB (w1 := wB.alloc (.cells #[.slice ra (nxR F W k j).length rc] 54)) ((Below.refl _ _).alloc (Nat.le_refl _) _) (bb := wB.heap.size) (c := 1) (World.cell?_alloc_at _ _ _ 0 rfl) (by rw [Htl.out]; omega) (by rw [Htl.out]; omega)
          rw [HX.out] at hs6
          obtain ⟨na', nc', ev, _⟩ := (New.tab hs6.headNew).shape
          have el : ((nxM F W).take (k + 1)).length = k + 1 := by rw [List.length_take, HNM.out, ← Hn.out]; omega
          rw [el] at ev
          rw [ev] at hr6 hs6
          have HS6 := Lib.hid hs6
          have HB6 := Lib.hid (HB.out.trans hb6)
          have Hr6 := Lib.hid hr6
          generalize (nxR F W k j).length = rl at Hr6
          clear hr6 hs6 hb6 ev el HS HB HX Htl
          go_wp2_with (first
            | (at_builtin; refine wpl_append_run rfl (.tmp 51) (.tmp 53) 60 rfl rfl rfl Hr6.out ?_)
            | fail)
          go_roundg g
          case measure => omega
          case rel => exact ⟨k + 1, _, _, rfl, by go_num, by omega, HS6, HB6⟩
    · obtain rfl : k = n := by omega
      have hki : ¬ ((k : Int) < (k : Int)) := by omega
      have HS1 := Lib.hid (show Sep w1.heap.size wA [ResG (.slice na k nc) (nxM F W)] from by have h := HS.out; rw [List.take_of_length_le (by rw [HNM.out, ← Hn.out]; exact Nat.le_refl _)] at h; exact h)
      have HS0 := Lib.hid (HS1.out.new (OwnOf.kept OStr.kept).held ((Below.refl _ _).alloc (Nat.le_refl _) _) zA (New.empty (e := 9) (R := OValR Value.string) wA (Nat.le_refl _)))
      obtain ⟨wN, eN⟩ : ∃ x, x = wA.alloc (.cells #[] 9) := ⟨_, rfl⟩
      rw [← eN] at HS0
      have HBN := Lib.hid (show Below w1.heap.size w1 wN from by rw [eN]; exact HB.out.alloc zA _)
      have eNs := eN.symm
      have HLv := Lib.hid (show ∀ (w' : World), w' = wN → Calls Try.prog 78 #[.slice na k nc] w' (Makes (OwnOf 4 (OValR Value.bool)) w' (liveL (EG F W) k)) from fun w' e => by
        by_cases hk0 : k = 0
        · subst hk0
          exact lively_nil
        · rw [← HNl.out]
          have ht : Tab w' (.slice na k nc) (nxM F W) := by rw [e]; exact New.tab HS0.out.swap.headNew
          exact lively_c ht (by rw [HNM.out, ← Hn.out]) HNi.out (by omega) (by omega))
      clear eN HS HB HS1
      go_wp2_with fail
      (with_reducible refine (HLv.out _ rfl).mono ?_)
      rintro e w5 ⟨bv, rfl, hn5, hb5⟩
      have zN := HBN.out.size
      have hs5 := HS0.out.new (OwnOf.kept OBool.kept).held hb5 zN hn5
      obtain ⟨ba, bc, eb, hbq⟩ := hs5.boolsAt
      rw [liveL_len] at eb hbq
      subst eb
      have HS5 := Lib.hid (show Sep w1.heap.size w5 [Res.strs 9 _ [], Res.bools 4 (.slice ba k bc) (liveL (EG F W) k)] from (hs5.swap.perm (by exact List.Perm.refl _)).front [_, _] |>.tail)
      have HB5 := Lib.hid (HBN.out.trans (hb5.mono zN))
      clear hs5 hb5 hn5 HBN HS0 HLv eNs hbq
      have Hll := Lib.hid (show (liveL (EG F W) k).length = k from liveL_len)
      have HPT := Lib.hid (show PM = pick (W.take k) ((liveL (EG F W) k).take k) from by rw [HP.out, List.take_of_length_le (by rw [← Hn.out]; exact Nat.le_refl _), List.take_of_length_le (by rw [liveL_len]; exact Nat.le_refl _)])
      generalize liveL (EG F W) k = B at HS5 Hll HPT
      clear HP HNl HNM HNi
      go_wp2
      go_loopg [10, 60] k (fun g ov i wr => ∃ (m : Nat) (oa : Option Addr) (oc : Nat), ov = .slice oa (pick (W.take m) (B.take m)).length oc ∧ i = .int .i64 m ∧ m + g = k ∧ Hid (Sep w1.heap.size wr [Res.strs 9 (.slice oa (pick (W.take m) (B.take m)).length oc) ((pick (W.take m) (B.take m)).map wordT), Res.bools 4 (.slice ba k bc) B]) ∧ Hid (Below w1.heap.size w1 wr))
      case atStart => exact ⟨0, _, _, rfl, rfl, by omega, HS5, HB5⟩
      case round =>
        clear HS5 HB5
        obtain ⟨m, oa, oc, rfl, rfl, hm, HS, HB⟩ := hrel
        obtain ⟨wC, rfl⟩ : ∃ x, x = wr := ⟨_, rfl⟩
        have zC := HB.out.size
        by_cases hlm : m < k
        · obtain ⟨g2, rfl⟩ : ∃ x, gk = x + 1 := ⟨gk - 1, by omega⟩
          have hmi : (m : Int) < (k : Int) := by omega
          obtain ⟨b, e1, hb, hc⟩ := Hq.out (by omega)
          subst e1
          obtain ⟨u, hu, _⟩ := at_lt (xs := W) (k := m) (by rw [← Hn.out]; exact hlm)
          have gu := hc m (wordT u) (by rw [List.getElem?_map, hu]; rfl)
          have gu := (HB.out.cell (p := ⟨b, m, none⟩) hb).trans gu
          obtain ⟨x, hx, _⟩ := at_lt (xs := B) (k := m) (by rw [Hll.out]; exact hlm)
          obtain ⟨_, _, hbv, hbq⟩ := HS.out.swap.boolsAt
          rw [Hll.out] at hbv hbq
          obtain ⟨bb, e2, hbb, hbc⟩ := hbq (by omega)
          have hbv := hbv.symm
          simp at hbv
          obtain ⟨rfl, rfl⟩ := hbv
          subst e2
          have gx := hbc m x hx
          have HX := Lib.hid (pick_take hu hx)
          have hol : (pick (W.take m) (B.take m)).length ≤ 9 := Nat.le_trans (pick_le _ _) (by simp; omega)
          obtain ⟨out, hout⟩ : ∃ r, r = pick (W.take m) (B.take m) := ⟨_, rfl⟩
          rw [← hout] at HS HX hol ⊢
          clear hu hx hbq hbc hc hout
          cases x with
          | false =>
            have HT := Lib.hid (show pick (W.take (m + 1)) (B.take (m + 1)) = out from by rw [HX.out]; simp)
            clear HX
            go_wp2
            go_roundg g2
            case measure => omega
            case rel => exact ⟨m + 1, _, _, by rw [HT.out], by go_num, by omega, by rw [HT.out]; exact HS, HB⟩
          | true =>
            have HT := Lib.hid (show pick (W.take (m + 1)) (B.take (m + 1)) = out ++ [u] from by rw [HX.out]; simp)
            obtain ⟨v', w6, hr, hs3, hb3⟩ := Sep.push (P := Try.prog) OStr.kept 36 36 (.string ⟨#[]⟩) 16 Try.underlying36 infoStr rfl HS.out zC (w1 := wC.alloc (.cells #[.string (wordT u)] 9)) ((Below.refl _ _).alloc (Nat.le_refl _) _) (q := .string (wordT u)) (x := wordT u) ⟨[], ⟨rfl, rfl⟩, by simp [Fresh]⟩ (bb := wC.heap.size) (c := 1) (World.cell?_alloc_at _ _ _ 0 rfl) (by simp; omega) (by simp; omega)
            obtain ⟨a', c', ev, _⟩ := hs3.strsAt
            subst ev
            have e5 : (out.map wordT ++ [wordT u]).length = (out ++ [u]).length := by simp
            have e6 : out.map wordT ++ [wordT u] = (out ++ [u]).map wordT := by simp
            rw [e5, e6] at hs3
            rw [e5] at hr
            have e7 : (out ++ [u]).length = out.length + 1 := by simp
            rw [e7] at hs3 hr
            have HS3 := Lib.hid hs3
            have HB3 := Lib.hid (HB.out.trans hb3)
            have Hr := Lib.hid hr
            have E7 := Lib.hid e7
            clear HX hs3 hr hb3 e5 e6 e7 HS HB
            go_wp2_with (first
              | (at_builtin; refine wpl_append_run rfl (.tmp 66) (.tmp 71) 36 rfl rfl rfl Hr.out ?_)
              | fail)
            go_roundg g2
            case measure => omega
            case rel => exact ⟨m + 1, _, _, by rw [HT.out, E7.out], by go_num, by omega, by rw [HT.out, E7.out]; exact HS3, HB3⟩
        · obtain rfl : m = k := by omega
          have hmi : ¬ ((m : Int) < (m : Int)) := by omega
          have HR := Lib.hid (show New (OStrL 9) w.heap.size wC (.slice oa (pick (W.take m) (B.take m)).length oc) (PM.map wordT) from by rw [HPT.out]; exact HS.out.headNew.mono z1)
          have HBf := Lib.hid (HB1.out.trans (HB.out.mono z1))
          generalize (pick (W.take m) (B.take m)).length = ol at HR
          clear HS HB
          go_wp2
          go_ret
          exact ⟨_, rfl, HR.out, HBf.out⟩
end Go.Proofs.Ytcilgihmaaobeaa
end

section
/-
  Is a word in the language of a shift? The words of a length in the language; the graph of a shift: the program's.
-/
namespace Go.Proofs.Ytcilgihmaaobeaa
open Go.RowKit Go.Deep Go.Sd
set_option linter.unusedSimpArgs false
/-- The program's test of a word. -/
def hasM (F P : List ByteArray) (s : ByteArray) : Bool := if 2 ≤ s.size then avoM F s && (hasB P (s.extract 0 2) && hasB P (s.extract (s.size - 2) s.size)) else P.any fun p => occB p s
theorem has_in {F : List ByteArray} {L : Nat} (h0 : 0 < L) (s : ByteArray) : hasM F ((pairsM F L).map wordT) s = inM F ((pairsM F L).map wordT) s := by
  unfold hasM inM
  by_cases h2 : 2 ≤ s.size
  · rw [if_pos h2, if_pos h2]
    cases hb : hasB ((pairsM F L).map wordT) (s.extract 0 2) with
    | false => simp
    | true =>
      have : ((pairsM F L).map wordT).length ≠ 0 := by
        intro h0
        rw [List.length_eq_zero_iff] at h0
        rw [h0] at hb
        cases hb
      rw [decide_eq_true this]
      simp
  · rw [if_neg h2, if_neg h2]
    cases ha : ((pairsM F L).map wordT).any fun p => occB p s with
    | false => simp
    | true =>
      obtain ⟨p, hp, ho⟩ := List.any_eq_true.1 ha
      have : ((pairsM F L).map wordT).length ≠ 0 := by
        intro h0
        rw [List.length_eq_zero_iff] at h0
        rw [h0] at hp
        cases hp
      obtain ⟨u, hu, rfl⟩ := List.mem_map.1 hp
      have h1 := ((avoW_iff h0).1 (pairs_sub hu)).2
      rw [decide_eq_true this, (avoM_iff F s).2 (h1.sub ((occB_infix _ _).1 ho))]
      rfl
theorem hasB_take {P : List ByteArray} {k : Nat} {p : ByteArray} (h : P[k]? = some p) (s : ByteArray) : hasB (P.take (k + 1)) s = (hasB (P.take k) s || (p.toList == s.toList)) := by
  rw [← take_snoc' h]
  unfold hasB
  rw [List.any_append]
  simp
set_option maxHeartbeats 4000000 in
set_option maxRecDepth 100000 in
theorem has_c {w : World} {vs vp : Value} {z : Sh} {P : List ByteArray} {s : ByteArray} (hz : ShR w vs z) (hM : MaxOk w) (hp : TsR w vp P) (hP : ∀ p, p ∈ P → p.size ≤ 1000) (hs : s.size ≤ 1000) :
    Calls Try.prog 132 #[vs, vp, .string s] w fun e w' => e = .returned (.bool (hasM z.2 P s)) ∧ Below w.heap.size w w' := by
  have HA := Lib.hid (fun w1 (hb : Below w.heap.size w w1) => avoids_c (s := s) (ShR.frame _ _ _ _ hz hb) (hM.below hb) hs)
  have HT := Lib.hid (show hasM z.2 P s = if 2 ≤ s.size then avoM z.2 s && (hasB P (s.extract 0 2) && hasB P (s.extract (s.size - 2) s.size)) else P.any fun p => occB p s from rfl)
  generalize hasM z.2 P s = T at HT ⊢
  generalize avoM z.2 s = av at HA HT
  obtain ⟨L, F⟩ := z
  obtain ⟨va, rfl, ht⟩ := hz
  simp only at ht HA HT
  obtain ⟨w0, e0, hb0, c0, c1, m0⟩ := boxA_ex w 44 (.int .i64 L) va
  have hpr := TsR.frame _ _ _ _ hp hb0
  obtain ⟨va1, va2, rfl, -⟩ := ht.shape
  generalize F.length = fl at HA c1 e0 ⊢
  have HB := Lib.hid hb0
  have HC := Lib.hid (fun (p : ByteArray) (h : p ∈ P) => Contains_c (hM.below hb0) p s (hP p h))
  have hplen := hpr.len
  have HPr := Lib.hid hpr
  obtain ⟨pa, pc, rfl, -, -, hcell⟩ := hpr.shape
  obtain ⟨n, hn⟩ : ∃ n, n = P.length := ⟨_, rfl⟩
  have Hn := Lib.hid hn
  rw [← hn] at hcell hplen HPr ⊢
  have Hcell := Lib.hid hcell
  clear ht hp hb0 hP hn hcell hM hpr
  go_enter Try.func132, Try.ntmps132
  by_cases h2 : 2 ≤ s.size
  · have h2i : ¬ (s.size : Int) < 2 := by omega
    have HT1 := Lib.hid (show T = (av && (hasB P (s.extract 0 2) && hasB P (s.extract (s.size - 2) s.size))) from by rw [HT.out, if_pos h2])
    clear HT HC Hcell
    cases av with
    | false =>
      have HR := Lib.hid (show T = false from by rw [HT1.out]; rfl)
      clear HT1
      go_wp2_with fail
      (with_reducible refine (HA.out _ HB.out).mono ?_)
      rintro e w2 ⟨rfl, hb2⟩
      have HBf := Lib.hid (HB.out.trans (hb2.mono HB.out.size))
      clear hb2
      go_wp2
      go_ret
      exact ⟨by rw [HR.out]; rfl, HBf.out⟩
    | true =>
      obtain ⟨d, hd⟩ : ∃ d, d = s.size - 2 := ⟨_, rfl⟩
      have h2j : (2 : Int) ≤ (s.size : Int) := by omega
      have h2a : ((s.size : Int) - 2).toNat = d := by omega
      have h2b : (0 : Int) ≤ (s.size : Int) - 2 := by omega
      have h2c : (s.size : Int) - 2 ≤ (s.size : Int) := by omega
      have hsi : (s.size : Int) ≤ 1000 := by omega
      have h2w : wrap64 ((s.size : Int) - 2) = (s.size : Int) - 2 := IntWalk.wrap64_in _ (by omega)
      rw [← hd] at HT1
      have HT2 := Lib.hid (show T = (hasB P (s.extract 0 2) && hasB P (s.extract d s.size)) from by rw [HT1.out]; rfl)
      have Hd := Lib.hid hd
      clear HT1 hd
      go_wp2_with fail
      (with_reducible refine (HA.out _ HB.out).mono ?_)
      rintro e w2 ⟨rfl, hb2⟩
      have HBf := Lib.hid (HB.out.trans (hb2.mono HB.out.size))
      have hpr2 := TsR.frame _ _ _ _ HPr.out hb2
      obtain ⟨_, _, hv, -, -, hcell⟩ := hpr2.shape
      simp at hv
      obtain ⟨rfl, hvl, rfl⟩ := hv
      rw [← Hn.out] at hcell
      have Hcell := Lib.hid hcell
      clear hb2 hpr2 hcell HA hvl
      go_wp2
      go_loopg [9, 10, 32] n (fun g v1 v2 i wr => ∃ (j : Nat) (a b : Bool), v1 = .bool a ∧ v2 = .bool b ∧ i = .int .i64 j ∧ j + g = n ∧ Hid (a = hasB (P.take j) (s.extract 0 2) ∧ b = hasB (P.take j) (s.extract d s.size)) ∧ w2 = wr)
      case atStart => exact ⟨0, false, false, rfl, rfl, rfl, by omega, Lib.hid ⟨rfl, rfl⟩, rfl⟩
      case round =>
        obtain ⟨j, a, b, rfl, rfl, rfl, hj, HK, rfl⟩ := hrel
        by_cases h1 : j < n
        · have h1i : (j : Int) < (n : Int) := by omega
          obtain ⟨g, rfl⟩ : ∃ x, gk = x + 1 := ⟨gk - 1, by omega⟩
          obtain ⟨bp, o, rfl, -, hx⟩ := Hcell.out (by omega)
          obtain ⟨p, hp, -⟩ := at_lt (xs := P) (k := j) (by rw [← Hn.out]; exact h1)
          obtain ⟨u, hu, hu2⟩ := hx j p hp
          have hu2' : u = .string p := hu2
          subst hu2'
          have HX := Lib.hid (show hasB (P.take (j + 1)) (s.extract 0 2) = (a || (p.toList == (s.extract 0 2).toList)) ∧ hasB (P.take (j + 1)) (s.extract d s.size) = (b || (p.toList == (s.extract d s.size).toList)) from ⟨by rw [hasB_take hp, ← HK.out.1], by rw [hasB_take hp, ← HK.out.2]⟩)
          generalize hx1 : (p.toList == (s.extract 0 2).toList) = x1 at HX
          generalize hx2 : (p.toList == (s.extract d s.size).toList) = x2 at HX
          clear hx hp hu2 HK
          cases a with
          | false =>
            cases b with
            | false =>
              go_wp2
              go_roundg g
              case measure => omega
              case rel => exact ⟨j + 1, x1, x2, rfl, rfl, by go_num, by omega, Lib.hid ⟨by rw [HX.out.1]; rfl, by rw [HX.out.2]; rfl⟩, rfl⟩
            | true =>
              go_wp2
              go_roundg g
              case measure => omega
              case rel => exact ⟨j + 1, x1, true, rfl, rfl, by go_num, by omega, Lib.hid ⟨by rw [HX.out.1]; rfl, by rw [HX.out.2]; rfl⟩, rfl⟩
          | true =>
            cases b with
            | false =>
              go_wp2
              go_roundg g
              case measure => omega
              case rel => exact ⟨j + 1, true, x2, rfl, rfl, by go_num, by omega, Lib.hid ⟨by rw [HX.out.1]; rfl, by rw [HX.out.2]; rfl⟩, rfl⟩
            | true =>
              go_wp2
              go_roundg g
              case measure => omega
              case rel => exact ⟨j + 1, true, true, rfl, rfl, by go_num, by omega, Lib.hid ⟨by rw [HX.out.1]; rfl, by rw [HX.out.2]; rfl⟩, rfl⟩
        · have h1i : ¬ (j : Int) < (n : Int) := by omega
          have hT := Lib.hid (show T = (a && b) from by
            have h := HK.out
            rw [List.take_of_length_le (by rw [← Hn.out]; omega)] at h
            rw [HT2.out, ← h.1, ← h.2])
          clear HK HT2
          cases a with
          | false =>
            go_wp2
            go_ret
            exact ⟨by rw [hT.out]; rfl, HBf.out⟩
          | true =>
            go_wp2
            go_ret
            exact ⟨by rw [hT.out]; rfl, HBf.out⟩
  · have h2i : (s.size : Int) < 2 := by omega
    have HT2 := Lib.hid (show T = (P.any fun p => occB p s) from by rw [HT.out, if_neg h2])
    clear HT HA HPr
    go_wp2
    go_loopg [18] n (fun g i wr => ∃ (j : Nat), i = .int .i64 j ∧ j + g = n ∧ Hid (∀ (k : Nat) (p : ByteArray), k < j → P[k]? = some p → occB p s = false) ∧ w0 = wr)
    case atStart => exact ⟨0, rfl, by omega, Lib.hid (fun k f hk => absurd hk (Nat.not_lt_zero _)), rfl⟩
    case round =>
      obtain ⟨j, rfl, hj, HK, rfl⟩ := hrel
      by_cases h1 : j < n
      · have h1i : (j : Int) < (n : Int) := by omega
        obtain ⟨g, rfl⟩ : ∃ x, gk = x + 1 := ⟨gk - 1, by omega⟩
        obtain ⟨b, o, rfl, -, hx⟩ := Hcell.out (by omega)
        obtain ⟨p, hp, -⟩ := at_lt (xs := P) (k := j) (by rw [← Hn.out]; exact h1)
        obtain ⟨u, hu, hu2⟩ := hx j p hp
        have hu2' : u = .string p := hu2
        subst hu2'
        have HC1 := Lib.hid (HC.out p (List.mem_of_getElem? hp))
        cases ho : occB p s with
        | true =>
          have hT := Lib.hid (show T = true from by rw [HT2.out, List.any_eq_true]; exact ⟨p, List.mem_of_getElem? hp, ho⟩)
          rw [ho] at HC1
          clear hx hp hu2 ho HT2
          go_wp2_with fail
          (with_reducible refine HC1.out.mono ?_)
          rintro e w9 ⟨rfl, hw9⟩
          rw [← hw9]
          clear hw9 w9
          go_wp2
          go_ret
          exact ⟨by rw [hT.out]; rfl, HB.out⟩
        | false =>
          have hK2 := Lib.hid (show ∀ (k : Nat) (p : ByteArray), k < j + 1 → P[k]? = some p → occB p s = false from fun k f' hk hf' => by
            by_cases e : k = j
            · rw [e, hp] at hf'
              cases hf'
              exact ho
            · exact HK.out k f' (by omega) hf')
          rw [ho] at HC1
          clear hx hp hu2 ho HK
          go_wp2_with fail
          (with_reducible refine HC1.out.mono ?_)
          rintro e w9 ⟨rfl, hw9⟩
          rw [← hw9]
          clear hw9 w9
          go_wp2
          go_roundg g
          case measure => omega
          case rel => exact ⟨j + 1, by go_num, by omega, hK2, rfl⟩
      · have h1i : ¬ (j : Int) < (n : Int) := by omega
        have hT := Lib.hid (show T = false from by
          rw [HT2.out, List.any_eq_false]
          intro p hp
          obtain ⟨k, hk⟩ := List.getElem?_of_mem hp
          rw [HK.out k p (by have := (List.getElem?_eq_some_iff.1 hk).1; rw [← Hn.out] at this; omega) hk]
          decide)
        clear HK HT2
        go_wp2
        go_ret
        exact ⟨by rw [hT.out]; rfl, HB.out⟩
set_option maxHeartbeats 1000000 in
theorem langclo_c {w : World} {bs bt : Nat} {z : Sh} {va1 pa : Option Addr} {fl va2 pn pc : Nat} {P : List ByteArray} {s : ByteArray} (c0 : w.cell? ⟨bs, 0, none⟩ = some (.int .i64 z.1)) (c1 : w.cell? ⟨bs, 1, none⟩ = some (.slice va1 fl va2)) (ct : w.cell? ⟨bt, 0, none⟩ = some (.slice pa pn pc))
    (hz : ShR w (.agg #[.int .i64 z.1, .slice va1 fl va2]) z) (hM : MaxOk w) (hp : TsR w (.slice pa pn pc) P) (hP : ∀ p, p ∈ P → p.size ≤ 1000) (hs : s.size ≤ 1000) :
    Calls Try.prog 131 #[.string s, .pointer (some ⟨bs, 0, none⟩), .pointer (some ⟨bt, 0, none⟩)] w fun e w' => e = .returned (.bool (hasM z.2 P s)) ∧ Below w.heap.size w w' := by
  have HH := Lib.hid (has_c hz hM hp hP hs)
  generalize hasM z.2 P s = T at HH ⊢
  clear hz hM hp hP hs
  go_enter Try.func131, Try.ntmps131
  go_wp2_with fail
  (with_reducible refine HH.out.mono ?_)
  rintro e w2 ⟨rfl, hb2⟩
  have HB := Lib.hid hb2
  clear hb2
  go_wp2
  go_ret
  exact ⟨rfl, HB.out⟩
set_option maxHeartbeats 2000000 in
set_option maxRecDepth 100000 in
theorem language_c {w : World} {vs : Value} {L n : Nat} {F : List ByteArray} (hz : ShR w vs ((L : Int), F)) (h0 : 0 < L) (h3 : L ≤ 3) (hn : n ≤ 6) (hM : MaxOk w) :
    Calls Try.prog 109 #[vs, .int .i64 (n : Int)] w (Makes (OStrL 9) w (((allW L n).filter fun wd => inM F ((pairsM F L).map wordT) (wordT wd)).map wordT)) := by
  have HSt := Lib.hid (fun w1 (hb : Below w.heap.size w w1) => states_c (ShR.frame _ _ _ _ hz hb) h0 h3 (hM.below hb))
  have HZ := Lib.hid (fun w1 (hb : Below w.heap.size w w1) => ShR.frame _ _ _ _ hz hb)
  have HM := Lib.hid (fun w1 (hb : Below w.heap.size w w1) => hM.below hb)
  have HI := Lib.hid (fun wd : List Nat => has_in (F := F) h0 (wordT wd))
  have HPs := Lib.hid (show ∀ p, p ∈ (pairsM F L).map wordT → p.size ≤ 1000 from fun p hp => by
    obtain ⟨u, hu, rfl⟩ := List.mem_map.1 hp
    obtain ⟨⟨a, b, rfl, -, -⟩, -⟩ := (avoW_iff h0).1 (pairs_sub hu)
    rw [wordT_size]
    simp)
  generalize (pairsM F L).map wordT = PN at HSt HI HPs ⊢
  obtain ⟨va, rfl, ht⟩ := hz
  simp only at ht HSt HZ
  obtain ⟨w0, e0, hb0, c0, c1, m0⟩ := boxA_ex w 44 (.int .i64 L) va
  obtain ⟨va1, va2, rfl, -⟩ := ht.shape
  generalize F.length = fl at c1 e0 HSt HZ ⊢
  have HB0 := Lib.hid hb0
  have hmf : ∀ (fn : Fn) (first cap : Array Value) (w : World), (Instr.makeFunc fn first cap).run Try.prog w = .ok (.func fn first cap) w := fun _ _ _ _ => rfl
  clear ht hb0 hM
  go_enter Try.func109, Try.ntmps109
  go_wp2_with fail
  (with_reducible refine (HSt.out _ HB0.out).mono ?_)
  rintro e w1 ⟨pv, rfl, hn1, hb1⟩
  have hs1 := Sep.one (OwnOf.kept OStr.kept).held hn1
  have htr : TsR w1 pv PN := by
    obtain ⟨G, hG, -⟩ := hn1
    exact OwnOf.reads (fun _ _ _ _ h => h.1) hG
  obtain ⟨pa, pc, ep, -⟩ := hs1.strsAt
  subst ep
  generalize PN.length = pn at htr ⊢
  have c0 := (hb1.cell (p := ⟨w.heap.size, 0, none⟩) m0).trans c0
  have c1 := (hb1.cell (p := ⟨w.heap.size, 1, none⟩) m0).trans c1
  have m1 : w.heap.size < w1.heap.size := Nat.lt_of_lt_of_le m0 hb1.size
  obtain ⟨w2, e2⟩ : ∃ x, x = w1.alloc (.cells #[.slice pa pn pc] 36) := ⟨_, rfl⟩
  have hb2 : Below w1.heap.size w1 w2 := by rw [e2]; exact (Below.refl _ _).alloc (Nat.le_refl _) _
  have ct : w2.cell? ⟨w1.heap.size, 0, none⟩ = some (.slice pa pn pc) := by rw [e2]; simp [go_sem]
  have m2 : w1.heap.size < w2.heap.size := by rw [e2]; simp
  have c0 := (hb2.cell (p := ⟨w.heap.size, 0, none⟩) m1).trans c0
  have c1 := (hb2.cell (p := ⟨w.heap.size, 1, none⟩) m1).trans c1
  have HB2 := Lib.hid ((HB0.out.trans (hb1.mono HB0.out.size)).trans (hb2.mono (Nat.le_of_lt m1)))
  have HT2 := Lib.hid (TsR.frame _ _ _ _ htr hb2)
  have m2w : w.heap.size < w2.heap.size := Nat.lt_trans m1 m2
  have HFi := Lib.hid (show Calls Try.prog 51 #[.int .i64 (L : Int), .int .i64 (n : Int), .func (.func 131) #[] #[.pointer (some ⟨w.heap.size, 0, none⟩), .pointer (some ⟨w1.heap.size, 0, none⟩)]] w2 _ from
    filtered_c (w := w2) (n := n) h0 h3 hn (F := 131) (caps := #[.pointer (some ⟨w.heap.size, 0, none⟩), .pointer (some ⟨w1.heap.size, 0, none⟩)]) (f := fun wd => inM F PN (wordT wd)) (fun _ _ => rfl) fun w3 wd hb3 hl _ => by
      have hB3 := HB2.out.trans (hb3.mono (Nat.le_of_lt m2w))
      have h := langclo_c (z := ((L : Int), F)) (s := wordT wd) ((hb3.cell (p := ⟨w.heap.size, 0, none⟩) m2w).trans c0) ((hb3.cell (p := ⟨w.heap.size, 1, none⟩) m2w).trans c1) ((hb3.cell (p := ⟨w1.heap.size, 0, none⟩) m2).trans ct) (HZ.out w3 hB3) (HM.out w3 hB3) (TsR.frame _ _ _ _ HT2.out hb3) HPs.out (by rw [wordT_size, hl]; omega)
      rw [show hasM ((L : Int), F).2 PN (wordT wd) = inM F PN (wordT wd) from HI.out wd] at h
      exact h)
  have e2s := e2.symm
  clear hb1 hn1 hs1 hb2 htr HSt HZ HM HI HPs e2
  go_wp2_with fail
  (with_reducible refine HFi.out.mono ?_)
  rintro e w3 ⟨r, rfl, hn3, hb3⟩
  have HN := Lib.hid (hn3.mono (Nat.le_of_lt m2w))
  have HBf := Lib.hid (HB2.out.trans (hb3.mono (Nat.le_of_lt m2w)))
  clear hn3 hb3 HFi
  go_wp2
  go_ret
  exact ⟨_, rfl, HN.out, HBf.out⟩
set_option maxHeartbeats 2000000 in
theorem impl_LanguageOf_c {w : World} {vs : Value} {z : Sh} {n : Int} (hz : ShR w vs z) (hf : ∀ f, f ∈ z.2 → f.size ≤ 1048576) (hM : MaxOk w) :
    Calls Try.prog 92 #[vs, .int .i64 n] w (Makes (OStrL 9) w (lanM z n)) := by
  have HV := Lib.hid (show lanM z n = if (shiftM z && decide (0 ≤ n ∧ n ≤ 6)) = true then ((allW z.1.toNat n.toNat).filter fun wd => inM z.2 ((pairsM z.2 z.1.toNat).map wordT) (wordT wd)).map wordT else [] from rfl)
  have HIs := Lib.hid (fun w1 (hb : Below w.heap.size w w1) => impl_IsShift_c (ShR.frame _ _ _ _ hz hb) hf)
  have HLa := Lib.hid (fun (h : shiftM z = true) (h2 : 0 ≤ n ∧ n ≤ 6) w1 (hb : Below w.heap.size w w1) => (show Calls Try.prog 109 #[vs, .int .i64 n] w1 (Makes (OStrL 9) w1 (((allW z.1.toNat n.toNat).filter fun wd => inM z.2 ((pairsM z.2 z.1.toNat).map wordT) (wordT wd)).map wordT)) from by
    have h1 := (shiftM_of h).1
    have h3 := language_c (w := w1) (vs := vs) (L := z.1.toNat) (F := z.2) (n := n.toNat) (by rw [Int.toNat_of_nonneg (by omega)]; exact ShR.frame _ _ _ _ hz hb) (by omega) (by omega) (by omega) (hM.below hb)
    rw [Int.toNat_of_nonneg h2.1] at h3
    exact h3))
  generalize lanM z n = V at HV ⊢
  generalize shiftM z = ok at HV HIs HLa
  obtain ⟨L, F⟩ := z
  obtain ⟨va, rfl, ht⟩ := hz
  simp only at ht hf HV HIs HLa
  obtain ⟨w0, e0, hb0, c0, c1, m0⟩ := boxA_ex w 44 (.int .i64 L) va
  obtain ⟨va1, va2, rfl, -⟩ := ht.shape
  generalize F.length = fl at c1 e0 HIs HLa ⊢
  have HB0 := Lib.hid hb0
  generalize ((allW L.toNat n.toNat).filter fun wd => inM F ((pairsM F L.toNat).map wordT) (wordT wd)).map wordT = V2 at HV HLa
  clear hf ht hb0 hM
  go_enter Try.func92, Try.ntmps92
  go_wp2_with fail
  (with_reducible refine (HIs.out _ HB0.out).mono ?_)
  rintro e w1 ⟨rfl, hb1⟩
  have c0 := (hb1.cell (p := ⟨w.heap.size, 0, none⟩) m0).trans c0
  have c1 := (hb1.cell (p := ⟨w.heap.size, 1, none⟩) m0).trans c1
  have m1 : w.heap.size < w1.heap.size := Nat.lt_of_lt_of_le m0 hb1.size
  have HB1 := Lib.hid (HB0.out.trans (hb1.mono HB0.out.size))
  clear hb1 HIs
  by_cases hk : ok = true ∧ 0 ≤ n ∧ n ≤ 6
  · obtain ⟨rfl, hn0, hn6⟩ := hk
    have HR := Lib.hid (show V = V2 from by rw [HV.out, decide_eq_true ⟨hn0, hn6⟩]; rfl)
    have t1 : ¬ n < 0 := by omega
    have t2 : ¬ 6 < n := by omega
    have HL := Lib.hid (HLa.out rfl ⟨hn0, hn6⟩ _ HB1.out)
    clear HV HLa
    go_wp2_with fail
    (with_reducible refine HL.out.mono ?_)
    rintro e w3 ⟨r, rfl, hn3, hb3⟩
    have HN := Lib.hid (hn3.mono (Nat.le_of_lt m1))
    have HBf := Lib.hid (HB1.out.trans (hb3.mono (Nat.le_of_lt m1)))
    clear hn3 hb3 HL
    go_wp2
    go_ret
    exact ⟨_, rfl, by rw [HR.out]; exact HN.out, HBf.out⟩
  · have HR := Lib.hid (show V = [] from by
      rw [HV.out, if_neg]
      intro h
      rw [Bool.and_eq_true, decide_eq_true_eq] at h
      exact hk h)
    clear HV HLa
    cases ok with
    | false =>
      clear hk
      go_wp2
      go_ret
      exact ⟨_, rfl, by rw [HR.out]; exact New.nil _ _, HB1.out⟩
    | true =>
      by_cases hn0 : n < 0
      · clear hk
        go_wp2
        go_ret
        exact ⟨_, rfl, by rw [HR.out]; exact New.nil _ _, HB1.out⟩
      · have hn6 : 6 < n := by
          apply Classical.byContradiction
          intro h
          exact hk ⟨rfl, by omega, by omega⟩
        clear hk
        go_wp2
        go_ret
        exact ⟨_, rfl, by rw [HR.out]; exact New.nil _ _, HB1.out⟩
theorem impl_StatesOf_c {w : World} {vs : Value} {z : Sh} (hz : ShR w vs z) (hf : ∀ f, f ∈ z.2 → f.size ≤ 1048576) (hM : MaxOk w) :
    Calls Try.prog 68 #[vs] w (Makes (OStrL 9) w (lanM z 2)) := by
  have HL := Lib.hid (fun w1 (hb : Below w.heap.size w w1) => impl_LanguageOf_c (ShR.frame _ _ _ _ hz hb) hf (n := 2) (hM.below hb))
  obtain ⟨L, F⟩ := z
  obtain ⟨va, rfl, ht⟩ := hz
  simp only at ht hf HL
  obtain ⟨w0, e0, hb0, c0, c1, m0⟩ := boxA_ex w 44 (.int .i64 L) va
  obtain ⟨va1, va2, rfl, -⟩ := ht.shape
  generalize F.length = fl at c1 e0 HL ⊢
  generalize lanM (L, F) 2 = V at HL ⊢
  have HB0 := Lib.hid hb0
  clear hf ht
  go_enter Try.func68, Try.ntmps68
  go_wp2_with fail
  (with_reducible refine (HL.out _ HB0.out).mono ?_)
  rintro e w2 ⟨r, rfl, hn, hb⟩
  have HN := Lib.hid (hn.mono (Nat.le_of_lt m0))
  have HB := Lib.hid (HB0.out.trans (hb.mono HB0.out.size))
  clear hn hb
  go_wp2
  go_ret
  exact ⟨_, rfl, HN.out, HB.out⟩
end Go.Proofs.Ytcilgihmaaobeaa
end

section
/-
  The graph of a shift: the program's GraphOf.
-/
namespace Go.Proofs.Ytcilgihmaaobeaa
open Go.RowKit Go.Deep Go.Sd
set_option linter.unusedSimpArgs false
set_option maxHeartbeats 4000000 in
set_option maxRecDepth 100000 in
theorem impl_GraphOf_c {w : World} {vs : Value} {z : Sh} (hz : ShR w vs z) (hf : ∀ f, f ∈ z.2 → f.size ≤ 1048576) (hM : MaxOk w) :
    Calls Try.prog 67 #[vs] w (Makes2 (OTab 3 54) w (gmV z) (lofOk z)) := by
  have HV := Lib.hid (show gmV z = tabOf (stW z).length (stW z).length (gent z.2 (stW z)) from rfl)
  have HO := Lib.hid (lofOk_eq z)
  have HSt := Lib.hid (fun w1 (hb : Below w.heap.size w w1) => impl_StatesOf_c (ShR.frame _ _ _ _ hz hb) hf (hM.below hb))
  have HAv := Lib.hid (fun w1 (hb : Below w.heap.size w w1) (s : ByteArray) (hs : s.size ≤ 1000) => avoids_c (s := s) (ShR.frame _ _ _ _ hz hb) (hM.below hb) hs)
  have HTw := Lib.hid (fun v (h : v ∈ stW z) => stW_two h)
  have h9 := stW_len z
  rw [lan2 z] at HSt
  generalize gmV z = V at HV ⊢
  generalize lofOk z = ok at HO ⊢
  generalize stW z = W at HV HO HSt HTw h9
  obtain ⟨L, F⟩ := z
  obtain ⟨va, rfl, ht⟩ := hz
  simp only at ht hf HSt HV HAv
  obtain ⟨w0, e0, hb0, c0, c1, m0⟩ := boxA_ex w 44 (.int .i64 L) va
  have HFr := Lib.hid (TsR.frame _ _ _ _ ht hb0)
  obtain ⟨va1, va2, rfl, -⟩ := HFr.out.shape
  generalize hfl : F.length = fl at c1 e0 HFr HSt HAv ⊢
  have Hf := Lib.hid hf
  have HB0 := Lib.hid hb0
  have Hfl := Lib.hid hfl
  clear hfl hf ht hb0 hM
  obtain ⟨n, hn⟩ : ∃ n, n = W.length := ⟨_, rfl⟩
  have Hn := Lib.hid hn
  rw [← hn] at HV HO h9
  go_enter Try.func67, Try.ntmps67
  go_wp2_with fail
  (with_reducible refine (HSt.out _ HB0.out).mono ?_)
  rintro e w2 ⟨sv, rfl, hn2, hb2⟩
  have hs2 := Sep.one (OwnOf.kept OStr.kept).held hn2
  obtain ⟨sa, sc, es, hq⟩ := hs2.strsAt
  subst es
  rw [List.length_map, ← hn] at hq ⊢
  have c0 := (hb2.cell (p := ⟨w.heap.size, 0, none⟩) m0).trans c0
  have c1 := (hb2.cell (p := ⟨w.heap.size, 1, none⟩) m0).trans c1
  have m2 : w.heap.size < w2.heap.size := Nat.lt_of_lt_of_le m0 hb2.size
  have HB2 := Lib.hid (HB0.out.trans (hb2.mono HB0.out.size))
  have HFr2 := Lib.hid (TsR.frame _ _ _ _ HFr.out hb2)
  have z2 : w.heap.size ≤ w2.heap.size := Nat.le_of_lt m2
  clear hb2 hn2 hs2 HSt hn HFr HB0 e0 m0
  by_cases hn0 : n = 0
  · have HR := Lib.hid (show V = [] from by rw [HV.out, hn0]; rfl)
    have HF := Lib.hid (show ok = false from by rw [HO.out, hn0]; rfl)
    have t0 : ((n : Int) == 0) = true := by rw [hn0]; rfl
    clear hq HV HO
    go_wp2
    go_ret2
    exact ⟨_, by rw [HF.out]; rfl, by rw [HR.out]; exact New.nil _ _, HB2.out⟩
  · have t0 : ((n : Int) == 0) = false := by simp; omega
    have HF := Lib.hid (show ok = true from by rw [HO.out, decide_eq_true hn0])
    obtain ⟨b, e1, hb, hc⟩ := hq (by omega)
    subst e1
    have Hc := Lib.hid hc
    have Hz := Lib.hid (fun w1 => zeros_c (w := w1) (p := n) (by omega))
    have hni : ¬ (n : Int) = 0 := by omega
    clear hq HO hc
    go_wp2_with fail
    (with_reducible refine (Hz.out _).mono ?_)
    rintro e w3 ⟨tv, rfl, hn3, hb3⟩
    obtain ⟨tb, tc, _, _, et, _, htb, htb2, _⟩ := hn3.tab_at (i := 0) (j := 0) ((Sq.zeros n).row (by omega)).1 ((Sq.zeros n).entry (by omega) (by omega))
    subst et
    rw [(Sq.zeros n).1] at hn3 ⊢
    rw [gF_start F W n] at hn3
    have HN3 := Lib.hid hn3
    have HB3 := Lib.hid hb3
    clear hn3 hb3 Hz htb2
    go_wp2
    go_loopg [20] n (fun g i wr => ∃ (k : Nat), i = .int .i64 k ∧ k + g = n ∧ Hid (New (OTab 3 54) w2.heap.size wr (.slice (some ⟨tb, 0, none⟩) n tc) (tabOf n n (gF F W k 0))) ∧ Hid (Below w2.heap.size w2 wr))
    case atStart => exact ⟨0, rfl, by omega, HN3, HB3⟩
    case round =>
      clear HN3 HB3
      obtain ⟨i, rfl, hi, HN, HB⟩ := hrel
      by_cases hlt : i < n
      · have hii : (i : Int) < (n : Int) := by omega
        obtain ⟨u, hu, _⟩ := at_lt (xs := W) (k := i) (by rw [← Hn.out]; exact hlt)
        have gu := Hc.out i (wordT u) (by rw [List.getElem?_map, hu]; rfl)
        have gu := (HB.out.cell (p := ⟨b, i, none⟩) hb).trans gu
        obtain ⟨hus, -, hu1, -, -⟩ := (HTw.out u (List.mem_of_getElem? hu)).facts
        obtain ⟨ui, hui⟩ : ∃ x, x = 97 + u.getD 1 0 := ⟨_, rfl⟩
        rw [← hui] at hu1
        obtain ⟨su, hsu⟩ : ∃ x, x = wordT u := ⟨_, rfl⟩
        rw [← hsu] at gu hus hu1
        have Hsu := Lib.hid hsu
        have Hui := Lib.hid hui
        have Hu := Lib.hid hu
        clear hu hsu hui
        go_wp2
        go_loopg [27] n (fun g j wr => ∃ (k : Nat), j = .int .i64 k ∧ k + g = n ∧ Hid (New (OTab 3 54) w2.heap.size wr (.slice (some ⟨tb, 0, none⟩) n tc) (tabOf n n (gF F W i k))) ∧ Hid (Below w2.heap.size w2 wr))
        case atStart => exact ⟨0, rfl, by omega, HN, HB⟩
        case round =>
          clear HN HB
          obtain ⟨j, rfl, hj, HN, HB⟩ := hrel
          obtain ⟨wB, rfl⟩ : ∃ x, x = wr := ⟨_, rfl⟩
          by_cases hltj : j < n
          · have hji : (j : Int) < (n : Int) := by omega
            obtain ⟨g, rfl⟩ : ∃ x, gk = x + 1 := ⟨gk - 1, by omega⟩
            obtain ⟨v, hv, _⟩ := at_lt (xs := W) (k := j) (by rw [← Hn.out]; exact hltj)
            have gv := Hc.out j (wordT v) (by rw [List.getElem?_map, hv]; rfl)
            have gv := (HB.out.cell (p := ⟨b, j, none⟩) hb).trans gv
            have k0 := (HB.out.cell (p := ⟨w.heap.size, 0, none⟩) m2).trans c0
            have k1 := (HB.out.cell (p := ⟨w.heap.size, 1, none⟩) m2).trans c1
            obtain ⟨hvs, hv0, hv1, hve, -⟩ := (HTw.out v (List.mem_of_getElem? hv)).facts
            have HgT := Lib.hid (fun (h : goesB F u v = true) => gF_take (n := n) (F := F) (W := W) (i := i) (j := j) (by rw [getD_of Hu.out, getD_of hv]; exact h))
            have HgF := Lib.hid (fun (h : goesB F u v = false) => gF_skip (n := n) (F := F) (W := W) (i := i) (j := j) (by rw [getD_of Hu.out, getD_of hv]; exact h))
            have hgo : goesB F u v = (decide (u.getD 1 0 = v.getD 0 0) && avoM F (wordT (u ++ v.drop 1))) := rfl
            have hex : (wordT v).extract 1 (wordT v).size = (wordT v).extract 1 2 := by rw [hvs]
            have hes : ((wordT v).extract 1 2).size = 1 := by rw [ByteArray.size_extract, hvs]; rfl
            have hs0 : ¬ su.size + ((wordT v).extract 1 2).size > 9223372036854775807 := two_add' hus hes
            have hcat : su ++ (wordT v).extract 1 2 = wordT (u ++ v.drop 1) := by rw [hve, Hsu.out, wordT_append]
            have hBw : Below w.heap.size w wB := HB2.out.trans (HB.out.mono z2)
            have HA := Lib.hid (fun w' (hb' : Below wB.heap.size wB w') => HAv.out w' (hBw.trans (hb'.mono hBw.size)) (su ++ (wordT v).extract 1 2) (by rw [ByteArray.size_append, hes, hus]; decide))
            have mB : w.heap.size < wB.heap.size := Nat.lt_of_lt_of_le m2 HB.out.size
            have zB := HB.out.size
            obtain ⟨b', c'', sb, sc', hvt, _, _, _, hcl1, _, hsb, hsb2, hcl2, hfr, hst⟩ := HN.out.tab_at (tabOf_at hlt) (rowOf_at hltj)
            obtain rfl : b' = tb := by simp at hvt; exact hvt.1.symm
            rw [rowOf_len] at hcl1
            have Hst := Lib.hid (hst 1)
            have HNw := HN
            obtain ⟨vi, hvi⟩ : ∃ x, x = 97 + v.getD 0 0 := ⟨_, rfl⟩
            rw [← hvi] at hv0
            have Huv := Lib.hid (show (vi = ui ↔ u.getD 1 0 = v.getD 0 0) from by rw [Hui.out, hvi]; omega)
            have Hgo := Lib.hid hgo
            have Hcat := Lib.hid hcat
            clear hvi hv hgo hst hvt HN hve hcat hv1 hBw
            obtain ⟨sv, hsv⟩ : ∃ x, x = wordT v := ⟨_, rfl⟩
            rw [← hsv] at gv hvs hv0 hex hes hs0 HA Hcat
            clear hsv
            by_cases hq : u.getD 1 0 = v.getD 0 0
            · have t0' : vi = ui := Huv.out.2 hq
              have t1 : ((ui : Int) == (vi : Int)) = true := by rw [t0']; simp
              have HgA := Lib.hid (show goesB F u v = avoM F (su ++ sv.extract 1 2) from by rw [Hgo.out, decide_eq_true hq, Bool.true_and, Hcat.out])
              generalize avoM F (su ++ sv.extract 1 2) = av at HA HgA
              clear t0' Hgo Huv hq Hcat
              have HSS := Lib.hid (fun (w' : World) (hb' : Below wB.heap.size wB w') => (show w'.cell? ⟨w.heap.size, 0, none⟩ = some (.int .i64 L) ∧ w'.cell? ⟨w.heap.size, 1, none⟩ = some (.slice va1 fl va2) from ⟨(hb'.cell (p := ⟨w.heap.size, 0, none⟩) mB).trans k0, (hb'.cell (p := ⟨w.heap.size, 1, none⟩) mB).trans k1⟩))
              have hS0 := HSS.out _ (Below.refl _ _)
              have B1 := (Below.refl wB.heap.size wB).drew
              have hSd := HSS.out _ B1
              clear Hst hcl1 hcl2 hfr hsb hsb2
              go_wp2
              go_region_held3 (fun w' => w'.cell? ⟨w.heap.size, 0, none⟩ = some (.int .i64 L) ∧ w'.cell? ⟨w.heap.size, 1, none⟩ = some (.slice va1 fl va2))
                (first | with_reducible exact hS2 | with_reducible exact hSd | with_reducible exact hS0 | go_keep)
                ((first
                  | (go_at_call 91; (with_reducible refine (HA.out _ B1).mono ?_); rintro e u1 ⟨rfl, q1⟩; have B2 := B1.trans (q1.mono B1.size); have hS2 := HSS.out _ B2)
                  | fail))
              all_goals
                have HN9 := Lib.hid (HNw.out.keep (OTab.kept _ _) B2 (Nat.le_refl _))
                have HB9 := Lib.hid (HB.out.trans (B2.mono zB))
                clear HA HSS B1 B2 q1 HNw HB
                cases av with
                | true =>
                  have HS2 := Lib.hid (HgT.out HgA.out)
                  obtain ⟨b'', c3, sb, sc', hvt, _, _, _, hcl1, _, hsb, hsb2, hcl2, hfr, hst⟩ := HN9.out.tab_at (tabOf_at hlt) (rowOf_at hltj)
                  obtain rfl : b'' = b' := by simp at hvt; exact hvt.1.symm
                  rw [rowOf_len] at hcl1
                  have Hst := Lib.hid (hst 1)
                  have HBs := Lib.hid (HB9.out.setCell (p := ⟨sb, j, none⟩) hsb (.int .i64 1))
                  clear HgT HgF HgA hst hvt HN9
                  go_wp2
                  go_roundg g
                  case measure => omega
                  case rel => exact ⟨j + 1, by go_num, by omega, by rw [← HS2.out]; exact Lib.hid (New.heap (OTab.kept _ _) Hst.out rfl), HBs⟩
                | false =>
                  have HS2 := Lib.hid (HgF.out HgA.out)
                  have HN2 := Lib.hid (show New (OTab 3 54) w2.heap.size u1 (.slice (some ⟨b', 0, none⟩) n tc) (tabOf n n (gF F W i (j + 1))) from by rw [← HS2.out]; exact HN9.out)
                  clear HgT HgF HgA HN9
                  go_wp2
                  go_roundg g
                  case measure => omega
                  case rel => exact ⟨j + 1, by go_num, by omega, HN2, HB9⟩
            · have t1 : ((ui : Int) == (vi : Int)) = false := by
                have : ¬ vi = ui := fun h => hq (Huv.out.1 h)
                simp; omega
              have HS2 := Lib.hid (HgF.out (by rw [Hgo.out, decide_eq_false hq, Bool.false_and]))
              have HN2 := Lib.hid (show New (OTab 3 54) w2.heap.size wB (.slice (some ⟨b', 0, none⟩) n tc) (tabOf n n (gF F W i (j + 1))) from by rw [← HS2.out]; exact HNw.out)
              clear HgT HgF Hst HNw Hgo Huv hq Hcat HA
              go_wp2
              go_quiet (fail)
              rename_i nq
              go_wp2
              go_roundg g
              case measure => omega
              case rel => exact ⟨j + 1, by go_num, by omega, Lib.hid (New.heap (OTab.kept _ _) HN2.out rfl), Lib.hid (below_drewN HB.out nq)⟩
          · obtain rfl : j = n := by omega
            have hji : ¬ ((j : Int) < (j : Int)) := by omega
            have HN2 := Lib.hid (show New (OTab 3 54) w2.heap.size wB (.slice (some ⟨tb, 0, none⟩) j tc) (tabOf j j (gF F W (i + 1) 0)) from by rw [← gF_row]; exact HN.out)
            clear HN
            go_wp2
            go_roundg (j - (i + 1))
            case measure => omega
            case rel => exact ⟨i + 1, by go_num, by omega, HN2, HB⟩
      · obtain rfl : i = n := by omega
        have hii : ¬ ((i : Int) < (i : Int)) := by omega
        have HR := Lib.hid (show New (OTab 3 54) w.heap.size wr (.slice (some ⟨tb, 0, none⟩) i tc) V from by rw [HV.out, ← gF_end]; exact HN.out.mono z2)
        have HBf := Lib.hid (HB2.out.trans (HB.out.mono z2))
        clear HN HB
        go_wp2
        go_ret2
        exact ⟨_, by rw [HF.out]; rfl, HR.out, HBf.out⟩
end Go.Proofs.Ytcilgihmaaobeaa
end
