/-
  Texts of this claim joined: laws for its walks, contracts of the functions that the law reaches.
-/
import Derived.Test.YtcilgihmaaobeaaLabelsOfM1
import Derived.OrdersHeld
import Derived.Deep.RegionHeld3
import Derived.Deep.DeepCutAuto
import Derived.Test.YtcilgihmaaobeaaRows
import Derived.Test.YtcilgihmaaobeaaLabelsOfM8
import Derived.Test.YtcilgihmaaobeaaLabelsOfM9
import Derived.IntWalk
import Derived.BigQuiet
import Derived.Test.YtcilgihmaaobeaaLabelsOfM2
import Derived.Test.YtcilgihmaaobeaaLabelsOfM3
import Derived.Test.YtcilgihmaaobeaaLabelsOfM5
import Derived.Test.YtcilgihmaaobeaaLabelsOfM6
section
/-
  A region that draws its order and whose last operation writes a cell that the region reads: the condition on the world is asked only while operations are left.
-/
namespace Go.Sd
open Go.RowKit Go.Deep
section
variable {P : Program} {ops : Array Oper} {Q : Exit → Act → World → Prop} {md : Region.Mode} {S : World → Prop}
/-- Some operation is left. -/
def Rem (listed : Array Bool) : Prop := ∃ k : Nat, listed[k]? = some false
/-- Some operation that is left waits for number i. -/
def waited (md : Region.Mode) (ops : Array Oper) (listed : Array Bool) (i : Nat) : Bool := (List.range ops.size).any fun m => (listed[m]? == some false) && (decide (m ≠ i) && (match ops[m]? with | some om => om.after.any (fun e => Region.binds md e && decide (e.on = i)) | none => false))
def wpAnyL (P : Program) (md : Region.Mode) (ops : Array Oper) (Q : Exit → Act → World → Prop) (S : World → Prop) : Nat → Array Bool → Act → World → Prop
  | 0, listed, a, w => Region.ready md ops listed = [] ∧ Q .normal a w
  | fuel + 1, listed, a, w =>
    (Region.ready md ops listed = [] → Q .normal a w) ∧
    ∀ i ∈ Region.ready md ops listed, wpOp P ops Q i (fun a' w' => (Rem (listed.setIfInBounds i true) → S w') ∧ wpAnyL P md ops Q S fuel (listed.setIfInBounds i true) a' w') a w
theorem wpAny_of_L : ∀ (fuel : Nat) (listed : Array Bool) (a : Act) (w : World), wpAnyL P md ops Q S fuel listed a w → wpAny P md ops Q fuel listed a w
  | 0, _, _, _, h => h
  | fuel + 1, _, _, _, h => ⟨h.1, fun i hi => wpOp_mono (fun _ _ h' => wpAny_of_L fuel _ _ _ h'.2) (h.2 i hi)⟩
theorem wpAnyL_first {i : Nat} {oi : Oper} {v : Value} (hi : ops[i]? = some oi) (hsel : ∀ (j : Nat) (o : Oper) cs b, ops[j]? = some o → o.op ≠ .select cs b)
    (hQ : ∀ c a w, Q (.panic c) (a.put oi.dst v) w → Q (.panic c) a w) :
    ∀ (fuel : Nat) (listed : Array Bool) (a : Act) (w : World),
      (∀ j oj, ops[j]? = some oj → j ≠ i → listed.getD j true = false → (∀ e ∈ oj.after, Region.binds md e = true → e.on ≠ i) → oi.apart ops oj = true) →
      i ∈ Region.ready md ops listed → (∃ m om, ops[m]? = some om ∧ listed[m]? = some false ∧ m ≠ i ∧ ∃ e ∈ om.after, Region.binds md e = true ∧ e.on = i) → YieldsIf P ops S oi v a → S w →
      wpAnyL P md ops Q S fuel (listed.setIfInBounds i true) (a.put oi.dst v) w → wpAnyL P md ops Q S (fuel + 1) listed a w := by
  intro fuel
  induction fuel with
  | zero =>
    intro listed a w _ hr _ hy hS H
    refine ⟨fun h => (by rw [h] at hr; cases hr), fun j hj => ?_⟩
    by_cases e : j = i
    · subst e; exact hy.wpOp hi hS ⟨fun _ => hS, H⟩
    · have h1 := ready_mono hj e
      rw [H.1] at h1
      cases h1
  | succ fuel ih =>
    intro listed a w hfree hr hm hy hS H
    refine ⟨fun h => (by rw [h] at hr; cases hr), fun j hj => ?_⟩
    by_cases e : j = i
    · subst e; exact hy.wpOp hi hS ⟨fun _ => hS, H⟩
    · have hn := H.2 j (ready_mono hj e)
      obtain ⟨hju, oj, hoj, hall⟩ := mem_ready.1 hj
      have hnot : ∀ f ∈ oj.after, Region.binds md f = true → f.on ≠ i := fun f hf hb he => by
        have g1 := hall f hf hb
        have g0 := (mem_ready.1 hr).1
        rw [he] at g1
        by_cases hl : i < listed.size
        · simp [hl] at g0 g1; rw [g0] at g1; cases g1
        · simp [Array.getElem?_eq_none (Nat.le_of_not_lt hl)] at g1
      have hp := wpOp_putIf hoj (hfree j oj hoj e hju hnot) (fun cs b => hsel i oi cs b hi) (fun cs b => hsel j oj cs b hoj) hQ hy hn
      have hir : i ∈ Region.ready md ops (listed.setIfInBounds j true) := ready_mono hr (fun h => e h.symm)
      have hfr : ∀ k ok, ops[k]? = some ok → k ≠ i → (listed.setIfInBounds j true).getD k true = false → (∀ f ∈ ok.after, Region.binds md f = true → f.on ≠ i) → oi.apart ops ok = true := fun k ok hk hki hun hno => by
        refine hfree k ok hk hki ?_ hno
        by_cases hjk : j = k
        · subst hjk; exact hju
        · rw [getD_set_ne true hjk] at hun; exact hun
      refine wpOp_mono (fun a' w' h => ?_) hp
      obtain ⟨m, om, h1, h2, h3, f, hf, hb, he⟩ := hm
      have hjm : j ≠ m := fun h0 => by
        subst h0
        rw [hoj] at h1
        obtain rfl := Option.some.inj h1
        exact hnot f hf hb he
      have hSw : S w' := h.2.1 ⟨m, by rw [Array.getElem?_setIfInBounds_ne hjm, Array.getElem?_setIfInBounds_ne (Ne.symm h3)]; exact h2⟩
      refine ⟨fun _ => hSw, ih _ a' w' hfr hir ⟨m, om, h1, by rw [Array.getElem?_setIfInBounds_ne hjm]; exact h2, h3, f, hf, hb, he⟩ h.1 hSw ?_⟩
      rw [Array.setIfInBounds_comm _ _ e]
      exact h.2.2
theorem waited_spec {listed : Array Bool} {i : Nat} (h : waited md ops listed i = true) : ∃ m om, ops[m]? = some om ∧ listed[m]? = some false ∧ m ≠ i ∧ ∃ e ∈ om.after, Region.binds md e = true ∧ e.on = i := by
  unfold waited at h
  obtain ⟨m, _, h⟩ := List.any_eq_true.1 h
  simp only [Bool.and_eq_true, beq_iff_eq, decide_eq_true_eq] at h
  obtain ⟨h1, h2, h3⟩ := h
  cases hm : ops[m]? with
  | none => rw [hm] at h3; cases h3
  | some om =>
    rw [hm] at h3
    obtain ⟨k, hk, he⟩ := Array.any_eq_true.1 h3
    simp only [Bool.and_eq_true, decide_eq_true_eq] at he
    exact ⟨m, om, hm, h1, h2, _, Array.getElem_mem hk, he⟩
theorem wpAnyL_take (i : Nat) {oi : Oper} {v : Value} {fuel : Nat} {listed : Array Bool} {a : Act} {w : World} (hi : ops[i]? = some oi)
    (hs : Region.noSelect ops = true) (hf : Region.free md ops listed i = true) (hr : (Region.ready md ops listed).contains i = true) (hw : waited md ops listed i = true)
    (hQ : ∀ c a w, Q (.panic c) (a.put oi.dst v) w → Q (.panic c) a w) (hy : YieldsIf P ops S oi v a) (hS : S w)
    (h : wpAnyL P md ops Q S fuel (listed.setIfInBounds i true) (a.put oi.dst v) w) : wpAnyL P md ops Q S (fuel + 1) listed a w :=
  wpAnyL_first hi (Region.noSelect_spec hs) hQ fuel listed a w (Region.free_spec hi hf) (by simpa using hr) (waited_spec hw) hy hS h
/-- One alone may come up. -/
theorem wpAnyL_one (i : Nat) {o : Oper} {fuel : Nat} {listed : Array Bool} {a : Act} {w : World} (hr : Region.ready md ops listed = [i]) (ho : ops[i]? = some o)
    (h : ∀ K' : Act → World → Prop, Shut (∀ a w, (Rem (listed.setIfInBounds i true) → S w) → wpAnyL P md ops Q S fuel (listed.setIfInBounds i true) a w → K' a w) → if Region.wanted o (yielded ops a.tmps) = true then Oper.wp P o a w K' Q else K' (a.put o.dst undef) w) : wpAnyL P md ops Q S (fuel + 1) listed a w :=
  ⟨fun h0 => (by rw [hr] at h0; cases h0), fun j hj => by
    rw [hr] at hj
    obtain rfl := List.mem_singleton.1 hj
    exact wpOp_step ho fun K' hK => h K' fun a w hS hW => hK a w ⟨hS, hW⟩⟩
theorem wpAnyL_done {listed : Array Bool} {a : Act} {w : World} (hr : Region.ready md ops listed = []) (h : Q .normal a w) : ∀ fuel, wpAnyL P md ops Q S fuel listed a w
  | 0 => ⟨hr, h⟩
  | _ + 1 => ⟨fun _ => h, by rw [hr]; simp⟩
theorem wp_region_L (S : World → Prop) {id : Nat} {a : Act} {w : World} (hm : P.follows .mixedOrders = true) (h : wpAnyL P .any ops Q S ops.size (Array.replicate ops.size false) a w.drew) : (Code.region id ops true).wp P Q a w :=
  wp_region_any hm (wpAny_of_L _ _ _ _ h)
/-- All of the listed have come up. -/
def allUp (listed : Array Bool) : Bool := listed.all id
theorem not_rem {listed : Array Bool} (h : allUp listed = true) : ¬ Rem listed := by
  rintro ⟨k, hk⟩
  unfold allUp at h
  have hl := (Array.getElem?_eq_some_iff.1 hk)
  have := Array.all_eq_true.1 h k hl.1
  rw [hl.2] at this
  cases this
end
end Go.Sd
end

section
/-
  The words of two letters that can be continued without end: the reference's l3Pairs.
-/
namespace Go.Proofs.Ytcilgihmaaobeaa
open Go.RowKit Go.Deep Go.Sd
set_option linter.unusedSimpArgs false
theorem pick_sub {α : Type} {xs : List α} {l : List Bool} {x : α} (h : x ∈ pick xs l) : x ∈ xs := by
  obtain ⟨i, -, h2⟩ := (pick_mem _ _ _).1 h
  exact List.mem_of_getElem? h2
set_option maxHeartbeats 4000000 in
set_option maxRecDepth 100000 in
theorem l3Pairs_c {w : World} {vs : Value} {L : Nat} {F : List ByteArray} (hz : ShR w vs ((L : Int), F)) (h0 : 0 < L) (h3 : L ≤ 3) (hf : ∀ f, f ∈ F → f.size ≤ 1048576) :
    Calls Try.prog 105 #[vs] w (Makes (OStrL 9) w ((pairsM F L).map wordT)) := by
  obtain ⟨va, rfl, ht⟩ := hz
  simp only at ht
  obtain ⟨w0, e0, hb0, c0, c1, m0⟩ := boxA_ex w 44 (.int .i64 L) va
  have hFr := TsR.frame _ _ _ _ ht hb0
  obtain ⟨va1, va2, rfl, -⟩ := hFr.shape
  have HFr := Lib.hid hFr
  generalize hfl : F.length = fl at c1 e0 HFr ⊢
  have Hf := Lib.hid hf
  have HB0 := Lib.hid hb0
  have HW := Lib.hid (show Calls Try.prog 125 #[.agg #[.int .i64 L, .slice va1 fl va2], .int .i64 2] w0 _ from l3Words_c (L := L) (F := F) ⟨_, rfl, HFr.out⟩ h0 h3 hf)
  have H2 := Lib.hid (fun u (h : u ∈ avoW F L) => avoW_two h0 h3 h)
  have hM : (avoW F L).length ≤ 729 := Nat.le_trans (List.length_filter_le _ _) (by rw [allW_len h0]; exact pow_le h3 (by decide))
  have HP := Lib.hid (show pairsM F L = pick (avoW F L) (liveL (EG F (avoW F L)) (avoW F L).length) from rfl)
  generalize pairsM F L = PM at HP ⊢
  generalize avoW F L = W at HW H2 hM HP
  clear hfl hf ht hb0 hFr
  go_enter Try.func105, Try.ntmps105
  go_wp2_with fail
  (with_reducible refine HW.out.mono ?_)
  rintro e w1 ⟨r, rfl, hn1, hb1⟩
  have hs1 := Sep.one (OwnOf.kept OStr.kept).held hn1
  obtain ⟨ra, rc, er, _⟩ := hs1.strsAt
  subst er
  rw [List.length_map] at hs1 ⊢
  have HS1 := Lib.hid (show Sep w0.heap.size w1 [Res.strs 9 (.slice ra (pick W (List.replicate W.length true)).length rc) ((pick W (List.replicate W.length true)).map wordT)] from by rw [pick_all]; exact hs1)
  have HB1 := Lib.hid hb1
  have HSup := Lib.hid (Sup.start (E := EG F W) (n := W.length))
  clear hn1 hb1 hs1
  go_wp2
  go_loopg [3] (cntT (List.replicate W.length true) + 1) (fun g ov wr => ∃ (l : List Bool) (a : Option Addr) (c : Nat), ov = .slice a (pick W l).length c ∧ cntT l + 1 = g ∧ Hid (Sup (EG F W) W.length l) ∧ Hid (Sep w0.heap.size wr [Res.strs 9 (.slice a (pick W l).length c) ((pick W l).map wordT)]) ∧ Hid (Below w0.heap.size w0 wr))
  case atStart => exact ⟨_, ra, rc, by rw [pick_all], rfl, HSup, HS1, HB1⟩
  case round =>
    clear HS1 HB1 HSup
    obtain ⟨l, a, c, rfl, hg, HSup, HS, HB⟩ := hrel
    obtain ⟨wA, rfl⟩ : ∃ x, x = wr := ⟨_, rfl⟩
    have hz := HB.out.size
    have hlw := HSup.out.1
    have H2O := Lib.hid (fun u (h : u ∈ pick W l) => H2.out u (pick_sub h))
    have HK := Lib.hid (fun (n2 : Nat) (hn : (pick W (maskF (keepB F (pick W l)) W l)).length = n2) => (show (pick W l).filter (keepB F (pick W l)) = pick W (maskF (keepB F (pick W l)) W l) from pick_filter _ _ _))
    have hOl : (pick W l).length ≤ 729 := by rw [pick_len _ _ hlw]; exact Nat.le_trans cntT_le (by omega)
    have HS0 := Lib.hid ((HS.out.new (OwnOf.kept OStr.kept).held ((Below.refl _ _).alloc (Nat.le_refl _) _) hz (New.empty (e := 9) (R := OValR Value.string) wA (Nat.le_refl _))))
    obtain ⟨wN, eN⟩ : ∃ x, x = wA.alloc (.cells #[] 9) := ⟨_, rfl⟩
    rw [← eN] at HS0
    have HBN := Lib.hid (show Below w0.heap.size w0 wN from by rw [eN]; exact HB.out.alloc hz _)
    have eNs := eN.symm
    clear eN HS HB hz
    obtain ⟨O, hO⟩ : ∃ O, O = pick W l := ⟨_, rfl⟩
    have HO := Lib.hid hO
    rw [← hO] at H2O HK hOl HS0 ⊢
    clear hO
    go_wp2
    clear eNs
    go_loopg [4, 5] O.length (fun g vs i wr => ∃ (k : Nat) (na : Option Addr) (nc : Nat), vs = .slice na ((O.take k).filter (keepB F O)).length nc ∧ i = .int .i64 k ∧ k + g = O.length ∧ Hid (Sep w0.heap.size wr [Res.strs 9 (.slice na ((O.take k).filter (keepB F O)).length nc) (((O.take k).filter (keepB F O)).map wordT), Res.strs 9 (.slice a O.length c) (O.map wordT)]) ∧ Hid (Below w0.heap.size w0 wr))
    case atStart => exact ⟨0, _, _, rfl, rfl, by omega, HS0, HBN⟩
    case round =>
      clear HS0 HBN
      obtain ⟨k, na, nc, rfl, rfl, hk, HS, HB⟩ := hrel
      obtain ⟨wB, rfl⟩ : ∃ x, x = wr := ⟨_, rfl⟩
      by_cases hlt : k < O.length
      · obtain ⟨g2, rfl⟩ : ∃ x, gk = x + 1 := ⟨gk - 1, by omega⟩
        obtain ⟨u, hu, _⟩ := at_lt hlt
        have hsO := HS.out.swap
        obtain ⟨_, _, hv, hq⟩ := hsO.strsAt
        obtain ⟨b, e1, hb, hc⟩ := hq (by simp; omega)
        simp at hv
        obtain ⟨rfl, rfl⟩ := hv
        subst e1
        have g0 := hc k (wordT u) (by simp [hu])
        have hu2 := H2O.out u (List.mem_of_getElem? hu)
        have hTO : TsR wB (.slice (some ⟨b, 0, none⟩) O.length c) (O.map wordT) := by
          obtain ⟨G, hG, -⟩ := hsO.headNew
          exact OwnOf.reads (fun _ _ _ _ h => h.1) hG
        have HGT := Lib.hid (fun (w' : World) (hb' : Below wB.heap.size wB w') => (show Calls Try.prog 126 #[.agg #[.int .i64 L, .slice va1 fl va2], .slice (some ⟨b, 0, none⟩) O.length c, .string (wordT u), .bool true] w' _ from l3GoesT_c (z := ((L : Int), F)) ⟨_, rfl, TsR.frame _ _ _ _ (TsR.frame _ _ _ _ HFr.out HB.out) hb'⟩ Hf.out (TsR.frame _ _ _ _ hTO hb') hu2 H2O.out))
        have HGF := Lib.hid (fun (w' : World) (hb' : Below wB.heap.size wB w') => (show Calls Try.prog 126 #[.agg #[.int .i64 L, .slice va1 fl va2], .slice (some ⟨b, 0, none⟩) O.length c, .string (wordT u), .bool false] w' _ from l3GoesF_c (z := ((L : Int), F)) ⟨_, rfl, TsR.frame _ _ _ _ (TsR.frame _ _ _ _ HFr.out HB.out) hb'⟩ Hf.out (TsR.frame _ _ _ _ hTO hb') hu2 H2O.out))
        have k0 := (HB.out.cell (p := ⟨w.heap.size, 0, none⟩) m0).trans c0
        have k1 := (HB.out.cell (p := ⟨w.heap.size, 1, none⟩) m0).trans c1
        have m1 : w.heap.size < wB.heap.size := Nat.lt_of_lt_of_le m0 HB.out.size
        have hki : (k : Int) < (O.length : Int) := by omega
        have HT := Lib.hid (show (O.take (k + 1)).filter (keepB F O) = (O.take k).filter (keepB F O) ++ (if keepB F O u = true then [u] else []) from by rw [← take_snoc' hu, List.filter_append]; congr 1; simp [List.filter_cons])
        have hfl : ((O.take k).filter (keepB F O)).length ≤ 729 := Nat.le_trans (List.length_filter_le _ _) (by simp; omega)
        have HKB := Lib.hid (show keepB F O u = ((O.any fun v => goesB F u v) && (O.any fun v => goesB F v u)) from rfl)
        generalize hfn : ((O.take k).filter (keepB F O)) = fl' at HS HT hfl
        obtain ⟨p1, hp1⟩ : ∃ x, x = (O.any fun v => goesB F u v) := ⟨_, rfl⟩
        obtain ⟨p2, hp2⟩ : ∃ x, x = (O.any fun v => goesB F v u) := ⟨_, rfl⟩
        simp only at HGT HGF
        rw [← hp1] at HGT HKB
        rw [← hp2] at HGF HKB
        clear hfn hu hq hc hu2 hTO hsO hp1 hp2
        have HSS := Lib.hid (fun (w' : World) (hb' : Below wB.heap.size wB w') => (show w'.cell? ⟨w.heap.size, 0, none⟩ = some (.int .i64 L) ∧ w'.cell? ⟨w.heap.size, 1, none⟩ = some (.slice va1 fl va2) ∧ w'.cell? ⟨b, k, none⟩ = some (.string (wordT u)) from ⟨(hb'.cell (p := ⟨w.heap.size, 0, none⟩) m1).trans k0, (hb'.cell (p := ⟨w.heap.size, 1, none⟩) m1).trans k1, (hb'.cell (p := ⟨b, k, none⟩) hb).trans g0⟩))
        have hS0 := HSS.out _ (Below.refl _ _)
        have B1 := (Below.refl wB.heap.size wB).drew
        have hSd := HSS.out _ B1
        cases p1 with
        | false =>
          have HT2 := Lib.hid (show (O.take (k + 1)).filter (keepB F O) = fl' from by rw [HT.out, HKB.out]; simp)
          clear HT
          go_wp2
          refine wp_region_L (fun w' => w'.cell? ⟨w.heap.size, 0, none⟩ = some (.int .i64 L) ∧ w'.cell? ⟨w.heap.size, 1, none⟩ = some (.slice va1 fl va2) ∧ w'.cell? ⟨b, k, none⟩ = some (.string (wordT u))) (by kernel_rfl) ?_
          refine wpAnyL_take 1 (v := ?_) rfl (by kernel_rfl) (by kernel_rfl) (by kernel_rfl) (by kernel_rfl) (fun _ _ _ h => h) (Or.inl ⟨by rfl, ?_⟩) hSd ?_
          rotate_left
          · (intro w hSw; (try dsimp only at hSw); go_simp) <;> (try with_reducible rfl)
          try simp only [Act.put, List.getElem_toArray, List.getElem_cons_zero, List.getElem_cons_succ, List.setIfInBounds_toArray, List.set_cons_zero, List.set_cons_succ]
          refine wpAnyL_take 2 (v := ?_) rfl (by kernel_rfl) (by kernel_rfl) (by kernel_rfl) (by kernel_rfl) (fun _ _ _ h => h) (Or.inl ⟨by rfl, ?_⟩) hSd ?_
          rotate_left
          · (intro w hSw; (try dsimp only at hSw); go_simp) <;> (try with_reducible rfl)
          try simp only [Act.put, List.getElem_toArray, List.getElem_cons_zero, List.getElem_cons_succ, List.setIfInBounds_toArray, List.set_cons_zero, List.set_cons_succ]
          refine wpAnyL_take 3 (v := ?_) rfl (by kernel_rfl) (by kernel_rfl) (by kernel_rfl) (by kernel_rfl) (fun _ _ _ h => h) (Or.inl ⟨by rfl, ?_⟩) hSd ?_
          rotate_left
          · (intro w hSw; (try dsimp only at hSw); go_simp) <;> (try with_reducible rfl)
          try simp only [Act.put, List.getElem_toArray, List.getElem_cons_zero, List.getElem_cons_succ, List.setIfInBounds_toArray, List.set_cons_zero, List.set_cons_succ]
          refine wpAnyL_take 0 (v := ?_) rfl (by kernel_rfl) (by kernel_rfl) (by kernel_rfl) (by kernel_rfl) (fun _ _ _ h => h) (Or.inl ⟨by rfl, ?_⟩) hSd ?_
          rotate_left
          · (intro w hSw; (try dsimp only at hSw); go_simp) <;> (try with_reducible rfl)
          try simp only [Act.put, List.getElem_toArray, List.getElem_cons_zero, List.getElem_cons_succ, List.setIfInBounds_toArray, List.set_cons_zero, List.set_cons_succ]
          refine wpAnyL_take 4 (v := ?_) rfl (by kernel_rfl) (by kernel_rfl) (by kernel_rfl) (by kernel_rfl) (fun _ _ _ h => h) (Or.inl ⟨by rfl, ?_⟩) hSd ?_
          rotate_left
          · (intro w hSw; (try dsimp only at hSw); go_simp) <;> (try with_reducible rfl)
          try simp only [Act.put, List.getElem_toArray, List.getElem_cons_zero, List.getElem_cons_succ, List.setIfInBounds_toArray, List.set_cons_zero, List.set_cons_succ]
          refine wpAnyL_take 5 (v := ?_) rfl (by kernel_rfl) (by kernel_rfl) (by kernel_rfl) (by kernel_rfl) (fun _ _ _ h => h) (Or.inl ⟨by rfl, ?_⟩) hSd ?_
          rotate_left
          · (intro w hSw; (try dsimp only at hSw); go_simp) <;> (try with_reducible rfl)
          try simp only [Act.put, List.getElem_toArray, List.getElem_cons_zero, List.getElem_cons_succ, List.setIfInBounds_toArray, List.set_cons_zero, List.set_cons_succ]
          refine wpAnyL_one 6 (by kernel_rfl) rfl (fun K hK => ?_)
          go_simp
          (with_reducible refine (HGT.out _ B1).mono ?_)
          rintro e u1 ⟨rfl, q1⟩
          have B2 := B1.trans (q1.mono B1.size)
          have hS2 := HSS.out _ B2
          go_wp2_with fail
          refine hK.out _ _ (fun _ => hS2) ?_
          clear hK K
          try simp only [Act.put, List.getElem_toArray, List.getElem_cons_zero, List.getElem_cons_succ, List.setIfInBounds_toArray, List.set_cons_zero, List.set_cons_succ]
          refine wpAnyL_take 7 (v := ?_) rfl (by kernel_rfl) (by kernel_rfl) (by kernel_rfl) (by kernel_rfl) (fun _ _ _ h => h) (Or.inl ⟨by rfl, ?_⟩) hS2 ?_
          rotate_left
          · (intro w hSw; (try dsimp only at hSw); go_simp) <;> (try with_reducible rfl)
          try simp only [Act.put, List.getElem_toArray, List.getElem_cons_zero, List.getElem_cons_succ, List.setIfInBounds_toArray, List.set_cons_zero, List.set_cons_succ]
          refine wpAnyL_take 8 (v := undef) rfl (by kernel_rfl) (by kernel_rfl) (by kernel_rfl) (by kernel_rfl) (fun _ _ _ h => h) (Or.inr ⟨by rfl, rfl⟩) hS2 ?_
          try simp only [Act.put, List.getElem_toArray, List.getElem_cons_zero, List.getElem_cons_succ, List.setIfInBounds_toArray, List.set_cons_zero, List.set_cons_succ]
          refine wpAnyL_take 9 (v := undef) rfl (by kernel_rfl) (by kernel_rfl) (by kernel_rfl) (by kernel_rfl) (fun _ _ _ h => h) (Or.inr ⟨by rfl, rfl⟩) hS2 ?_
          try simp only [Act.put, List.getElem_toArray, List.getElem_cons_zero, List.getElem_cons_succ, List.setIfInBounds_toArray, List.set_cons_zero, List.set_cons_succ]
          refine wpAnyL_take 10 (v := undef) rfl (by kernel_rfl) (by kernel_rfl) (by kernel_rfl) (by kernel_rfl) (fun _ _ _ h => h) (Or.inr ⟨by rfl, rfl⟩) hS2 ?_
          try simp only [Act.put, List.getElem_toArray, List.getElem_cons_zero, List.getElem_cons_succ, List.setIfInBounds_toArray, List.set_cons_zero, List.set_cons_succ]
          refine wpAnyL_take 11 (v := undef) rfl (by kernel_rfl) (by kernel_rfl) (by kernel_rfl) (by kernel_rfl) (fun _ _ _ h => h) (Or.inr ⟨by rfl, rfl⟩) hS2 ?_
          try simp only [Act.put, List.getElem_toArray, List.getElem_cons_zero, List.getElem_cons_succ, List.setIfInBounds_toArray, List.set_cons_zero, List.set_cons_succ]
          refine wpAnyL_take 12 (v := undef) rfl (by kernel_rfl) (by kernel_rfl) (by kernel_rfl) (by kernel_rfl) (fun _ _ _ h => h) (Or.inr ⟨by rfl, rfl⟩) hS2 ?_
          try simp only [Act.put, List.getElem_toArray, List.getElem_cons_zero, List.getElem_cons_succ, List.setIfInBounds_toArray, List.set_cons_zero, List.set_cons_succ]
          refine wpAnyL_take 13 (v := undef) rfl (by kernel_rfl) (by kernel_rfl) (by kernel_rfl) (by kernel_rfl) (fun _ _ _ h => h) (Or.inr ⟨by rfl, rfl⟩) hS2 ?_
          try simp only [Act.put, List.getElem_toArray, List.getElem_cons_zero, List.getElem_cons_succ, List.setIfInBounds_toArray, List.set_cons_zero, List.set_cons_succ]
          refine wpAnyL_take 14 (v := undef) rfl (by kernel_rfl) (by kernel_rfl) (by kernel_rfl) (by kernel_rfl) (fun _ _ _ h => h) (Or.inr ⟨by rfl, rfl⟩) hS2 ?_
          try simp only [Act.put, List.getElem_toArray, List.getElem_cons_zero, List.getElem_cons_succ, List.setIfInBounds_toArray, List.set_cons_zero, List.set_cons_succ]
          refine wpAnyL_one 15 (by kernel_rfl) rfl (fun K hK => ?_)
          go_simp
          refine hK.out _ _ (fun h => absurd h (not_rem (by kernel_rfl))) ?_
          clear hK K
          try simp only [Act.put, List.getElem_toArray, List.getElem_cons_zero, List.getElem_cons_succ, List.setIfInBounds_toArray, List.set_cons_zero, List.set_cons_succ]
          refine wpAnyL_done (by kernel_rfl) ?_ _
          have HS2 := Lib.hid (HS.out.below B2 (Nat.le_refl _))
          have HB2 := Lib.hid (HB.out.trans (B2.mono HB.out.size))
          go_wp2
          go_roundg g2
          case measure => omega
          case rel => exact ⟨k + 1, _, _, by rw [HT2.out], by go_num, by omega, by rw [HT2.out]; exact HS2, HB2⟩
        | true =>
          cases p2 with
          | false =>
            go_wp2
            go_region_held3 (fun w' => w'.cell? ⟨w.heap.size, 0, none⟩ = some (.int .i64 L) ∧ w'.cell? ⟨w.heap.size, 1, none⟩ = some (.slice va1 fl va2) ∧ w'.cell? ⟨b, k, none⟩ = some (.string (wordT u)))
              (first | with_reducible exact hS3 | with_reducible exact hS2 | with_reducible exact hSd | with_reducible exact hS0 | go_keep)
              ((first
                | (go_at_call 126; (first
                  | (have HQ := HGT.out _ B1; (with_reducible refine HQ.mono ?_); clear HQ; rintro e u1 ⟨rfl, q1⟩; have B2 := B1.trans (q1.mono B1.size); have hS2 := HSS.out _ B2)
                  | (have HQ := HGF.out _ B2; (with_reducible refine HQ.mono ?_); clear HQ; rintro e u2 ⟨rfl, q2⟩; have B3 := B2.trans (q2.mono B2.size); have hS3 := HSS.out _ B3)))
                | fail))
            have HT2 := Lib.hid (show (O.take (k + 1)).filter (keepB F O) = fl' from by rw [HT.out, HKB.out]; simp)
            have HS2 := Lib.hid (HS.out.below B3 (Nat.le_refl _))
            have HB2 := Lib.hid (HB.out.trans (B3.mono HB.out.size))
            clear HT
            go_wp2
            go_roundg g2
            case measure => omega
            case rel => exact ⟨k + 1, _, _, by rw [HT2.out], by go_num, by omega, by rw [HT2.out]; exact HS2, HB2⟩
          | true =>
            go_wp2
            go_region_held3 (fun w' => w'.cell? ⟨w.heap.size, 0, none⟩ = some (.int .i64 L) ∧ w'.cell? ⟨w.heap.size, 1, none⟩ = some (.slice va1 fl va2) ∧ w'.cell? ⟨b, k, none⟩ = some (.string (wordT u)))
              (first | with_reducible exact hS3 | with_reducible exact hS2 | with_reducible exact hSd | with_reducible exact hS0 | go_keep)
              ((first
                | (go_at_call 126; (first
                  | (have HQ := HGT.out _ B1; (with_reducible refine HQ.mono ?_); clear HQ; rintro e u1 ⟨rfl, q1⟩; have B2 := B1.trans (q1.mono B1.size); have hS2 := HSS.out _ B2)
                  | (have HQ := HGF.out _ B2; (with_reducible refine HQ.mono ?_); clear HQ; rintro e u2 ⟨rfl, q2⟩; have B3 := B2.trans (q2.mono B2.size); have hS3 := HSS.out _ B3)))
                | fail))
            have HT2 := Lib.hid (show (O.take (k + 1)).filter (keepB F O) = fl' ++ [u] from by rw [HT.out, HKB.out]; simp)
            have hs2 := HS.out.below B3 (Nat.le_refl _)
            have hb2 := HB.out.trans (B3.mono HB.out.size)
            have g2' := (B3.cell (p := ⟨b, k, none⟩) hb).trans g0
            have hz2 := hb2.size
            obtain ⟨v', w3, hr, hs3, hb3⟩ := Sep.push (P := Try.prog) OStr.kept 36 36 (.string ⟨#[]⟩) 16 Try.underlying36 infoStr rfl hs2 hz2 (w1 := u2.alloc (.cells #[.string (wordT u)] 9)) ((Below.refl _ _).alloc (Nat.le_refl _) _) (q := .string (wordT u)) (x := wordT u) ⟨[], ⟨rfl, rfl⟩, by simp [Fresh]⟩ (bb := u2.heap.size) (c := 1) (World.cell?_alloc_at _ _ _ 0 rfl) (by simp; omega) (by simp; omega)
            obtain ⟨a', c', ev, _⟩ := hs3.strsAt
            subst ev
            have e5 : (fl'.map wordT ++ [wordT u]).length = (fl' ++ [u]).length := by simp
            have e6 : fl'.map wordT ++ [wordT u] = (fl' ++ [u]).map wordT := by simp
            rw [e5, e6] at hs3
            rw [e5] at hr
            have e7 : (fl' ++ [u]).length = fl'.length + 1 := by simp
            rw [e7] at hs3 hr
            have HS3 := Lib.hid hs3
            have HB3 := Lib.hid (hb2.trans hb3)
            have Hr := Lib.hid hr
            have E7 := Lib.hid e7
            clear hs3 hr hb3 e5 e6 e7 hs2 hb2 HS HB HGT HGF HT B1 B2 B3 q1 q2
            go_wp2_with (first
              | (at_builtin; refine wpl_append_run rfl (.tmp 31) (.tmp 36) 36 rfl rfl rfl Hr.out ?_)
              | fail)
            go_roundg g2
            case measure => omega
            case rel => exact ⟨k + 1, _, _, by rw [HT2.out, E7.out], by go_num, by omega, by rw [HT2.out, E7.out]; exact HS3, HB3⟩
      · have hki : ¬ ((k : Int) < (O.length : Int)) := by omega
        obtain ⟨l2, hl2⟩ : ∃ x, x = maskF (keepB F (pick W l)) W l := ⟨_, rfl⟩
        have hX : O.filter (keepB F O) = pick W l2 := by rw [HO.out, hl2]; exact pick_filter _ _ _
        have hl2w : l2.length = W.length := by rw [hl2, maskF_len, hlw]
        have hs9 : Sep w0.heap.size wB [Res.strs 9 (.slice na (pick W l2).length nc) ((pick W l2).map wordT), Res.strs 9 (.slice a O.length c) (O.map wordT)] := by
          have h := HS.out
          rw [List.take_of_length_le (by omega), hX] at h
          exact h
        rw [List.take_of_length_le (by omega), hX]
        have hOn : O.length = (pick W l).length := by rw [HO.out]
        have hP2 : (pick W l2).length ≤ 729 := by rw [pick_len _ _ hl2w]; exact Nat.le_trans cntT_le (by omega)
        clear HS
        by_cases he : (pick W l2).length = O.length
        · have hend := keep_end HSup.out (by rw [← hl2, he, hOn])
          have t9 : (((pick W l2).length : Int) == (O.length : Int)) = true := by rw [he]; simp
          have HR := Lib.hid (show New (OStrL 9) w.heap.size wB (.slice a O.length c) (PM.map wordT) from by
            have h := hs9.swap.headNew
            rw [HP.out, ← hend, ← HO.out]
            exact h.mono (Nat.le_of_lt m0))
          have HBf := Lib.hid (HB0.out.trans (HB.out.mono (Nat.le_of_lt m0)))
          generalize (pick W l2).length = q1 at t9 ⊢
          generalize O.length = q2 at t9 HR hki ⊢
          clear hs9 he hend hX hl2 HB
          go_wp2
          go_ret
          exact ⟨_, rfl, HR.out, HBf.out⟩
        · have t9 : (((pick W l2).length : Int) == (O.length : Int)) = false := by simp; omega
          have hless := keep_less hlw (by rw [← hl2, ← hOn]; exact he)
          rw [← hl2] at hless
          have HS9 := Lib.hid (show Sep w0.heap.size wB [Res.strs 9 (.slice na (pick W l2).length nc) ((pick W l2).map wordT)] from hs9.swap.tail)
          have HSu := Lib.hid (show Sup (EG F W) W.length l2 from by rw [hl2]; exact keep_sup HSup.out)
          clear hs9 he hX hl2
          go_wp2
          go_roundg (cntT l2 + 1)
          case measure => omega
          case rel => exact ⟨l2, na, nc, rfl, rfl, HSu, HS9, HB⟩
end Go.Proofs.Ytcilgihmaaobeaa
end

section
/-
  Classes of states from which the same words are read: rounds of a relation, least members, numbers.
-/
namespace Go.Sd
structure Eqv (R : Nat → Nat → Bool) : Prop where
  refl : ∀ p, R p p = true
  symm : ∀ p q, R p q = true → R q p = true
  trans : ∀ p q r, R p q = true → R q r = true → R p r = true
def sameO (R : Nat → Nat → Bool) : Option Nat → Option Nat → Bool
  | none, none => true
  | some a, some b => R a b
  | _, _ => false
def nextR (L : Nat) (tg : Nat → Nat → Option Nat) (R : Nat → Nat → Bool) (p q : Nat) : Bool := R p q && (List.range L).all fun x => sameO R (tg p x) (tg q x)
def Rk (L : Nat) (tg : Nat → Nat → Option Nat) : Nat → Nat → Nat → Bool
  | 0 => fun _ _ => true
  | k + 1 => nextR L tg (Rk L tg k)
def rep (R : Nat → Nat → Bool) (p : Nat) : Nat := ((List.range (p + 1)).find? fun q => R q p).getD p
def isRep (R : Nat → Nat → Bool) (p : Nat) : Bool := decide (rep R p = p)
def cntR (R : Nat → Nat → Bool) : Nat → Nat
  | 0 => 0
  | p + 1 => cntR R p + (if isRep R p = true then 1 else 0)
def num (R : Nat → Nat → Bool) (p : Nat) : Nat := cntR R (rep R p)
def pairsR (R : Nat → Nat → Bool) (n : Nat) : Nat := (List.range n).foldr (fun p s => ((List.range n).countP fun q => R p q) + s) 0
section
variable {L n : Nat} {tg : Nat → Nat → Option Nat} {R R' : Nat → Nat → Bool}
theorem sameO_refl (h : Eqv R) (a : Option Nat) : sameO R a a = true := by cases a <;> simp [sameO, h.refl]
theorem sameO_symm (h : Eqv R) {a b : Option Nat} (e : sameO R a b = true) : sameO R b a = true := by
  cases a <;> cases b <;> simp [sameO] at e ⊢
  exact h.symm _ _ e
theorem sameO_trans (h : Eqv R) {a b c : Option Nat} (e : sameO R a b = true) (f : sameO R b c = true) : sameO R a c = true := by
  cases a <;> cases b <;> cases c <;> simp [sameO] at e f ⊢
  exact h.trans _ _ _ e f
theorem Eqv.next (h : Eqv R) : Eqv (nextR L tg R) := by
  refine ⟨fun p => ?_, fun p q e => ?_, fun p q r e f => ?_⟩
  · unfold nextR
    simp only [Bool.and_eq_true, List.all_eq_true]
    exact ⟨h.refl p, fun x _ => sameO_refl h _⟩
  · unfold nextR at e ⊢
    simp only [Bool.and_eq_true, List.all_eq_true] at e ⊢
    exact ⟨h.symm _ _ e.1, fun x hx => sameO_symm h (e.2 x hx)⟩
  · unfold nextR at e f ⊢
    simp only [Bool.and_eq_true, List.all_eq_true] at e f ⊢
    exact ⟨h.trans _ _ _ e.1 f.1, fun x hx => sameO_trans h (e.2 x hx) (f.2 x hx)⟩
theorem Rk_eqv : ∀ k, Eqv (Rk L tg k)
  | 0 => ⟨fun _ => rfl, fun _ _ _ => rfl, fun _ _ _ _ _ => rfl⟩
  | k + 1 => (Rk_eqv k).next
theorem nextR_sub {p q : Nat} (h : nextR L tg R p q = true) : R p q = true := by
  unfold nextR at h
  simp only [Bool.and_eq_true] at h
  exact h.1
/-! Least members. -/
theorem rep_some (h : Eqv R) (p : Nat) : (List.range (p + 1)).find? (fun q => R q p) = some (rep R p) := by
  unfold rep
  cases hf : (List.range (p + 1)).find? (fun q => R q p) with
  | some q => rfl
  | none =>
    have := List.find?_eq_none.1 hf p (by simp)
    exact absurd (h.refl p) this
theorem rep_rel (h : Eqv R) (p : Nat) : R (rep R p) p = true := by have := List.find?_some (rep_some h p); simpa using this
theorem rep_le (h : Eqv R) (p : Nat) : rep R p ≤ p := by have := List.mem_of_find?_eq_some (rep_some h p); simp at this; omega
theorem rep_min (h : Eqv R) {p q : Nat} (e : R q p = true) : rep R p ≤ q := by
  by_cases hq : q ≤ p
  · have h1 := rep_some h p
    rw [List.find?_eq_some_iff_append] at h1
    obtain ⟨_, zs, bs, hs, hn⟩ := h1
    by_cases hlt : q < rep R p
    · have hm : q ∈ zs := by
        have hlen : zs.length = rep R p := by
          have h2 : (List.range (p + 1))[zs.length]? = some (rep R p) := by rw [hs]; simp
          obtain ⟨h3, h4⟩ := List.getElem?_eq_some_iff.1 h2
          simpa using h4
        have h3 : (List.range (p + 1))[q]? = some q := by rw [List.getElem?_range (by omega)]
        rw [hs, List.getElem?_append_left (by omega)] at h3
        exact List.mem_of_getElem? h3
      have := hn q hm
      simp [e] at this
    · omega
  · have := rep_le h p; omega
theorem rep_eq (h : Eqv R) {p q : Nat} : rep R p = rep R q ↔ R p q = true := by
  constructor
  · intro e
    have h1 := rep_rel h p
    have h2 := rep_rel h q
    rw [e] at h1
    exact h.trans _ _ _ (h.symm _ _ h1) h2
  · intro e
    have h1 : rep R q ≤ rep R p := rep_min h (h.trans _ _ _ (rep_rel h p) e)
    have h2 : rep R p ≤ rep R q := rep_min h (h.trans _ _ _ (rep_rel h q) (h.symm _ _ e))
    omega
theorem rep_rep (h : Eqv R) (p : Nat) : rep R (rep R p) = rep R p := (rep_eq h).2 (rep_rel h p)
theorem isRep_rep (h : Eqv R) (p : Nat) : isRep R (rep R p) = true := by unfold isRep; exact decide_eq_true (rep_rep h p)
theorem cntR_mono {a b : Nat} (h : a ≤ b) : cntR R a ≤ cntR R b := by
  induction b with
  | zero => have : a = 0 := by omega
            rw [this]; exact Nat.le_refl _
  | succ b ih =>
    by_cases e : a = b + 1
    · rw [e]; exact Nat.le_refl _
    · have h1 := ih (by omega)
      have h2 : cntR R (b + 1) = cntR R b + (if isRep R b = true then 1 else 0) := rfl
      omega
theorem cntR_lt {a b : Nat} (hr : isRep R a = true) (h : a < b) : cntR R a < cntR R b := by
  have h1 : cntR R (a + 1) = cntR R a + 1 := by show cntR R a + _ = _; rw [if_pos hr]
  have h2 := cntR_mono (R := R) (show a + 1 ≤ b from h)
  omega
theorem cntR_le (R : Nat → Nat → Bool) (p : Nat) : cntR R p ≤ p := by
  induction p with
  | zero => exact Nat.le_refl _
  | succ p ih => unfold cntR; split <;> omega
theorem num_eq (h : Eqv R) {p q : Nat} : num R p = num R q ↔ R p q = true := by
  rw [← rep_eq h]
  constructor
  · intro e
    unfold num at e
    rcases Nat.lt_trichotomy (rep R p) (rep R q) with hl | he | hl
    · have := cntR_lt (isRep_rep h p) hl; omega
    · exact he
    · have := cntR_lt (isRep_rep h q) hl; omega
  · intro e; unfold num; rw [e]
theorem num_rep {p : Nat} (hr : rep R p = p) : num R p = cntR R p := by unfold num; rw [hr]
theorem num_lt (h : Eqv R) {p : Nat} (hr : ¬ rep R p = p) : num R p < cntR R p := by
  have := rep_le h p
  exact cntR_lt (isRep_rep h p) (by omega)
theorem num_lt_all (h : Eqv R) {p : Nat} (hp : p < n) : num R p < cntR R n := by
  have := rep_le h p
  exact cntR_lt (isRep_rep h p) (by omega)
theorem num_le (R : Nat → Nat → Bool) (p : Nat) (h : Eqv R) : num R p ≤ p := by have := cntR_le R (rep R p); have := rep_le h p; unfold num; omega
/-! What is alike on the first n has the same members and numbers. -/
def Same (n : Nat) (R R' : Nat → Nat → Bool) : Prop := ∀ p q, p < n → q < n → R p q = R' p q
theorem Same.symm (h : Same n R R') : Same n R' R := fun p q hp hq => (h p q hp hq).symm
theorem Same.rep (h : Same n R R') {p : Nat} (hp : p < n) : rep R p = rep R' p := by
  unfold Go.Sd.rep
  congr 1
  have : ∀ q, q ∈ List.range (p + 1) → R q p = R' q p := fun q hq => h q p (by simp at hq; omega) hp
  revert this
  generalize List.range (p + 1) = l
  intro this
  induction l with
  | nil => rfl
  | cons q l ih =>
    rw [List.find?_cons, List.find?_cons, this q (by simp), ih fun q hq => this q (by simp [hq])]
theorem Same.cnt (h : Same n R R') : ∀ {p : Nat}, p ≤ n → cntR R p = cntR R' p
  | 0, _ => rfl
  | p + 1, hp => by
    unfold cntR
    rw [Same.cnt h (p := p) (by omega)]
    unfold isRep
    rw [h.rep (by omega)]
theorem Same.num (h : Same n R R') (he : Eqv R') {p : Nat} (hp : p < n) : num R p = num R' p := by
  unfold Go.Sd.num
  rw [h.rep hp]
  have := rep_le he p
  exact h.cnt (by omega)
theorem Same.next (h : Same n R R') (ht : ∀ p x q, tg p x = some q → q < n) : Same n (nextR L tg R) (nextR L tg R') := by
  intro p q hp hq
  unfold nextR
  rw [h p q hp hq]
  congr 1
  have : ∀ x, sameO R (tg p x) (tg q x) = sameO R' (tg p x) (tg q x) := by
    intro x
    cases h1 : tg p x <;> cases h2 : tg q x <;> simp [sameO]
    exact h _ _ (ht _ _ _ h1) (ht _ _ _ h2)
  exact List.all_congr rfl fun x => this x
/-! Rounds end. -/
theorem countP_le' {f g : Nat → Bool} : ∀ (l : List Nat), (∀ q, q ∈ l → g q = true → f q = true) → l.countP g ≤ l.countP f ∧ (l.countP g = l.countP f → ∀ q, q ∈ l → g q = f q)
  | [], _ => ⟨Nat.le_refl _, fun _ q hq => by cases hq⟩
  | q :: l, h => by
    have ih := countP_le' l (fun q' hq' => h q' (by simp [hq']))
    have h0 := h q (by simp)
    simp only [List.countP_cons]
    cases hg : g q <;> cases hf : f q
    · simp only [Bool.false_eq_true, if_false]
      exact ⟨by omega, fun e q' hq' => by rcases List.mem_cons.1 hq' with rfl | hq'; exact hg.trans hf.symm; exact ih.2 (by omega) q' hq'⟩
    · simp only [Bool.false_eq_true, if_false, if_true]
      exact ⟨by omega, fun e => by omega⟩
    · exact absurd (h0 hg) (by rw [hf]; simp)
    · simp only [if_true]
      exact ⟨by omega, fun e q' hq' => by rcases List.mem_cons.1 hq' with rfl | hq'; exact hg.trans hf.symm; exact ih.2 (by omega) q' hq'⟩
theorem pairs_sub (h : ∀ p q, R' p q = true → R p q = true) : pairsR R' n ≤ pairsR R n ∧ (pairsR R' n = pairsR R n → Same n R R') := by
  have key : ∀ (l : List Nat), (l.foldr (fun p s => ((List.range n).countP fun q => R' p q) + s) 0) ≤ (l.foldr (fun p s => ((List.range n).countP fun q => R p q) + s) 0) ∧
      ((l.foldr (fun p s => ((List.range n).countP fun q => R' p q) + s) 0) = (l.foldr (fun p s => ((List.range n).countP fun q => R p q) + s) 0) → ∀ p, p ∈ l → ∀ q, q < n → R p q = R' p q) := by
    intro l
    induction l with
    | nil => exact ⟨Nat.le_refl _, fun _ p hp => by cases hp⟩
    | cons a l ih =>
      have h1 := countP_le' (f := fun q => R a q) (g := fun q => R' a q) (List.range n) (fun q _ => h a q)
      simp only [List.foldr_cons]
      refine ⟨by omega, fun e p hp q hq => ?_⟩
      rcases List.mem_cons.1 hp with rfl | hp
      · exact (h1.2 (by omega) q (by simpa using hq)).symm
      · exact ih.2 (by omega) p hp q hq
  have := key (List.range n)
  exact ⟨this.1, fun e p q hp hq => this.2 e p (by simpa using hp) q hq⟩
theorem pairs_start : pairsR (fun _ _ => true) n = n * n := by
  unfold pairsR
  have : ∀ (l : List Nat), l.foldr (fun p s => ((List.range n).countP fun _ => true) + s) 0 = l.length * n := by
    intro l
    induction l with
    | nil => simp
    | cons a l ih => simp only [List.foldr_cons, ih, List.length_cons, Nat.add_mul]; simp; omega
  rw [this]; simp
/-- After k rounds that all changed something. -/
def Rnds (L : Nat) (tg : Nat → Nat → Option Nat) (n k : Nat) : Prop := pairsR (Rk L tg k) n + k ≤ n * n
theorem Rnds.start : Rnds L tg n 0 := by unfold Rnds; have := pairs_start (n := n); show pairsR (fun _ _ => true) n + 0 ≤ _; omega
theorem Rnds.step {k : Nat} (h : Rnds L tg n k) (hn : ¬ Same n (Rk L tg k) (Rk L tg (k + 1))) : Rnds L tg n (k + 1) ∧ pairsR (Rk L tg (k + 1)) n < pairsR (Rk L tg k) n := by
  have := pairs_sub (R := Rk L tg k) (R' := Rk L tg (k + 1)) (n := n) (fun p q h => nextR_sub h)
  have h2 : pairsR (Rk L tg (k + 1)) n ≠ pairsR (Rk L tg k) n := fun e => hn (this.2 e)
  unfold Rnds at *
  exact ⟨by omega, by omega⟩
theorem Rnds.stop {k : Nat} (hs : Same n (Rk L tg k) (Rk L tg (k + 1))) (ht : ∀ p x q, tg p x = some q → q < n) : ∀ j, Same n (Rk L tg k) (Rk L tg (k + j))
  | 0 => fun _ _ _ _ => rfl
  | j + 1 => by
    have ih := Rnds.stop hs ht j
    have h1 : Same n (Rk L tg (k + 1)) (Rk L tg (k + (j + 1))) := ih.next (L := L) ht
    intro p q hp hq
    rw [hs p q hp hq]
    exact h1 p q hp hq
theorem Rnds.fin {k : Nat} (h : Rnds L tg n k) (hs : Same n (Rk L tg k) (Rk L tg (k + 1))) (ht : ∀ p x q, tg p x = some q → q < n) : Same n (Rk L tg k) (Rk L tg (n * n)) := by
  have h1 := Rnds.stop hs ht (n * n - k)
  unfold Rnds at h
  rw [show k + (n * n - k) = n * n by omega] at h1
  exact h1
/-! Lists. -/
def numL (R : Nat → Nat → Bool) (n : Nat) : List Int := (List.range n).map fun p => (num R p : Int)
def repL (R : Nat → Nat → Bool) (n : Nat) : List Int := (List.range n).map fun p => (rep R p : Int)
theorem numL_at {p : Nat} (h : p < n) : (numL R n)[p]? = some (num R p : Int) := by unfold numL; rw [List.getElem?_map, List.getElem?_range h]; rfl
theorem repL_at {p : Nat} (h : p < n) : (repL R n)[p]? = some (rep R p : Int) := by unfold repL; rw [List.getElem?_map, List.getElem?_range h]; rfl
theorem numL_len : (numL R n).length = n := by simp [numL]
theorem repL_len : (repL R n).length = n := by simp [repL]
theorem numL_succ : numL R (n + 1) = numL R n ++ [(num R n : Int)] := by simp [numL, List.range_succ]
theorem numL_same (h : Same n R R') (he : Eqv R') : numL R n = numL R' n := List.map_congr_left fun p hp => by rw [h.num he (by simpa using hp)]
theorem repL_same (h : Same n R R') : repL R n = repL R' n := List.map_congr_left fun p hp => by rw [h.rep (by simpa using hp)]
theorem same_of_numL (h1 : Eqv R) (h2 : Eqv R') (e : ∀ p, p < n → num R p = num R' p) : Same n R R' := by
  intro p q hp hq
  have a := num_eq h1 (p := p) (q := q)
  have b := num_eq h2 (p := p) (q := q)
  rw [e p hp, e q hq, b] at a
  cases h3 : R p q <;> cases h4 : R' p q <;> simp_all
theorem same_of_repL (h1 : Eqv R) (h2 : Eqv R') (e : ∀ p, p < n → rep R p = rep R' p) : Same n R R' := by
  intro p q hp hq
  have a := rep_eq h1 (p := p) (q := q)
  have b := rep_eq h2 (p := p) (q := q)
  rw [e p hp, e q hq, b] at a
  cases h3 : R p q <;> cases h4 : R' p q <;> simp_all
theorem numL_zero : numL (fun _ _ => true) n = List.replicate n 0 := by
  apply List.ext_getElem?
  intro i
  by_cases h : i < n
  · have he : Eqv (fun (_ _ : Nat) => true) := ⟨fun _ => rfl, fun _ _ _ => rfl, fun _ _ _ _ _ => rfl⟩
    have h0 : rep (fun _ _ => true) i = 0 := by have := rep_min he (p := i) (q := 0) rfl; omega
    rw [numL_at h, List.getElem?_replicate, if_pos h]
    unfold num
    rw [h0]; rfl
  · rw [List.getElem?_eq_none (by rw [numL_len]; omega), List.getElem?_eq_none (by simp; omega)]
theorem repL_zero : repL (fun _ _ => true) n = List.replicate n 0 := by
  apply List.ext_getElem?
  intro i
  by_cases h : i < n
  · have he : Eqv (fun (_ _ : Nat) => true) := ⟨fun _ => rfl, fun _ _ _ => rfl, fun _ _ _ _ _ => rfl⟩
    have h0 : rep (fun _ _ => true) i = 0 := by have := rep_min he (p := i) (q := 0) rfl; omega
    rw [repL_at h, List.getElem?_replicate, if_pos h, h0]; rfl
  · rw [List.getElem?_eq_none (by rw [repL_len]; omega), List.getElem?_eq_none (by simp; omega)]
/-- The first alike below p is the least one; if there is none, p is new. -/
theorem rep_first (h : Eqv R) {p q : Nat} (hq : q < p) (hr : R p q = true) (hn : ∀ j, j < q → R p j = false) : rep R p = q := by
  have h1 := rep_min h (h.symm _ _ hr)
  by_cases e : rep R p = q
  · exact e
  · have h2 := hn (rep R p) (by omega)
    rw [h.symm _ _ (rep_rel h p)] at h2
    cases h2
theorem rep_new (h : Eqv R) {p : Nat} (hn : ∀ j, j < p → R p j = false) : rep R p = p := by
  have h1 := rep_le h p
  by_cases e : rep R p = p
  · exact e
  · have h2 := hn (rep R p) (by omega)
    rw [h.symm _ _ (rep_rel h p)] at h2
    cases h2
end
end Go.Sd
end

section
/-
  SmallestLabels's model: arcs of a resolving graph by their states and letters; the classes' arcs.
-/
namespace Go.Proofs.Ytcilgihmaaobeaa
open Go.RowKit Go.Deep Go.Sd

def akey (a : Arc3) : Int := a.1 * 4 + a.2.2
def SortK (xs : List Arc3) : Prop := xs.Pairwise fun a b => akey a < akey b
theorem sortK_ext : ∀ {xs ys : List Arc3}, SortK xs → SortK ys → (∀ a, a ∈ xs ↔ a ∈ ys) → xs = ys
  | [], [], _, _, _ => rfl
  | [], y :: ys, _, _, h => by have := (h y).2 (by simp); cases this
  | x :: xs, [], _, _, h => by have := (h x).1 (by simp); cases this
  | x :: xs, y :: ys, hx, hy, h => by
    unfold SortK at hx hy
    rw [List.pairwise_cons] at hx hy
    have e : x = y := by
      have h1 := (h x).1 (by simp)
      have h2 := (h y).2 (by simp)
      rcases List.mem_cons.1 h1 with e | h1
      · exact e
      · rcases List.mem_cons.1 h2 with e | h2
        · exact e.symm
        · have := hx.1 y h2; have := hy.1 x h1; omega
    subst e
    congr 1
    refine sortK_ext hx.2 hy.2 fun a => ?_
    have ha := h a
    simp only [List.mem_cons] at ha
    constructor
    · intro h1
      rcases ha.1 (Or.inr h1) with e | h2
      · subst e; have := hx.1 a h1; omega
      · exact h2
    · intro h1
      rcases ha.2 (Or.inr h1) with e | h2
      · subst e; have := hy.1 a h1; omega
      · exact h2
def okArc (L n : Nat) (a : Arc3) : Prop := 0 ≤ a.1 ∧ a.1 < (n : Int) ∧ 0 ≤ a.2.1 ∧ a.2.1 < (n : Int) ∧ 0 ≤ a.2.2 ∧ a.2.2 < (L : Int)
def isAt (p x : Nat) (a : Arc3) : Bool := decide (a.1 = (p : Int)) && decide (a.2.2 = (x : Int))
def arcAt (xs : List Arc3) (p x : Nat) : Option Arc3 := xs.find? (isAt p x)
def tgt (xs : List Arc3) (p x : Nat) : Option Nat := (arcAt xs p x).map fun a => a.2.1.toNat
theorem arcAt_some {xs : List Arc3} {p x : Nat} {a : Arc3} (h : arcAt xs p x = some a) : a ∈ xs ∧ a.1 = (p : Int) ∧ a.2.2 = (x : Int) := by
  have h1 := List.mem_of_find?_eq_some h
  have h2 := List.find?_some h
  unfold isAt at h2
  simp only [Bool.and_eq_true, decide_eq_true_eq] at h2
  exact ⟨h1, h2.1, h2.2⟩
theorem tgt_lt {L n : Nat} {xs : List Arc3} (ho : ∀ a, a ∈ xs → okArc L n a) (p x q : Nat) (h : tgt xs p x = some q) : q < n := by
  unfold tgt at h
  obtain ⟨a, ha, rfl⟩ := Option.map_eq_some_iff.1 h
  have := ho a (arcAt_some ha).1
  unfold okArc at this
  omega
def rowX (L : Nat) (xs : List Arc3) (p : Nat) : List Arc3 := (List.range L).filterMap fun x => arcAt xs p x
theorem sortK_inj : ∀ {xs : List Arc3}, SortK xs → ∀ {a b : Arc3}, a ∈ xs → b ∈ xs → akey a = akey b → a = b
  | [], _, a, _, ha, _, _ => by cases ha
  | x :: xs, h, a, b, ha, hb, e => by
    unfold SortK at h
    rw [List.pairwise_cons] at h
    rcases List.mem_cons.1 ha with ea | ha2
    · rcases List.mem_cons.1 hb with eb | hb2
      · rw [ea, eb]
      · have := h.1 b hb2; rw [ea] at e; omega
    · rcases List.mem_cons.1 hb with eb | hb2
      · have := h.1 a ha2; rw [eb] at e; omega
      · exact sortK_inj h.2 ha2 hb2 e
theorem rows_eq {L n : Nat} {xs : List Arc3} (hL : L ≤ 4) (ho : ∀ a, a ∈ xs → okArc L n a) (hs : SortK xs) : (List.range n).flatMap (rowX L xs) = xs := by
  refine sortK_ext ?_ hs fun a => ?_
  · unfold SortK
    rw [List.pairwise_flatMap]
    refine ⟨fun p _ => ?_, ?_⟩
    · unfold rowX
      rw [List.pairwise_filterMap]
      refine List.Pairwise.imp_of_mem ?_ List.pairwise_lt_range
      intro x y _ _ hxy a ha b hb
      have h1 := arcAt_some ha
      have h2 := arcAt_some hb
      unfold akey
      omega
    · refine List.Pairwise.imp_of_mem ?_ List.pairwise_lt_range
      intro p q _ _ hpq a ha b hb
      unfold rowX at ha hb
      obtain ⟨x, hx, ha⟩ := List.mem_filterMap.1 ha
      obtain ⟨y, hy, hb⟩ := List.mem_filterMap.1 hb
      have h1 := arcAt_some ha
      have h2 := arcAt_some hb
      simp at hx hy
      unfold akey
      omega
  · constructor
    · intro h
      obtain ⟨p, _, h⟩ := List.mem_flatMap.1 h
      obtain ⟨x, _, h⟩ := List.mem_filterMap.1 h
      exact (arcAt_some h).1
    · intro h
      have h1 := ho a h
      unfold okArc at h1
      obtain ⟨a0, a1, a2⟩ := a
      simp only at h1
      obtain ⟨p, rfl⟩ := Int.eq_ofNat_of_zero_le h1.1
      obtain ⟨x, rfl⟩ := Int.eq_ofNat_of_zero_le h1.2.2.2.2.1
      refine List.mem_flatMap.2 ⟨p, by simp; omega, List.mem_filterMap.2 ⟨x, by simp; omega, ?_⟩⟩
      cases hf : arcAt xs p x with
      | none =>
        have := List.find?_eq_none.1 hf _ h
        simp [isAt] at this
      | some b =>
        have h2 := arcAt_some hf
        congr 1
        exact sortK_inj hs h2.1 h (by unfold akey; simp only; omega)
section
variable (R : Nat → Nat → Bool)
def smRen (a : Arc3) : Arc3 := ((num R a.1.toNat : Int), (num R a.2.1.toNat : Int), a.2.2)
def smA (xs : List Arc3) : List Arc3 := (xs.filter fun a => isRep R a.1.toNat).map (smRen R)
def smRow (L : Nat) (xs : List Arc3) (p : Nat) : List Arc3 := (List.range L).filterMap fun x => (tgt xs p x).map fun q => ((num R p : Int), (num R q : Int), (x : Int))
def smB (L n : Nat) (xs : List Arc3) : List Arc3 := (List.range n).flatMap fun p => if isRep R p = true then smRow R L xs p else []
end
theorem smRow_eq {R : Nat → Nat → Bool} {L : Nat} {xs : List Arc3} {p : Nat} : ((rowX L xs p).filter fun a => isRep R a.1.toNat).map (smRen R) = if isRep R p = true then smRow R L xs p else [] := by
  unfold rowX smRow tgt
  generalize List.range L = l
  induction l with
  | nil => split <;> rfl
  | cons x l ih =>
    cases h : arcAt xs p x with
    | none =>
      rw [List.filterMap_cons_none h, ih]
      split
      · rw [List.filterMap_cons_none (by rw [h]; rfl)]
      · rfl
    | some a =>
      have h1 := arcAt_some h
      rw [List.filterMap_cons_some h, List.filter_cons]
      have e : a.1.toNat = p := by omega
      rw [e]
      by_cases hr : isRep R p = true
      · rw [if_pos hr, List.map_cons, ih, if_pos hr, if_pos hr, List.filterMap_cons_some (by rw [h]; rfl)]
        unfold smRen
        rw [e, h1.2.2]
      · rw [if_neg hr, ih, if_neg hr, if_neg hr]
theorem filter_flatMap' {α β : Type} (f : α → List β) (P : β → Bool) : ∀ l : List α, (l.flatMap f).filter P = l.flatMap fun a => (f a).filter P
  | [] => rfl
  | a :: l => by simp only [List.flatMap_cons, List.filter_append, filter_flatMap' f P l]
theorem map_flatMap' {α β γ : Type} (f : α → List β) (g : β → γ) : ∀ l : List α, (l.flatMap f).map g = l.flatMap fun a => (f a).map g
  | [] => rfl
  | a :: l => by simp only [List.flatMap_cons, List.map_append, map_flatMap' f g l]
theorem smB_eq {R : Nat → Nat → Bool} {L n : Nat} {xs : List Arc3} (hL : L ≤ 4) (ho : ∀ a, a ∈ xs → okArc L n a) (hs : SortK xs) : smB R L n xs = smA R xs := by
  conv => rhs; unfold smA; rw [← rows_eq hL ho hs, filter_flatMap', map_flatMap']
  unfold smB
  congr 1
  funext p
  exact smRow_eq.symm
/-! Out of the graph's own tests. -/
theorem allF_get {f : Nat → Bool} {m : Nat} (h : allF f m 0 = true) {j : Nat} (hj : j < m) : f j = true := by have := allF_at h j hj; rwa [Nat.zero_add] at this
theorem isLab_arcs {l : Lb} (h : isLab l = true) : ∀ a, a ∈ l.2.2 → okArc l.1.toNat l.2.1.toNat a := by
  have h0 := isLab_ok h
  unfold isLab at h
  rw [Bool.and_eq_true, Bool.and_eq_true] at h
  intro a ha
  obtain ⟨k, hk⟩ := List.getElem?_of_mem ha
  have h1 := allF_get h.2.2 (List.getElem?_eq_some_iff.1 hk).1
  unfold arcB at h1
  rw [Bool.and_eq_true, at3_of hk] at h1
  have h2 := h1.1
  unfold arcOk at h2
  rw [decide_eq_true_eq] at h2
  unfold okArc
  omega
theorem resolv_sort {l : Lb} (h : resolvM l = true) : SortK l.2.2 := by
  unfold resolvM at h
  rw [Bool.and_eq_true] at h
  have ho := isLab_arcs h.1
  have h1 := h.1
  unfold isLab at h1
  rw [Bool.and_eq_true, Bool.and_eq_true] at h1
  have hL : l.1.toNat ≤ 3 := by have := (isLab_ok h.1).2.2.2; omega
  have step : ∀ k a b, l.2.2[k]? = some a → l.2.2[k + 1]? = some b → akey a < akey b := by
    intro k a b ha hb
    have hk := (List.getElem?_eq_some_iff.1 hb).1
    have e1 := allF_get h1.2.2 hk
    have e2 := allF_get h.2 hk
    unfold arcB at e1
    unfold resB at e2
    rw [Nat.add_sub_cancel, at3_of ha, at3_of hb] at e1 e2
    simp only [Bool.and_eq_true, Bool.or_eq_true, decide_eq_true_eq, Nat.add_one_ne_zero, false_or, Bool.not_eq_true', Bool.and_eq_false_iff, decide_eq_false_iff_not] at e1 e2
    have hb1 := e1.2
    unfold before at hb1
    have o1 := ho a (List.mem_of_getElem? ha)
    have o2 := ho b (List.mem_of_getElem? hb)
    unfold okArc at o1 o2
    unfold akey
    by_cases c1 : a.1 = b.1
    · rw [if_neg (by simp [c1])] at hb1
      by_cases c2 : a.2.2 = b.2.2
      · exact absurd c2 (by rcases e2 with e2 | e2; exact absurd c1 e2; exact e2)
      · rw [if_pos c2, decide_eq_true_eq] at hb1; omega
    · rw [if_pos c1, decide_eq_true_eq] at hb1; omega
  unfold SortK
  rw [List.pairwise_iff_getElem]
  have key : ∀ d i (hi : i < l.2.2.length) (hj : i + (d + 1) < l.2.2.length), akey l.2.2[i] < akey l.2.2[i + (d + 1)] := by
    intro d
    induction d with
    | zero => intro i hi hj; exact step i _ _ (List.getElem?_eq_getElem hi) (List.getElem?_eq_getElem hj)
    | succ d ih =>
      intro i hi hj
      have h2 := ih i hi (by omega)
      have h3 := step (i + (d + 1)) _ _ (List.getElem?_eq_getElem (by omega)) (List.getElem?_eq_getElem (by omega))
      have e : i + (d + 1) + 1 = i + (d + 1 + 1) := by omega
      simp only [e] at h3
      omega
  intro i j hi hj hij
  obtain ⟨d, rfl⟩ : ∃ d, j = i + (d + 1) := ⟨j - i - 1, by omega⟩
  exact key d i hi hj
def clR (l : Lb) : Nat → Nat → Bool := Rk l.1.toNat (tgt l.2.2) (l.2.1.toNat * l.2.1.toNat)
def smallV (l : Lb) : Lb := if resolvM l = true then (l.1, (cntR (clR l) l.2.1.toNat : Int), smA (clR l) l.2.2) else (0, 0, [])
theorem smA_len (R : Nat → Nat → Bool) (xs : List Arc3) : (smA R xs).length ≤ xs.length := by
  unfold smA; rw [List.length_map]; exact List.length_filter_le _ _
theorem smallV_len (l : Lb) : (smallV l).2.2.length ≤ l.2.2.length := by
  unfold smallV
  split
  · exact smA_len _ _
  · simp
end Go.Proofs.Ytcilgihmaaobeaa
end

section
/-
  Sets of states bit by bit: what a letter and a word lead to.  No program in sight.
-/
namespace Go.Proofs.Ytcilgihmaaobeaa
open Go.RowKit Go.Deep Go.Sd
theorem stepL_bit {s : Nat} {x : Int} {j : Nat} : ∀ {xs : List Arc3} {out : Nat}, (stepL s x xs out).testBit j = true ↔ out.testBit j = true ∨ ∃ a, a ∈ xs ∧ a.2.2 = x ∧ s.testBit a.1.toNat = true ∧ a.2.1.toNat = j
  | [], out => by simp [stepL]
  | a :: ys, out => by
    unfold stepL
    rw [stepL_bit]
    have key : (if hit s x a = true then out ||| 2 ^ a.2.1.toNat else out).testBit j = true ↔ out.testBit j = true ∨ (a.2.2 = x ∧ s.testBit a.1.toNat = true ∧ a.2.1.toNat = j) := by
      unfold hit
      by_cases h : a.2.2 = x ∧ s.testBit a.1.toNat = true
      · rw [if_pos (by simp [h]), Nat.testBit_or, Bool.or_eq_true, Nat.testBit_two_pow, decide_eq_true_eq]
        simp [h]
      · rw [if_neg (by simpa using h)]
        constructor
        · exact Or.inl
        · rintro (h1 | h1)
          · exact h1
          · exact absurd ⟨h1.1, h1.2.1⟩ h
    rw [key]
    constructor
    · rintro ((h | h) | ⟨b, hb, h⟩)
      · exact Or.inl h
      · exact Or.inr ⟨a, by simp, h⟩
      · exact Or.inr ⟨b, by simp [hb], h⟩
    · rintro (h | ⟨b, hb, h⟩)
      · exact Or.inl (Or.inl h)
      · rcases List.mem_cons.1 hb with e | hb
        · subst e; exact Or.inl (Or.inr h)
        · exact Or.inr ⟨b, hb, h⟩
theorem stepN_bit {xs : List Arc3} {s : Nat} {x : Int} {j : Nat} : (stepN xs s x).testBit j = true ↔ ∃ a, a ∈ xs ∧ a.2.2 = x ∧ s.testBit a.1.toNat = true ∧ a.2.1.toNat = j := by
  unfold stepN
  rw [stepL_bit]
  simp
theorem allN_bit (S : Int) (i : Nat) : (allN S).testBit i = true ↔ i < S.toNat := by
  unfold allN
  rw [Nat.testBit_two_pow_sub_one, decide_eq_true_eq]
theorem nat_zero {s : Nat} : s = 0 ↔ ∀ i, ¬ s.testBit i = true := by
  constructor
  · rintro rfl i
    simp
  · intro h
    refine Nat.eq_of_testBit_eq fun i => ?_
    have := h i
    simp at this ⊢
    exact this
/-- A part of a set. -/
def Sub (s t : Nat) : Prop := ∀ i, s.testBit i = true → t.testBit i = true
theorem Sub.refl (s : Nat) : Sub s s := fun _ h => h
theorem Sub.step {s t : Nat} (h : Sub s t) (xs : List Arc3) (x : Int) : Sub (stepN xs s x) (stepN xs t x) := fun i hi => by
  obtain ⟨a, ha, hx, hs, hj⟩ := stepN_bit.1 hi
  exact stepN_bit.2 ⟨a, ha, hx, h _ hs, hj⟩
theorem Sub.read {xs : List Arc3} : ∀ (w : List UInt8) {s t : Nat}, Sub s t → Sub (readB xs w s) (readB xs w t)
  | [], _, _, h => h
  | c :: w, _, _, h => Sub.read w (h.step xs _)
/-- What is reached lies among the states. -/
theorem step_all {S L : Nat} {xs : List Arc3} (ho : ∀ a, a ∈ xs → okArc L S a) (s : Nat) (x : Int) (i : Nat) (h : (stepN xs s x).testBit i = true) : i < S := by
  obtain ⟨a, ha, -, -, hj⟩ := stepN_bit.1 h
  have := ho a ha
  unfold okArc at this
  omega
theorem readB_append (xs : List Arc3) : ∀ (u w : List UInt8) (s : Nat), readB xs (u ++ w) s = readB xs w (readB xs u s)
  | [], _, _ => rfl
  | _ :: u, w, _ => readB_append xs u w _
theorem readB_zero (xs : List Arc3) : ∀ (w : List UInt8), readB xs w 0 = 0
  | [] => rfl
  | c :: w => by
    show readB xs w (stepN xs 0 _) = 0
    have h : stepN xs 0 ((c.toNat : Int) - 97) = 0 := nat_zero.2 fun i hi => by
      obtain ⟨a, _, _, hs, _⟩ := stepN_bit.1 hi
      simp at hs
    rw [h]
    exact readB_zero xs w
/-! Graphs made of sorted arcs. -/
theorem akey_lt {L S : Nat} (hL : L ≤ 4) {a b : Arc3} (ha : okArc L S a) (hb : okArc L S b) : akey a < akey b ↔ a.1 < b.1 ∨ (a.1 = b.1 ∧ a.2.2 < b.2.2) := by
  unfold okArc at ha hb
  unfold akey
  omega
theorem resolv_of {l : Lb} (h1 : 1 ≤ l.1 ∧ l.1 ≤ 3) (h2 : 1 ≤ l.2.1 ∧ l.2.1 ≤ 12) (ho : ∀ a, a ∈ l.2.2 → okArc l.1.toNat l.2.1.toNat a) (hs : SortK l.2.2) : resolvM l = true := by
  have allOf : ∀ {f : Nat → Bool} {m k : Nat}, (∀ j, j < m → f (k + j) = true) → allF f m k = true := by
    intro f m
    induction m with
    | zero => intro k _; rfl
    | succ m ih =>
      intro k h
      show (if f k = true then allF f m (k + 1) else false) = true
      rw [if_pos (by simpa using h 0 (by omega))]
      exact ih fun j hj => by rw [show k + 1 + j = k + (j + 1) by omega]; exact h (j + 1) (by omega)
  have hlt : ∀ k, k + 1 < l.2.2.length → akey (at3 l.2.2 k) < akey (at3 l.2.2 (k + 1)) ∧ okArc l.1.toNat l.2.1.toNat (at3 l.2.2 k) := fun k hk => by
    unfold SortK at hs
    have := List.pairwise_iff_getElem.1 hs k (k + 1) (by omega) hk (by omega)
    rw [at3_of (List.getElem?_eq_getElem (show k < l.2.2.length by omega)), at3_of (List.getElem?_eq_getElem hk)]
    exact ⟨this, ho _ (List.getElem_mem _)⟩
  have hat : ∀ k, k < l.2.2.length → okArc l.1.toNat l.2.1.toNat (at3 l.2.2 k) := fun k hk => by
    rw [at3_of (List.getElem?_eq_getElem hk)]
    exact ho _ (List.getElem_mem _)
  unfold resolvM isLab
  rw [Bool.and_eq_true, Bool.and_eq_true, Bool.and_eq_true]
  refine ⟨⟨decide_eq_true h1, decide_eq_true h2, allOf fun j hj => ?_⟩, allOf fun j hj => ?_⟩
  · rw [Nat.zero_add]
    unfold arcB arcOk
    have h3 := hat j hj
    rw [Bool.and_eq_true]
    refine ⟨decide_eq_true ?_, ?_⟩
    · unfold okArc at h3; omega
    · cases j with
      | zero => simp
      | succ j =>
        rw [Nat.add_sub_cancel]
        obtain ⟨h4, h5⟩ := hlt j hj
        have h6 := (akey_lt (by omega) h5 h3).1 h4
        unfold before
        rw [Bool.or_eq_true]
        right
        by_cases e : (at3 l.2.2 j).1 = (at3 l.2.2 (j + 1)).1
        · rw [if_neg (by simp [e])]
          rw [if_pos (by omega)]
          exact decide_eq_true (by omega)
        · rw [if_pos e]
          exact decide_eq_true (by omega)
  · rw [Nat.zero_add]
    unfold resB
    cases j with
    | zero => simp
    | succ j =>
      rw [Nat.add_sub_cancel]
      obtain ⟨h4, h5⟩ := hlt j hj
      have h6 := (akey_lt (by omega) h5 (hat _ hj)).1 h4
      rw [Bool.or_eq_true]
      right
      rw [Bool.not_eq_true', Bool.and_eq_false_iff, decide_eq_false_iff_not, decide_eq_false_iff_not]
      by_cases e : (at3 l.2.2 j).1 = (at3 l.2.2 (j + 1)).1
      · exact Or.inr (by omega)
      · exact Or.inl e
end Go.Proofs.Ytcilgihmaaobeaa
end

section
/-
  Words as lists of letters, read one letter behind the other.  No program in sight.
-/
namespace Go.Proofs.Ytcilgihmaaobeaa
open Go.RowKit Go.Deep Go.Sd
def bl (w : List Nat) : List UInt8 := w.map fun x => UInt8.ofNat (97 + x)
theorem bl_data (w : List Nat) : (wordT w).data.toList = bl w := rfl
theorem bl_append (u v : List Nat) : bl (u ++ v) = bl u ++ bl v := List.map_append
theorem bl_step {A : List Arc3} {s x : Nat} (hx : x < 3) : readB A (bl [x]) s = stepN A s (x : Int) := by
  show stepN _ _ (((UInt8.ofNat (97 + x)).toNat : Int) - 97) = _
  congr 1
  simp
  omega
theorem bl_snoc {A : List Arc3} {s x : Nat} (hx : x < 3) (wd : List Nat) : readB A (bl (wd ++ [x])) s = stepN A (readB A (bl wd) s) (x : Int) := by
  rw [bl_append, readB_append, bl_step hx]
theorem bl_cons {A : List Arc3} {s x : Nat} (hx : x < 3) (wd : List Nat) : readB A (bl (x :: wd)) s = readB A (bl wd) (stepN A s (x : Int)) := by
  rw [show x :: wd = [x] ++ wd from rfl, bl_append, readB_append, bl_step hx]
/-- A word in letters below a number. -/
def Lets (N : Nat) (wd : List Nat) : Prop := ∀ x, x ∈ wd → x < N
theorem Lets.nil (N : Nat) : Lets N [] := fun x h => by cases h
theorem Lets.snoc {N : Nat} {wd : List Nat} {x : Nat} (h : Lets N wd) (hx : x < N) : Lets N (wd ++ [x]) := fun y hy => by
  rcases List.mem_append.1 hy with hy | hy
  · exact h y hy
  · simp at hy; omega
theorem Lets.pre {N : Nat} {u v : List Nat} (h : Lets N (u ++ v)) : Lets N u := fun y hy => h y (by simp [hy])
theorem Lets.last {N : Nat} {u : List Nat} {x : Nat} (h : Lets N (u ++ [x])) : x < N := h x (by simp)
/-- Words from behind. -/
theorem snoc_ind {p : List Nat → Prop} (h0 : p []) (h1 : ∀ u x, p u → p (u ++ [x])) : ∀ (n : Nat) (w : List Nat), w.length = n → p w
  | 0, w, h => by rw [List.length_eq_zero_iff] at h; subst h; exact h0
  | n + 1, w, h => by
    rcases List.eq_nil_or_concat w with e | ⟨u, x, e⟩
    · subst e; cases h
    · rw [List.concat_eq_append] at e
      subst e
      exact h1 u x (snoc_ind h0 h1 n u (by simpa using h))
theorem snoc_rec {p : List Nat → Prop} (w : List Nat) (h0 : p []) (h1 : ∀ u x, p u → p (u ++ [x])) : p w := snoc_ind h0 h1 _ w rfl
end Go.Proofs.Ytcilgihmaaobeaa
end
