/-
  Laws for this claim's walks, contracts of the functions that it reaches.
-/
import Derived.Test.YtcilgihmaaobeaaGreatDoorFnLabelsM2
import Derived.OrdersHeld
import Derived.Deep.RegionHeld3
import Derived.Deep.DeepCutAuto
import Derived.Lib.Index
import Derived.Lib.IndexMore
import Derived.Deep.Slices
import Derived.OwnWalk
import Derived.Lib.SmallJoins
import Derived.Handy
set_option linter.unusedVariables false
set_option linter.unusedSimpArgs false
section
namespace Go.Sd
open Go.RowKit Go.Deep
section
variable {P : Program} {ops : Array Oper} {Q : Exit → Act → World → Prop} {md : Region.Mode} {S : World → Prop}
/-- Some operation is left. -/
def Rem (listed : Array Bool) : Prop := ∃ k : Nat, listed[k]? = some false
/-- Some operation that is left waits for number i. -/
def waited (md : Region.Mode) (ops : Array Oper) (listed : Array Bool) (i : Nat) : Bool := (List.range ops.size).any fun m => (listed[m]? == some false) && (decide (m ≠ i) && (match ops[m]? with | some om => om.after.any (fun e => Region.binds md e && decide (e.on = i)) | none => false))
def wpAnyL (P : Program) (md : Region.Mode) (ops : Array Oper) (Q : Exit → Act → World → Prop) (S : World → Prop) : Nat → Array Bool → Act → World → Prop
  | 0, listed, a, w => Region.ready md ops listed = [] ∧ Q .normal a w
  | fuel + 1, listed, a, w =>
    (Region.ready md ops listed = [] → Q .normal a w) ∧
    ∀ i ∈ Region.ready md ops listed, wpOp P ops Q i (fun a' w' => (Rem (listed.setIfInBounds i true) → S w') ∧ wpAnyL P md ops Q S fuel (listed.setIfInBounds i true) a' w') a w
theorem wpAny_of_L : ∀ (fuel : Nat) (listed : Array Bool) (a : Act) (w : World), wpAnyL P md ops Q S fuel listed a w → wpAny P md ops Q fuel listed a w
  | 0, _, _, _, h => h
  | fuel + 1, _, _, _, h => ⟨h.1, fun i hi => wpOp_mono (fun _ _ h' => wpAny_of_L fuel _ _ _ h'.2) (h.2 i hi)⟩
theorem wpAnyL_first {i : Nat} {oi : Oper} {v : Value} (hi : ops[i]? = some oi) (hsel : ∀ (j : Nat) (o : Oper) cs b, ops[j]? = some o → o.op ≠ .select cs b)
    (hQ : ∀ c a w, Q (.panic c) (a.put oi.dst v) w → Q (.panic c) a w) :
    ∀ (fuel : Nat) (listed : Array Bool) (a : Act) (w : World),
      (∀ j oj, ops[j]? = some oj → j ≠ i → listed.getD j true = false → (∀ e ∈ oj.after, Region.binds md e = true → e.on ≠ i) → oi.apart ops oj = true) →
      i ∈ Region.ready md ops listed → (∃ m om, ops[m]? = some om ∧ listed[m]? = some false ∧ m ≠ i ∧ ∃ e ∈ om.after, Region.binds md e = true ∧ e.on = i) → YieldsIf P ops S oi v a → S w →
      wpAnyL P md ops Q S fuel (listed.setIfInBounds i true) (a.put oi.dst v) w → wpAnyL P md ops Q S (fuel + 1) listed a w := by
  intro fuel
  induction fuel with
  | zero =>
    intro listed a w _ hr _ hy hS H
    refine ⟨fun h => (by rw [h] at hr; cases hr), fun j hj => ?_⟩
    by_cases e : j = i
    · subst e; exact hy.wpOp hi hS ⟨fun _ => hS, H⟩
    · have h1 := ready_mono hj e
      rw [H.1] at h1
      cases h1
  | succ fuel ih =>
    intro listed a w hfree hr hm hy hS H
    refine ⟨fun h => (by rw [h] at hr; cases hr), fun j hj => ?_⟩
    by_cases e : j = i
    · subst e; exact hy.wpOp hi hS ⟨fun _ => hS, H⟩
    · have hn := H.2 j (ready_mono hj e)
      obtain ⟨hju, oj, hoj, hall⟩ := mem_ready.1 hj
      have hnot : ∀ f ∈ oj.after, Region.binds md f = true → f.on ≠ i := fun f hf hb he => by
        have g1 := hall f hf hb
        have g0 := (mem_ready.1 hr).1
        rw [he] at g1
        by_cases hl : i < listed.size
        · simp [hl] at g0 g1; rw [g0] at g1; cases g1
        · simp [Array.getElem?_eq_none (Nat.le_of_not_lt hl)] at g1
      have hp := wpOp_putIf hoj (hfree j oj hoj e hju hnot) (fun cs b => hsel i oi cs b hi) (fun cs b => hsel j oj cs b hoj) hQ hy hn
      have hir : i ∈ Region.ready md ops (listed.setIfInBounds j true) := ready_mono hr (fun h => e h.symm)
      have hfr : ∀ k ok, ops[k]? = some ok → k ≠ i → (listed.setIfInBounds j true).getD k true = false → (∀ f ∈ ok.after, Region.binds md f = true → f.on ≠ i) → oi.apart ops ok = true := fun k ok hk hki hun hno => by
        refine hfree k ok hk hki ?_ hno
        by_cases hjk : j = k
        · subst hjk; exact hju
        · rw [getD_set_ne true hjk] at hun; exact hun
      refine wpOp_mono (fun a' w' h => ?_) hp
      obtain ⟨m, om, h1, h2, h3, f, hf, hb, he⟩ := hm
      have hjm : j ≠ m := fun h0 => by
        subst h0
        rw [hoj] at h1
        obtain rfl := Option.some.inj h1
        exact hnot f hf hb he
      have hSw : S w' := h.2.1 ⟨m, by rw [Array.getElem?_setIfInBounds_ne hjm, Array.getElem?_setIfInBounds_ne (Ne.symm h3)]; exact h2⟩
      refine ⟨fun _ => hSw, ih _ a' w' hfr hir ⟨m, om, h1, by rw [Array.getElem?_setIfInBounds_ne hjm]; exact h2, h3, f, hf, hb, he⟩ h.1 hSw ?_⟩
      rw [Array.setIfInBounds_comm _ _ e]
      exact h.2.2
theorem waited_spec {listed : Array Bool} {i : Nat} (h : waited md ops listed i = true) : ∃ m om, ops[m]? = some om ∧ listed[m]? = some false ∧ m ≠ i ∧ ∃ e ∈ om.after, Region.binds md e = true ∧ e.on = i := by
  unfold waited at h
  obtain ⟨m, _, h⟩ := List.any_eq_true.1 h
  simp only [Bool.and_eq_true, beq_iff_eq, decide_eq_true_eq] at h
  obtain ⟨h1, h2, h3⟩ := h
  cases hm : ops[m]? with
  | none => rw [hm] at h3; cases h3
  | some om =>
    rw [hm] at h3
    obtain ⟨k, hk, he⟩ := Array.any_eq_true.1 h3
    simp only [Bool.and_eq_true, decide_eq_true_eq] at he
    exact ⟨m, om, hm, h1, h2, _, Array.getElem_mem hk, he⟩
theorem wpAnyL_take (i : Nat) {oi : Oper} {v : Value} {fuel : Nat} {listed : Array Bool} {a : Act} {w : World} (hi : ops[i]? = some oi)
    (hs : Region.noSelect ops = true) (hf : Region.free md ops listed i = true) (hr : (Region.ready md ops listed).contains i = true) (hw : waited md ops listed i = true)
    (hQ : ∀ c a w, Q (.panic c) (a.put oi.dst v) w → Q (.panic c) a w) (hy : YieldsIf P ops S oi v a) (hS : S w)
    (h : wpAnyL P md ops Q S fuel (listed.setIfInBounds i true) (a.put oi.dst v) w) : wpAnyL P md ops Q S (fuel + 1) listed a w :=
  wpAnyL_first hi (Region.noSelect_spec hs) hQ fuel listed a w (Region.free_spec hi hf) (by simpa using hr) (waited_spec hw) hy hS h
/-- One alone may come up. -/
theorem wpAnyL_one (i : Nat) {o : Oper} {fuel : Nat} {listed : Array Bool} {a : Act} {w : World} (hr : Region.ready md ops listed = [i]) (ho : ops[i]? = some o)
    (h : ∀ K' : Act → World → Prop, Shut (∀ a w, (Rem (listed.setIfInBounds i true) → S w) → wpAnyL P md ops Q S fuel (listed.setIfInBounds i true) a w → K' a w) → if Region.wanted o (yielded ops a.tmps) = true then Oper.wp P o a w K' Q else K' (a.put o.dst undef) w) : wpAnyL P md ops Q S (fuel + 1) listed a w :=
  ⟨fun h0 => (by rw [hr] at h0; cases h0), fun j hj => by
    rw [hr] at hj
    obtain rfl := List.mem_singleton.1 hj
    exact wpOp_step ho fun K' hK => h K' fun a w hS hW => hK a w ⟨hS, hW⟩⟩
theorem wpAnyL_done {listed : Array Bool} {a : Act} {w : World} (hr : Region.ready md ops listed = []) (h : Q .normal a w) : ∀ fuel, wpAnyL P md ops Q S fuel listed a w
  | 0 => ⟨hr, h⟩
  | _ + 1 => ⟨fun _ => h, by rw [hr]; simp⟩
theorem wp_region_L (S : World → Prop) {id : Nat} {a : Act} {w : World} (hm : P.follows .mixedOrders = true) (h : wpAnyL P .any ops Q S ops.size (Array.replicate ops.size false) a w.drew) : (Code.region id ops true).wp P Q a w :=
  wp_region_any hm (wpAny_of_L _ _ _ _ h)
/-- All of the listed have come up. -/
def allUp (listed : Array Bool) : Bool := listed.all id
theorem not_rem {listed : Array Bool} (h : allUp listed = true) : ¬ Rem listed := by
  rintro ⟨k, hk⟩
  unfold allUp at h
  have hl := (Array.getElem?_eq_some_iff.1 hk)
  have := Array.all_eq_true.1 h k hl.1
  rw [hl.2] at this
  cases this
end
end Go.Sd
end

section
namespace Go.Sd
open Go.RowKit Go.Deep
section
variable {lim : Nat} {P : Program} {ops : Array Oper} {Q : Exit → Act → World → Prop} {md : Region.Mode} {S : World → Prop}
/-- Some operation is left. -/
def RemM (lim : Nat) (listed : Array Bool) : Prop := ∃ k : Nat, k < lim ∧ listed[k]? = some false
/-- Some operation that is left waits for number i. -/
def waitedM (lim : Nat) (md : Region.Mode) (ops : Array Oper) (listed : Array Bool) (i : Nat) : Bool := (List.range ops.size).any fun m => ((listed[m]? == some false) && decide (m < lim)) && (decide (m ≠ i) && (match ops[m]? with | some om => om.after.any (fun e => Region.binds md e && decide (e.on = i)) | none => false))
def wpAnyM (lim : Nat) (P : Program) (md : Region.Mode) (ops : Array Oper) (Q : Exit → Act → World → Prop) (S : World → Prop) : Nat → Array Bool → Act → World → Prop
  | 0, listed, a, w => Region.ready md ops listed = [] ∧ Q .normal a w
  | fuel + 1, listed, a, w =>
    (Region.ready md ops listed = [] → Q .normal a w) ∧
    ∀ i ∈ Region.ready md ops listed, wpOp P ops Q i (fun a' w' => (RemM lim (listed.setIfInBounds i true) → S w') ∧ wpAnyM lim P md ops Q S fuel (listed.setIfInBounds i true) a' w') a w
theorem wpAny_of_M : ∀ (fuel : Nat) (listed : Array Bool) (a : Act) (w : World), wpAnyM lim P md ops Q S fuel listed a w → wpAny P md ops Q fuel listed a w
  | 0, _, _, _, h => h
  | fuel + 1, _, _, _, h => ⟨h.1, fun i hi => wpOp_mono (fun _ _ h' => wpAny_of_M fuel _ _ _ h'.2) (h.2 i hi)⟩
theorem wpAnyM_first {i : Nat} {oi : Oper} {v : Value} (hi : ops[i]? = some oi) (hsel : ∀ (j : Nat) (o : Oper) cs b, ops[j]? = some o → o.op ≠ .select cs b)
    (hQ : ∀ c a w, Q (.panic c) (a.put oi.dst v) w → Q (.panic c) a w) :
    ∀ (fuel : Nat) (listed : Array Bool) (a : Act) (w : World),
      (∀ j oj, ops[j]? = some oj → j ≠ i → listed.getD j true = false → (∀ e ∈ oj.after, Region.binds md e = true → e.on ≠ i) → oi.apart ops oj = true) →
      i ∈ Region.ready md ops listed → (∃ m om, ops[m]? = some om ∧ (m < lim ∧ listed[m]? = some false) ∧ m ≠ i ∧ ∃ e ∈ om.after, Region.binds md e = true ∧ e.on = i) → YieldsIf P ops S oi v a → S w →
      wpAnyM lim P md ops Q S fuel (listed.setIfInBounds i true) (a.put oi.dst v) w → wpAnyM lim P md ops Q S (fuel + 1) listed a w := by
  intro fuel
  induction fuel with
  | zero =>
    intro listed a w _ hr _ hy hS H
    refine ⟨fun h => (by rw [h] at hr; cases hr), fun j hj => ?_⟩
    by_cases e : j = i
    · subst e; exact hy.wpOp hi hS ⟨fun _ => hS, H⟩
    · have h1 := ready_mono hj e
      rw [H.1] at h1
      cases h1
  | succ fuel ih =>
    intro listed a w hfree hr hm hy hS H
    refine ⟨fun h => (by rw [h] at hr; cases hr), fun j hj => ?_⟩
    by_cases e : j = i
    · subst e; exact hy.wpOp hi hS ⟨fun _ => hS, H⟩
    · have hn := H.2 j (ready_mono hj e)
      obtain ⟨hju, oj, hoj, hall⟩ := mem_ready.1 hj
      have hnot : ∀ f ∈ oj.after, Region.binds md f = true → f.on ≠ i := fun f hf hb he => by
        have g1 := hall f hf hb
        have g0 := (mem_ready.1 hr).1
        rw [he] at g1
        by_cases hl : i < listed.size
        · simp [hl] at g0 g1; rw [g0] at g1; cases g1
        · simp [Array.getElem?_eq_none (Nat.le_of_not_lt hl)] at g1
      have hp := wpOp_putIf hoj (hfree j oj hoj e hju hnot) (fun cs b => hsel i oi cs b hi) (fun cs b => hsel j oj cs b hoj) hQ hy hn
      have hir : i ∈ Region.ready md ops (listed.setIfInBounds j true) := ready_mono hr (fun h => e h.symm)
      have hfr : ∀ k ok, ops[k]? = some ok → k ≠ i → (listed.setIfInBounds j true).getD k true = false → (∀ f ∈ ok.after, Region.binds md f = true → f.on ≠ i) → oi.apart ops ok = true := fun k ok hk hki hun hno => by
        refine hfree k ok hk hki ?_ hno
        by_cases hjk : j = k
        · subst hjk; exact hju
        · rw [getD_set_ne true hjk] at hun; exact hun
      refine wpOp_mono (fun a' w' h => ?_) hp
      obtain ⟨m, om, h1, h2, h3, f, hf, hb, he⟩ := hm
      have hjm : j ≠ m := fun h0 => by
        subst h0
        rw [hoj] at h1
        obtain rfl := Option.some.inj h1
        exact hnot f hf hb he
      have hSw : S w' := h.2.1 ⟨m, h2.1, by rw [Array.getElem?_setIfInBounds_ne hjm, Array.getElem?_setIfInBounds_ne (Ne.symm h3)]; exact h2.2⟩
      refine ⟨fun _ => hSw, ih _ a' w' hfr hir ⟨m, om, h1, ⟨h2.1, by rw [Array.getElem?_setIfInBounds_ne hjm]; exact h2.2⟩, h3, f, hf, hb, he⟩ h.1 hSw ?_⟩
      rw [Array.setIfInBounds_comm _ _ e]
      exact h.2.2
theorem waitedM_spec {listed : Array Bool} {i : Nat} (h : waitedM lim md ops listed i = true) : ∃ m om, ops[m]? = some om ∧ (m < lim ∧ listed[m]? = some false) ∧ m ≠ i ∧ ∃ e ∈ om.after, Region.binds md e = true ∧ e.on = i := by
  unfold waitedM at h
  obtain ⟨m, _, h⟩ := List.any_eq_true.1 h
  simp only [Bool.and_eq_true, beq_iff_eq, decide_eq_true_eq] at h
  obtain ⟨h1, h2, h3⟩ := h
  cases hm : ops[m]? with
  | none => rw [hm] at h3; cases h3
  | some om =>
    rw [hm] at h3
    obtain ⟨k, hk, he⟩ := Array.any_eq_true.1 h3
    simp only [Bool.and_eq_true, decide_eq_true_eq] at he
    exact ⟨m, om, hm, ⟨h1.2, h1.1⟩, h2, _, Array.getElem_mem hk, he⟩
theorem wpAnyM_take (i : Nat) {oi : Oper} {v : Value} {fuel : Nat} {listed : Array Bool} {a : Act} {w : World} (hi : ops[i]? = some oi)
    (hs : Region.noSelect ops = true) (hf : Region.free md ops listed i = true) (hr : (Region.ready md ops listed).contains i = true) (hw : waitedM lim md ops listed i = true)
    (hQ : ∀ c a w, Q (.panic c) (a.put oi.dst v) w → Q (.panic c) a w) (hy : YieldsIf P ops S oi v a) (hS : S w)
    (h : wpAnyM lim P md ops Q S fuel (listed.setIfInBounds i true) (a.put oi.dst v) w) : wpAnyM lim P md ops Q S (fuel + 1) listed a w :=
  wpAnyM_first hi (Region.noSelect_spec hs) hQ fuel listed a w (Region.free_spec hi hf) (by simpa using hr) (waitedM_spec hw) hy hS h
/-- One alone may come up. -/
theorem wpAnyM_one (i : Nat) {o : Oper} {fuel : Nat} {listed : Array Bool} {a : Act} {w : World} (hr : Region.ready md ops listed = [i]) (ho : ops[i]? = some o)
    (h : ∀ K' : Act → World → Prop, Shut (∀ a w, (RemM lim (listed.setIfInBounds i true) → S w) → wpAnyM lim P md ops Q S fuel (listed.setIfInBounds i true) a w → K' a w) → if Region.wanted o (yielded ops a.tmps) = true then Oper.wp P o a w K' Q else K' (a.put o.dst undef) w) : wpAnyM lim P md ops Q S (fuel + 1) listed a w :=
  ⟨fun h0 => (by rw [hr] at h0; cases h0), fun j hj => by
    rw [hr] at hj
    obtain rfl := List.mem_singleton.1 hj
    exact wpOp_step ho fun K' hK => h K' fun a w hS hW => hK a w ⟨hS, hW⟩⟩
theorem wpAnyM_done {listed : Array Bool} {a : Act} {w : World} (hr : Region.ready md ops listed = []) (h : Q .normal a w) : ∀ fuel, wpAnyM lim P md ops Q S fuel listed a w
  | 0 => ⟨hr, h⟩
  | _ + 1 => ⟨fun _ => h, by rw [hr]; simp⟩
theorem wp_region_M (lim : Nat) (S : World → Prop) {id : Nat} {a : Act} {w : World} (hm : P.follows .mixedOrders = true) (h : wpAnyM lim P .any ops Q S ops.size (Array.replicate ops.size false) a w.drew) : (Code.region id ops true).wp P Q a w :=
  wp_region_any hm (wpAny_of_M _ _ _ _ h)
/-- All ahead of the place have come up. -/
def allUpM (lim : Nat) (listed : Array Bool) : Bool := (List.range lim).all fun k => listed.getD k true
theorem not_remM {listed : Array Bool} (h : allUpM lim listed = true) : ¬ RemM lim listed := by
  rintro ⟨k, hk, hf⟩
  unfold allUpM at h
  have h1 := List.all_eq_true.1 h k (List.mem_range.2 hk)
  rw [Array.getD_eq_getD_getElem?, hf] at h1
  cases h1
end
end Go.Sd
end

section
namespace Go.Proofs.YtcilgihmaaobeaaGreatDoor
open Go.RowKit Go.Deep Go.Sd
abbrev Sh := Int × List ByteArray
/-- A slice of texts. -/
abbrev TsR : World → Value → List ByteArray → Prop := SlOf (ValR Value.string)
theorem TsR.frame : Framed TsR := SlOf.frame (fun _ _ _ _ h _ => h)
/-- Does a text occur in another? -/
def occB (w f : ByteArray) : Bool := Lib.contains w.data.toList f.data.toList
/-- Does a text begin at a place of another? -/
def occI (w f : ByteArray) (i : Nat) : Prop := i + f.size ≤ w.size ∧ w.extract i (i + f.size) = f
def avoM (F : List ByteArray) (w : ByteArray) : Bool := F.all fun f => !occB w f
theorem size_list (s : ByteArray) : s.data.toList.length = s.size := by show s.data.toList.length = s.data.size; exact Array.length_toList
theorem extract_list (w : ByteArray) (i j : Nat) : (w.extract i j).data.toList = (w.data.toList.drop i).take (j - i) := by
  simp [List.take_drop]
theorem occI_iff (w f : ByteArray) (i : Nat) (h : i + f.size ≤ w.size) : w.extract i (i + f.size) = f ↔ Lib.occAt w.data.toList f.data.toList i = true := by
  rw [Lib.occAt_iff_take _ _ _ (by rw [size_list, size_list]; exact h), beq_iff_eq, size_list]
  constructor
  · intro e
    have := congrArg (fun b : ByteArray => b.data.toList) e
    simp only [extract_list] at this
    rw [show i + f.size - i = f.size by omega] at this
    exact this
  · intro e
    apply ByteArray.ext
    apply Array.toList_inj.1
    rw [extract_list, show i + f.size - i = f.size by omega]
    exact e
theorem occB_iff (w f : ByteArray) : occB w f = true ↔ ∃ i, occI w f i := by
  unfold occB Lib.contains
  rw [decide_eq_true_eq]
  constructor
  · intro h
    rcases Lib.index_spec w.data.toList f.data.toList with ⟨h1, -⟩ | ⟨i, h1, h2, h3, -⟩
    · omega
    · have hr := Lib.index_room _ _ h
      rw [size_list, size_list] at hr
      have hle : i + f.size ≤ w.size := by omega
      exact ⟨i, hle, (occI_iff w f i hle).2 h3⟩
  · rintro ⟨i, h1, h2⟩
    have h3 := (occI_iff w f i h1).1 h2
    rcases Lib.index_spec w.data.toList f.data.toList with ⟨-, h4⟩ | ⟨j, h4, -⟩
    · have := h4 i (by rw [size_list]; omega)
      rw [this] at h3
      cases h3
    · omega
theorem occB_no {w f : ByteArray} (h : ∀ i, ¬ occI w f i) : occB w f = false := by
  cases e : occB w f with
  | false => rfl
  | true =>
    obtain ⟨i, hi⟩ := (occB_iff w f).1 e
    exact absurd hi (h i)
/-- A shift in memory. -/
def ShR (w : World) (v : Value) (s : Sh) : Prop := ∃ va, v = .agg #[.int .i64 s.1, va] ∧ TsR w va s.2
theorem ShR.frame : Framed ShR := fun _ _ _ _ ⟨va, e, h⟩ hb => ⟨va, e, TsR.frame _ _ _ _ h hb⟩
theorem toList_data (s : ByteArray) : s.toList = s.data.toList := ByteArray.toList_eq s
theorem bytes_ext {a b : ByteArray} (h : a.toList = b.toList) : a = b := by
  rw [toList_data, toList_data] at h
  exact ByteArray.ext (Array.toList_inj.1 h)
/-- Is a text among some? -/
def hasB (F : List ByteArray) (s : ByteArray) : Bool := F.any fun f => f.toList == s.toList
theorem hasB_iff (F : List ByteArray) (s : ByteArray) : hasB F s = true ↔ s ∈ F := by
  unfold hasB
  rw [List.any_eq_true]
  constructor
  · rintro ⟨f, hf, he⟩
    rw [beq_iff_eq] at he
    rw [← bytes_ext he]
    exact hf
  · intro h
    exact ⟨s, h, by simp⟩
theorem hasB_yes {F : List ByteArray} {s : ByteArray} (h : s ∈ F) : hasB F s = true := (hasB_iff F s).2 h
theorem hasB_no {F : List ByteArray} {s : ByteArray} (h : ∀ (k : Nat) (f : ByteArray), F[k]? = some f → f ≠ s) : hasB F s = false := by
  cases e : hasB F s with
  | false => rfl
  | true =>
    obtain ⟨k, hk⟩ := List.getElem?_of_mem ((hasB_iff F s).1 e)
    exact absurd rfl (h k s hk)
end Go.Proofs.YtcilgihmaaobeaaGreatDoor
end

section
namespace Go.Sd
open Go.RowKit Go.Deep

section
variable {P : Program} {w : World} {ops : Array Oper} {o : Oper} {a : Act} {Q : Exit → Act → World → Prop} {K : Act → World → Prop} {E : Prop}

theorem step_append_run (hw : Region.wanted o (yielded ops a.tmps) = true) (s x : Operand) (t : TypeId)
    (ho : o.op = .call { callee := .builtin .append, args := #[s, x], argTypes := #[t, t] }) {v v2 v' : Value} {w' : World} (hs : a.eval s = v) (hx : a.eval x = v2)
    (hr : (Builtin.append_ #[t, t] o.type #[v, v2]).run P w = .ok v' w') (h : K (a.put o.dst v') w') : if Region.wanted o (yielded ops a.tmps) = true then Oper.wp P o a w K Q else E := by
  rw [if_pos hw]
  unfold Oper.wp execOp
  simp only [ho, resolve, invoke, builtin, Sem.run_bind, Sem.run_pure, Result.andThen_ok, List.map_toArray, List.map_cons, List.map_nil, hs, hx, hr]
  exact h

end
end Go.Sd
end

section
namespace Go.Sd

def rowOf' (r : Nat) (f : Nat → Int) : List Int := (List.range r).map f
def tabOf (p r : Nat) (f : Nat → Nat → Int) : List (List Int) := (List.range p).map fun i => rowOf' r (f i)

theorem rowOf_len (r : Nat) (f : Nat → Int) : (rowOf' r f).length = r := by simp [rowOf']
theorem tabOf_len (p r : Nat) (f : Nat → Nat → Int) : (tabOf p r f).length = p := by simp [tabOf]
theorem rowOf_at {r : Nat} {f : Nat → Int} {j : Nat} (h : j < r) : (rowOf' r f)[j]? = some (f j) := by simp [rowOf', h]
theorem tabOf_at {p r : Nat} {f : Nat → Nat → Int} {i : Nat} (h : i < p) : (tabOf p r f)[i]? = some (rowOf' r (f i)) := by simp [tabOf, h]
theorem rowOf_congr {r : Nat} {f g : Nat → Int} (h : ∀ j, j < r → f j = g j) : rowOf' r f = rowOf' r g := List.map_congr_left fun j hj => h j (List.mem_range.1 hj)
theorem tabOf_congr {p r : Nat} {f g : Nat → Nat → Int} (h : ∀ i, i < p → ∀ j, j < r → f i j = g i j) : tabOf p r f = tabOf p r g := List.map_congr_left fun i hi => rowOf_congr fun j hj => h i (List.mem_range.1 hi) j hj
theorem rowOf_set (r : Nat) (f : Nat → Int) (j : Nat) (y : Int) : (rowOf' r f).set j y = rowOf' r (fun j' => if j' = j then y else f j') := by
  apply List.ext_getElem?
  intro k
  unfold rowOf'
  by_cases hk : k < r
  · by_cases hj : j = k
    · subst hj; simp [hk]
    · rw [List.getElem?_set_ne hj]; simp [hk, Ne.symm hj]
  · rw [List.getElem?_eq_none (by simp; omega), List.getElem?_eq_none (by simp; omega)]
theorem tabOf_set (p r : Nat) (f : Nat → Nat → Int) (i : Nat) (g : Nat → Int) : (tabOf p r f).set i (rowOf' r g) = tabOf p r (fun i' => if i' = i then g else f i') := by
  apply List.ext_getElem?
  intro k
  unfold tabOf
  by_cases hk : k < p
  · by_cases hj : i = k
    · subst hj; simp [hk]
    · rw [List.getElem?_set_ne hj]; simp [hk, Ne.symm hj]
  · rw [List.getElem?_eq_none (by simp; omega), List.getElem?_eq_none (by simp; omega)]
theorem tabOf_set2 (p r : Nat) (f : Nat → Nat → Int) (i j : Nat) (y : Int) : (tabOf p r f).set i ((rowOf' r (f i)).set j y) = tabOf p r (fun i' j' => if i' = i ∧ j' = j then y else f i' j') := by
  rw [rowOf_set, tabOf_set]
  refine tabOf_congr fun i' _ j' _ => ?_
  by_cases h : i' = i
  · subst h; by_cases h2 : j' = j <;> simp [h2]
  · simp [h]
theorem take_snoc' {α : Type} {xs : List α} {i : Nat} {x : α} (h : xs[i]? = some x) : xs.take i ++ [x] = xs.take (i + 1) := by
  rw [List.take_add_one, h]; rfl
theorem rowOf_const (r : Nat) (c : Int) : rowOf' r (fun _ => c) = List.replicate r c := by
  unfold rowOf'
  apply List.ext_getElem?
  intro k
  by_cases hk : k < r <;> simp [hk]
theorem tabOf_const (p r : Nat) (c : Int) : tabOf p r (fun _ _ => c) = List.replicate p (List.replicate r c) := by
  unfold tabOf
  rw [show (fun (i : Nat) => rowOf' r ((fun _ _ => c) i)) = fun _ => List.replicate r c from funext fun _ => rowOf_const r c]
  apply List.ext_getElem?
  intro k
  by_cases hk : k < p <;> simp [hk]

theorem ent_tabOf {p r : Nat} {f : Nat → Nat → Int} {i j : Nat} (hi : i < p) (hj : j < r) : ent (tabOf p r f) i j = f i j := by
  simp [ent, List.getD, tabOf_at hi, rowOf_at hj]
theorem mem_tabOf {p r : Nat} {f : Nat → Nat → Int} {x : List Int} (h : x ∈ tabOf p r f) : x.length = r := by
  obtain ⟨i, _, rfl⟩ := List.mem_map.1 h
  exact rowOf_len _ _
open Go.RowKit in
theorem EntAt.frame {w w' : World} {b o n l : Nat} {m : List (List Int)} (h : EntAt w b o n l m) (hb : b < w.heap.size) (hw : Below w.heap.size w w') : EntAt w' b o n l m := by
  intro i hi
  obtain ⟨a', c', h1, h2, h3⟩ := h i hi
  refine ⟨a', c', (hw.cell (p := ⟨b, o + i, none⟩) hb).trans h1, Ints.frame _ _ _ _ h2 hw, fun hl => ?_⟩
  obtain ⟨b', o', e, h4, h5⟩ := h3 hl
  exact ⟨b', o', e, Nat.lt_of_lt_of_le h4 hw.size, fun j hj => (hw.cell (p := ⟨b', o' + j, none⟩) h4).trans (h5 j hj)⟩

theorem New.heap {α : Type} {R : OwnRel α} (hR : Kept R) {lo : Nat} {w w' : World} {v : Value} {x : α} (h : New R lo w v x) (e : w'.heap = w.heap) : New R lo w' v x := by
  obtain ⟨F, hF, hf⟩ := h
  exact ⟨F, hR.keep _ _ _ _ _ hF fun b _ => by rw [e], hf⟩

/-- A plain value of an own slice: its cell, and what a store leaves. -/
theorem New.val_at {α : Type} {f : α → Value} (hf : ∀ x, (f x).oneCell' = true) {e : TypeId} {lo : Nat} {w : World} {v : Value} {xs : List α} (h : New (OwnOf e (OValR f)) lo w v xs) {i : Nat} {x : α} (hx : xs[i]? = some x) :
    ∃ b c, v = .slice (some ⟨b, 0, none⟩) xs.length c ∧ xs.length ≤ c ∧ lo ≤ b ∧ b < w.heap.size ∧ w.cell? ⟨b, i, none⟩ = some (f x) ∧ w.frozen? ⟨b, i, none⟩ = false ∧
      ∀ y, New (OwnOf e (OValR f)) lo (w.setCell ⟨b, i, none⟩ (f y)) v (xs.set i y) := by
  have hK : Kept (OValR f) := ⟨fun _ _ _ _ _ h _ => h, fun _ _ _ _ h b hb => by rw [h.2] at hb; simp at hb, fun _ _ x _ h => by rw [h.1]; exact hf x⟩
  obtain ⟨F, hF, hn, hge⟩ := h
  obtain ⟨b, c, u, G, hv, hc, hbF, hbG, hcell, hfr, ⟨rfl, rfl⟩, _, _, _, hst⟩ := hF.focus hK hn hx
  refine ⟨b, c, hv, hc, hge b hbF, (OwnOf.kept hK).lt _ _ _ _ hF b hbF, hcell, hfr, fun y => ?_⟩
  obtain ⟨F', hF', hsub, hn', _⟩ := hst w (f y) y [] ⟨rfl, rfl⟩ (by simp) (fun _ _ _ => rfl)
  exact ⟨F', hF', hn' (by simp) (by simp), fun q hq => (hsub q hq).elim (hge q) (by simp)⟩

theorem OVal.kept {α : Type} {f : α → Value} (hf : ∀ x, (f x).oneCell' = true) : Kept (OValR f) :=
  ⟨fun _ _ _ _ _ h _ => h, fun _ _ _ _ h b hb => by rw [h.2] at hb; simp at hb, fun _ _ x _ h => by rw [h.1]; exact hf x⟩

theorem Sq.set {n : Nat} {m : List (List Int)} (h : Sq n m) {i : Nat} (hi : i < n) (j : Nat) (y : Int) : Sq n (m.set i ((m.getD i []).set j y)) := by
  refine ⟨by rw [List.length_set]; exact h.1, fun r hr => ?_⟩
  rcases List.mem_or_eq_of_mem_set hr with hr | hr
  · exact h.2 r hr
  · rw [hr, List.length_set]
    exact h.2 _ (by simp [List.getD, show i < m.length by have := h.1; omega])
theorem Sq.row {n : Nat} {m : List (List Int)} (h : Sq n m) {i : Nat} (hi : i < n) : m[i]? = some (m.getD i []) ∧ (m.getD i []).length = n := by
  have h1 : i < m.length := by have := h.1; omega
  have h2 : m[i]? = some (m.getD i []) := by simp [List.getD, h1]
  exact ⟨h2, h.2 _ (List.mem_of_getElem? h2)⟩
theorem Sq.entry {n : Nat} {m : List (List Int)} (h : Sq n m) {i j : Nat} (hi : i < n) (hj : j < n) : (m.getD i [])[j]? = some (ent m i j) := by
  have h1 := (h.row hi).2
  unfold ent
  generalize m.getD i [] = r at h1 ⊢
  simp [List.getD, show j < r.length by omega]
theorem Sq.zeros (n : Nat) : Sq n (List.replicate n (List.replicate n 0)) := ⟨by simp, fun r hr => by rw [(List.mem_replicate.1 hr).2]; simp⟩

end Go.Sd
end

section
namespace Go.Sd
open Go.RowKit Go.Deep Go.Joins Go.ChangeShapes Go.WideShapes Go.ChangeAt

abbrev Arc3 := Int × Int × Int
abbrev Lb := Int × Int × List Arc3
/-- v is a slice of structs of three numbers. -/
def ArcsR (w : World) (v : Value) (xs : List Arc3) : Prop :=
  xs.length ≤ 9223372036854775807 ∧ ∃ a c, v = .slice a xs.length c ∧ xs.length ≤ c ∧ c ≤ 9223372036854775807 ∧ (a = none → c = 0) ∧
    (0 < xs.length → ∃ b o, a = some ⟨b, o, none⟩ ∧ b < w.heap.size ∧ ∀ i x, xs[i]? = some x → w.cell? ⟨b, o + i * 3, none⟩ = some (.int .i64 x.1) ∧ w.cell? ⟨b, o + i * 3 + 1, none⟩ = some (.int .i64 x.2.1) ∧ w.cell? ⟨b, o + i * 3 + 2, none⟩ = some (.int .i64 x.2.2))
theorem ArcsR.frame : Framed ArcsR := by
  intro w w' v xs h hb
  obtain ⟨h1, a, c, rfl, h2, h3, h4, h5⟩ := h
  refine ⟨h1, a, c, rfl, h2, h3, h4, fun h0 => ?_⟩
  obtain ⟨b, o, rfl, hlt, hx⟩ := h5 h0
  refine ⟨b, o, rfl, Nat.lt_of_lt_of_le hlt hb.size, fun i x hi => ?_⟩
  obtain ⟨c0, c1, c2⟩ := hx i x hi
  exact ⟨(hb.cell (p := ⟨b, o + i * 3, none⟩) hlt).trans c0, (hb.cell (p := ⟨b, o + i * 3 + 1, none⟩) hlt).trans c1, (hb.cell (p := ⟨b, o + i * 3 + 2, none⟩) hlt).trans c2⟩
def LabR (w : World) (v : Value) (l : Lb) : Prop := ∃ va, v = .agg #[.int .i64 l.1, .int .i64 l.2.1, va] ∧ ArcsR w va l.2.2
theorem LabR.frame : Framed LabR := fun _ _ _ _ ⟨va, e, h⟩ hb => ⟨va, e, ArcsR.frame _ _ _ _ h hb⟩

/-- n numbers in a block, as a function gives them. -/
def CellsI (w : World) (B m : Nat) (f : Nat → Int) : Prop := ∀ j, j < m → w.cell? ⟨B, j, none⟩ = some (.int .i64 (f j)) ∧ w.frozen? ⟨B, j, none⟩ = false
theorem CellsI.set {w : World} {B m : Nat} {f : Nat → Int} (h : CellsI w B m f) {j : Nat} (hj : j < m) (y : Int) : CellsI (w.setCell ⟨B, j, none⟩ (.int .i64 y)) B m (fun i => if i = j then y else f i) := by
  intro i hi
  refine ⟨?_, (World.frozen?_setCell _ _ _ _).trans (h i hi).2⟩
  by_cases e : i = j
  · subst e
    show _ = some (Value.int .i64 (if i = i then y else f i))
    rw [if_pos rfl]
    exact World.cell?_setCell_same _ _ _ (h i hi).1
  · show _ = some (Value.int .i64 (if i = j then y else f i))
    rw [if_neg e]
    exact (World.cell?_setCell_other _ _ _ _ (by simp <;> omega)).trans (h i hi).1
theorem CellsI.congr {w : World} {B m : Nat} {f g : Nat → Int} (h : CellsI w B m f) (e : ∀ j, j < m → f j = g j) : CellsI w B m g := fun j hj => by rw [← e j hj]; exact h j hj
theorem CellsI.keep {w w' : World} {B m : Nat} {f : Nat → Int} (h : CellsI w B m f) {lo : Nat} (hb : Below lo w w') (hlt : B < lo) : CellsI w' B m f := fun j hj =>
  ⟨(hb.cell (p := ⟨B, j, none⟩) hlt).trans (h j hj).1, (hb.frozen (p := ⟨B, j, none⟩) hlt).trans (h j hj).2⟩

def comp (j : Nat) (x : Arc3) : Int := if j = 0 then x.1 else if j = 1 then x.2.1 else x.2.2
/-- The first k arcs laid out, zeros behind them. -/
def arcF (xs : List Arc3) (k j : Nat) : Int := if j / 3 < k then comp (j % 3) (xs.getD (j / 3) (0, 0, 0)) else 0
theorem ArcsR.of_cells {w : World} {B : Nat} {xs : List Arc3} (hB : B < w.heap.size) (hl : xs.length ≤ 9223372036854775807) (h : CellsI w B (xs.length * 3) (arcF xs xs.length)) : ArcsR w (.slice (some ⟨B, 0, none⟩) xs.length xs.length) xs := by
  refine ⟨hl, _, _, rfl, Nat.le_refl _, hl, by simp, fun _ => ⟨B, 0, rfl, hB, fun i x hi => ?_⟩⟩
  have hi2 := (List.getElem?_eq_some_iff.1 hi).1
  have hg : xs.getD i (0, 0, 0) = x := by simp [List.getD, hi]
  have key : ∀ c, c < 3 → arcF xs xs.length (i * 3 + c) = comp c x := fun c hc => by
    unfold arcF
    rw [if_pos (by omega), show (i * 3 + c) / 3 = i by omega, hg, show (i * 3 + c) % 3 = c by omega]
  have k0 := (h (i * 3 + 0) (by omega)).1
  have k1 := (h (i * 3 + 1) (by omega)).1
  have k2 := (h (i * 3 + 2) (by omega)).1
  rw [key _ (by omega)] at k0 k1 k2
  rw [Nat.zero_add]
  exact ⟨k0, k1, k2⟩

section
variable {H : Type} {enc : TypeId × Value → H} {P : Program} {W : World} {base : Nat}
end
end Go.Sd
end

section
namespace Go.Sd
open Go.RowKit Go.Deep
def Small (l : List Int) : Prop := l.length ≤ 4 ∧ ∀ x, x ∈ l → 0 ≤ x ∧ x ≤ 3
end Go.Sd
namespace Go.Proofs.YtcilgihmaaobeaaGreatDoor
open Go.RowKit Go.Deep Go.Sd
end Go.Proofs.YtcilgihmaaobeaaGreatDoor
end

section
namespace Go.Proofs.YtcilgihmaaobeaaGreatDoor
open Go.RowKit Go.Deep Go.Sd
set_option linter.unusedSimpArgs false
set_option maxHeartbeats 1000000 in
theorem big_c {w : World} {a : Option Addr} {n c : Nat} (hn : n ≤ 9223372036854775807) :
    Calls Tryz.prog 4 #[.slice a n c] w fun e w' => e = .returned (.bool (decide (1048576 < n))) ∧ w = w' := by
  have hd : decide ((1048576 : Int) < (n : Int)) = decide (1048576 < n) := decide_eq_decide.2 (by omega)
  generalize decide (1048576 < n) = D at hd ⊢
  go_enter Tryz.func4, Tryz.ntmps4
  go_wp2
  go_ret
  exact ⟨by rw [← hd]; rfl, rfl⟩
end Go.Proofs.YtcilgihmaaobeaaGreatDoor
end

section
namespace Go.Proofs.YtcilgihmaaobeaaGreatDoor
open Go.RowKit Go.Deep Go.Sd

theorem infoA : (Tryz.prog.info? 68).map (fun i => (i.zero, i.size, i.bytes)) = some (some (.agg #[.int .i64 0, .int .i64 0, .int .i64 0]), 3, 24) := by kernel_rfl
end Go.Proofs.YtcilgihmaaobeaaGreatDoor
end
