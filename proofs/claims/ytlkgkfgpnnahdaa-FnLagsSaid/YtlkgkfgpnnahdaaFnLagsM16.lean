/-
  Texts of this claim joined: laws for its walks, contracts of the functions that the law reaches.
-/
import Derived.Test.YtlkgkfgpnnahdaaRows
import Derived.Test.YtlkgkfgpnnahdaaFnLagsM1
import Derived.Test.YtlkgkfgpnnahdaaFnLagsM3
import Derived.Test.YtlkgkfgpnnahdaaFnLagsM4
import Derived.Test.YtlkgkfgpnnahdaaFnLagsM5
import Derived.Test.YtlkgkfgpnnahdaaFnLagsM6
import Derived.Test.YtlkgkfgpnnahdaaFnLagsM15
section
/-
  JoinAll, both sides.
-/
namespace Go.Proofs.Ytlkgkfgpnnahdaa
open Go.RowKit Go.Deep Go.Sd

def joinIter : Nat → List (List Int) → List (List Int)
  | 0, m => m
  | g + 1, m => match firstJ m with
    | some x => joinIter g x
    | none => m
def joinAllV (m : List (List Int)) : List (List Int) := if isMat m = true then joinIter m.length m else []

theorem joinIter_some {g : Nat} {m x : List (List Int)} (h : firstJ m = some x) : joinIter (g + 1) m = joinIter g x := by
  conv => lhs; unfold joinIter
  rw [h]
theorem joinIter_none {g : Nat} {m : List (List Int)} (h : firstJ m = none) : joinIter g m = m := by
  cases g with
  | zero => rfl
  | succ g => unfold joinIter; rw [h]

theorem joinV_sq {m : List (List Int)} {i j : Int} (h : joinOk m i j = true) : Sq (m.length - 1) (joinV m i j) ∧ m.length ≠ 0 ∧ m.length ≤ 9 := by
  unfold joinV
  rw [if_pos h]
  refine ⟨⟨tabOf_len _ _ _, fun _ hx => mem_tabOf hx⟩, ?_⟩
  unfold joinOk at h
  simp only [Bool.and_eq_true] at h
  have := (isMat_sq h.1.1.1).2
  omega
theorem rowF_sq {m : List (List Int)} {i : Nat} {x : List (List Int)} : ∀ {g j : Nat}, rowF m i g j = some x → Sq (m.length - 1) x ∧ m.length ≠ 0 ∧ m.length ≤ 9
  | 0, j, h => by cases h
  | g + 1, j, h => by
    unfold rowF at h
    by_cases hj : joinOk m i j = true
    · rw [if_pos hj] at h
      cases h
      exact joinV_sq hj
    · rw [if_neg hj] at h
      exact rowF_sq h
theorem firstF_sq {m : List (List Int)} {x : List (List Int)} : ∀ {g i : Nat}, firstF m g i = some x → Sq (m.length - 1) x ∧ m.length ≠ 0 ∧ m.length ≤ 9
  | 0, i, h => by cases h
  | g + 1, i, h => by
    cases hr : rowF m i (m.length - (i + 1)) (i + 1) with
    | some y =>
      rw [firstF_some hr] at h
      cases h
      exact rowF_sq hr
    | none =>
      rw [firstF_none hr] at h
      exact firstF_sq h
theorem firstJ_sq {m x : List (List Int)} (h : firstJ m = some x) : Sq (m.length - 1) x ∧ m.length ≠ 0 ∧ m.length ≤ 9 := firstF_sq h
theorem joinIter_sq : ∀ (g : Nat) {m : List (List Int)}, Sq m.length m → ∃ n, n ≤ m.length ∧ Sq n (joinIter g m)
  | 0, m, h => ⟨_, Nat.le_refl _, h⟩
  | g + 1, m, h => by
    cases hf : firstJ m with
    | none => rw [joinIter_none hf]; exact ⟨_, Nat.le_refl _, h⟩
    | some x =>
      rw [joinIter_some hf]
      have hx := (firstJ_sq hf).1
      obtain ⟨n, hn, hs⟩ := joinIter_sq g (m := x) (by rw [hx.1]; exact hx)
      exact ⟨n, by rw [hx.1] at hn; omega, hs⟩
theorem joinAllV_bd (m : List (List Int)) : (joinAllV m).length ≤ 9 ∧ ∀ x, x ∈ joinAllV m → x.length ≤ 9 := by
  unfold joinAllV
  by_cases h : isMat m = true
  · rw [if_pos h]
    have hs := isMat_sq h
    obtain ⟨n, hn, hq⟩ := joinIter_sq m.length hs.1
    exact ⟨by rw [hq.1]; omega, fun x hx => by rw [hq.2 x hx]; omega⟩
  · rw [if_neg h]
    exact ⟨by simp, fun x hx => by cases hx⟩

set_option maxHeartbeats 1000000 in
theorem impl_JoinAll_c {w : World} {va : Value} {m : List (List Int)} (h1 : Tab w va m) :
    Calls Try.prog 9 #[va] w (Makes (OTab 3 33) w (joinAllV m)) := by
  have Hc := Lib.hid (impl_IsMatrix_c h1)
  cases hm : isMat m with
  | false =>
    have HV := Lib.hid (show joinAllV m = [] from by unfold joinAllV; rw [if_neg (by rw [hm]; simp)])
    rw [hm] at Hc
    obtain ⟨aa, ac, rfl, _, _, _⟩ := h1.shape
    clear h1 hm
    go_enter Try.func9, Try.ntmps9
    go_wp2_with fail
    refine Hc.out.mono ?_
    rintro e w' ⟨rfl, rfl⟩
    go_wp2
    go_ret
    exact ⟨_, rfl, by rw [HV.out]; exact New.nil _ _, Below.refl _ _⟩
  | true =>
    have HV := Lib.hid (show joinAllV m = joinIter m.length m from by unfold joinAllV; rw [if_pos hm])
    generalize joinAllV m = T at HV ⊢
    rw [hm] at Hc
    have sm := isMat_sq hm
    have Hcp := Lib.hid (copied_c h1 (by omega) (fun r hr => by rw [sm.1.2 r hr]; omega))
    obtain ⟨aa, ac, rfl, _, _, _⟩ := h1.shape
    obtain ⟨n, hn⟩ : ∃ n, n = m.length := ⟨_, rfl⟩
    have Hlen := Lib.hid hn
    rw [← hn] at HV
    clear h1 hm sm
    go_enter Try.func9, Try.ntmps9
    go_wp2_with fail
    refine Hc.out.mono ?_
    rintro e w' ⟨rfl, rfl⟩
    go_wp2_with fail
    refine Hcp.out.mono ?_
    rintro e w1 ⟨v1, rfl, hn1, hb1⟩
    have Hn1 := Lib.hid hn1
    have Hb1 := Lib.hid hb1
    clear hn1 hb1 Hcp Hc hn
    go_wp2
    go_loopg [3] n (fun g v wr => ∃ (x : List (List Int)), Hid (x.length = g) ∧ Hid (T = joinIter g x) ∧ New (OTab 3 33) w.heap.size wr v x ∧ Below w.heap.size w wr)
    case atStart => exact ⟨m, Lib.hid Hlen.out.symm, HV, Hn1.out, Hb1.out⟩
    case round =>
      obtain ⟨x, Hx, HT, hnew, hbel⟩ := hrel
      clear Hn1 Hb1 HV Hlen
      have Hb := Lib.hid hbel
      have Hn := Lib.hid hnew
      have hz := hbel.size
      have Hf := Lib.hid (joinFirst_c hnew.tab)
      obtain ⟨xa, xn, xc, rfl⟩ := hnew.slice
      clear hnew hbel
      cases hj : firstJ x with
      | none =>
        have HT2 := Lib.hid (show T = x from by rw [HT.out]; exact joinIter_none hj)
        rw [hj] at Hf
        clear hj HT Hx
        go_wp2_with fail
        refine Hf.out.mono ?_
        rintro e w2 ⟨v2, rfl, hn2, hb2⟩
        have Hb2 := Lib.hid (Hb.out.trans (hb2.mono hz))
        have Hn2 := Lib.hid (New.keep (OTab.kept _ _) Hn.out hb2 (Nat.le_refl _))
        clear hn2 hb2
        go_wp2
        go_ret
        exact ⟨_, rfl, by rw [HT2.out]; exact Hn2.out, Hb2.out⟩
      | some y =>
        obtain ⟨hs, h0, _⟩ := firstJ_sq hj
        obtain ⟨g, hg⟩ : ∃ g, gk = g + 1 := ⟨gk - 1, by have := Hx.out; omega⟩
        have HT2 := Lib.hid (show T = joinIter g y from by rw [HT.out, hg]; exact joinIter_some hj)
        have Hy := Lib.hid (show y.length = g from by have := Hx.out; have := hs.1; omega)
        rw [hj] at Hf
        clear hj HT Hx hs h0
        go_wp2_with fail
        refine Hf.out.mono ?_
        rintro e w2 ⟨v2, rfl, hn2, hb2⟩
        have Hb2 := Lib.hid (Hb.out.trans (hb2.mono hz))
        have Hn2 := Lib.hid (New.mono hn2 hz)
        obtain ⟨ya, yn, yc, rfl⟩ := hn2.slice
        clear hn2 hb2
        go_wp2
        go_roundg g
        case measure => omega
        case rel => exact ⟨y, Hy, HT2, Hn2.out, Hb2.out⟩
set_option maxHeartbeats 1000000 in
theorem spec_JoinAll_c {w : World} {va : Value} {m : List (List Int)} (h1 : Tab w va m) :
    Calls Try.prog 21 #[va] w (Makes (OTab 3 33) w (joinAllV m)) := by
  have Hc := Lib.hid (spec_IsMatrix_c h1)
  cases hm : isMat m with
  | false =>
    have HV := Lib.hid (show joinAllV m = [] from by unfold joinAllV; rw [if_neg (by rw [hm]; simp)])
    rw [hm] at Hc
    obtain ⟨aa, ac, rfl, _, _, _⟩ := h1.shape
    clear h1 hm
    go_enter Try.func21, Try.ntmps21
    go_wp2_with fail
    refine Hc.out.mono ?_
    rintro e w' ⟨rfl, rfl⟩
    go_wp2
    go_ret
    exact ⟨_, rfl, by rw [HV.out]; exact New.empty _ (Nat.le_refl _), (Below.refl _ _).alloc (Nat.le_refl _) _⟩
  | true =>
    have HV := Lib.hid (show joinAllV m = joinIter m.length m from by unfold joinAllV; rw [if_pos hm])
    generalize joinAllV m = T at HV ⊢
    rw [hm] at Hc
    have sm := isMat_sq hm
    have Hcp := Lib.hid (l4Copy_c h1 (by omega) (fun r hr => by rw [sm.1.2 r hr]; omega))
    obtain ⟨aa, ac, rfl, _, _, _⟩ := h1.shape
    obtain ⟨n, hn⟩ : ∃ n, n = m.length := ⟨_, rfl⟩
    have Hlen := Lib.hid hn
    rw [← hn] at HV
    clear h1 hm sm
    go_enter Try.func21, Try.ntmps21
    go_wp2_with fail
    refine Hc.out.mono ?_
    rintro e w' ⟨rfl, rfl⟩
    go_wp2_with fail
    refine Hcp.out.mono ?_
    rintro e w1 ⟨v1, rfl, hn1, hb1⟩
    have Hn1 := Lib.hid hn1
    have Hb1 := Lib.hid hb1
    clear hn1 hb1 Hcp Hc hn
    go_wp2
    go_loopg [3] n (fun g v wr => ∃ (x : List (List Int)), Hid (x.length = g) ∧ Hid (T = joinIter g x) ∧ New (OTab 3 33) w.heap.size wr v x ∧ Below w.heap.size w wr)
    case atStart => exact ⟨m, Lib.hid Hlen.out.symm, HV, Hn1.out, Hb1.out⟩
    case round =>
      obtain ⟨x, Hx, HT, hnew, hbel⟩ := hrel
      clear Hn1 Hb1 HV Hlen
      have Hb := Lib.hid hbel
      have Hn := Lib.hid hnew
      have hz := hbel.size
      have Hf := Lib.hid (l18First_c hnew.tab)
      obtain ⟨xa, xn, xc, rfl⟩ := hnew.slice
      clear hnew hbel
      cases hj : firstJ x with
      | none =>
        have HT2 := Lib.hid (show T = x from by rw [HT.out]; exact joinIter_none hj)
        rw [hj] at Hf
        clear hj HT Hx
        go_wp2_with fail
        refine Hf.out.mono ?_
        rintro e w2 ⟨v2, rfl, hn2, hb2⟩
        have Hb2 := Lib.hid (Hb.out.trans (hb2.mono hz))
        have Hn2 := Lib.hid (New.keep (OTab.kept _ _) Hn.out hb2 (Nat.le_refl _))
        clear hn2 hb2
        go_wp2
        go_ret
        exact ⟨_, rfl, by rw [HT2.out]; exact Hn2.out, Hb2.out⟩
      | some y =>
        obtain ⟨hs, h0, _⟩ := firstJ_sq hj
        obtain ⟨g, hg⟩ : ∃ g, gk = g + 1 := ⟨gk - 1, by have := Hx.out; omega⟩
        have HT2 := Lib.hid (show T = joinIter g y from by rw [HT.out, hg]; exact joinIter_some hj)
        have Hy := Lib.hid (show y.length = g from by have := Hx.out; have := hs.1; omega)
        rw [hj] at Hf
        clear hj HT Hx hs h0
        go_wp2_with fail
        refine Hf.out.mono ?_
        rintro e w2 ⟨v2, rfl, hn2, hb2⟩
        have Hb2 := Lib.hid (Hb.out.trans (hb2.mono hz))
        have Hn2 := Lib.hid (New.mono hn2 hz)
        obtain ⟨ya, yn, yc, rfl⟩ := hn2.slice
        clear hn2 hb2
        go_wp2
        go_roundg g
        case measure => omega
        case rel => exact ⟨y, Hy, HT2, Hn2.out, Hb2.out⟩
end Go.Proofs.Ytlkgkfgpnnahdaa
end

section
/-
  Joining until nothing is left to join gives one graph, but for the numbering.
-/
namespace Go.Proofs.Ytlkgkfgpnnahdaa
open Go.RowKit Go.Deep Go.Sd
abbrev Mx := List (List Int)
/-- What of column b lies in class A. -/
def cs (M : Mx) (n : Nat) (f : Nat → Nat) (A b : Nat) : Int := sumN n (fun i => if f i = A then ent M i b else 0)
/-- N is M with the classes of f taken together. -/
structure Quot (M : Mx) (n : Nat) (f : Nat → Nat) (k : Nat) (N : Mx) : Prop where
  sq : Sq k N
  lt : ∀ i, i < n → f i < k
  on : ∀ A, A < k → ∃ i, i < n ∧ f i = A
  val : ∀ A b, A < k → b < n → ent N A (f b) = cs M n f A b
/-- Reached by joins. -/
inductive Reach (M : Mx) (n : Nat) : (Nat → Nat) → Nat → Mx → Prop
  | base : Reach M n id n M
  | step {f : Nat → Nat} {k : Nat} {N : Mx} {i j : Nat} : Reach M n f k N → i < j → j < k → (∀ A, A < k → ent N A i = ent N A j) → Reach M n (fun x => if f x = j then i else cnt j (f x)) (k - 1) (joinT N i j k)
theorem cnt_i {i j : Nat} (h : i < j) : cnt j i = i := by unfold cnt; rw [if_pos (by omega)]
theorem cnt_skip (j k : Nat) : cnt j (skip j k) = k := by unfold cnt skip; split <;> split <;> omega
theorem skip_ne (j k : Nat) : skip j k ≠ j := by unfold skip; split <;> omega
theorem skip_i {i j : Nat} (h : i < j) : skip j i = i := by unfold skip; rw [if_pos h]
theorem Reach.quot {M : Mx} {n : Nat} (hM : Sq n M) {f : Nat → Nat} {k : Nat} {N : Mx} (h : Reach M n f k N) : Quot M n f k N := by
  induction h with
  | base => exact ⟨hM, fun i hi => hi, fun A hA => ⟨A, hA, rfl⟩, fun A b hA hb => by
      show ent M A b = sumN n (fun i => if i = A then ent M i b else 0)
      rw [← sumN_one hA fun i => ent M i b]
      exact sumN_congr fun i _ => by
        by_cases e : i = A
        · rw [if_pos e, if_pos e.symm]
        · rw [if_neg e, if_neg fun e2 => e e2.symm]⟩
  | @step f k N i j hr hij hj hcol ih =>
    have hg : ∀ x, x < n → (if f x = j then i else cnt j (f x)) < k - 1 := fun x hx => by
      have := ih.lt x hx
      split
      · omega
      · exact cnt_lt (by assumption) hj this
    -- the class that place A' stands for
    have hcls : ∀ A' x, x < n → ((if f x = j then i else cnt j (f x)) = A' ↔ f x = skip j A' ∨ (skip j A' = i ∧ f x = j)) := by
      intro A' x hx
      by_cases e : f x = j
      · rw [if_pos e]
        constructor
        · intro h; exact Or.inr ⟨by rw [← h, skip_i hij], e⟩
        · rintro (h | ⟨h, _⟩)
          · exact absurd (h.symm.trans e) (skip_ne j A')
          · have h5 := cnt_skip j A'
            rw [h, cnt_i hij] at h5
            exact h5
      · rw [if_neg e]
        constructor
        · intro h; exact Or.inl (by rw [← h, skip_cnt e])
        · rintro (h | ⟨_, h⟩)
          · rw [h, cnt_skip]
          · exact absurd h e
    refine ⟨⟨tabOf_len _ _ _, fun _ hx => mem_tabOf hx⟩, hg, ?_, ?_⟩
    · intro A' hA
      obtain ⟨x, hx, e⟩ := ih.on (skip j A') (skip_lt hA)
      exact ⟨x, hx, (hcls A' x hx).2 (Or.inl e)⟩
    · intro A' b hA hb
      have hA2 : skip j A' < k := skip_lt hA
      show ent (joinT N i j k) A' (if f b = j then i else cnt j (f b)) = _
      unfold joinT
      rw [ent_tabOf hA (hg b hb)]
      -- the column is that of b's class
      have hc : ∀ C, C < k → ent N C (skip j (if f b = j then i else cnt j (f b))) = cs M n f C b := by
        intro C hC
        by_cases e : f b = j
        · rw [if_pos e, skip_i hij, hcol C hC, ← e]
          exact ih.val C b hC hb
        · rw [if_neg e, skip_cnt e]
          exact ih.val C b hC hb
      unfold joinE
      unfold cs
      by_cases e : skip j A' = i
      · rw [if_pos e, hc _ hA2, hc j hj]
        unfold cs
        rw [← sumN_add]
        refine sumN_congr fun x hx => ?_
        have h1 := hcls A' x hx
        by_cases e1 : f x = j
        · have h2 : f x ≠ skip j A' := by rw [e1]; exact fun h => skip_ne j A' h.symm
          rw [if_neg h2, if_pos e1, if_pos (h1.2 (Or.inr ⟨e, e1⟩))]
          omega
        · by_cases e2 : f x = skip j A'
          · rw [if_pos e2, if_neg e1, if_pos (h1.2 (Or.inl e2))]
            omega
          · rw [if_neg e2, if_neg e1, if_neg fun h => (h1.1 h).elim e2 fun h3 => e1 h3.2]
            omega
      · rw [if_neg e, hc _ hA2]
        unfold cs
        refine sumN_congr fun x hx => ?_
        have h1 := hcls A' x hx
        by_cases e2 : f x = skip j A'
        · rw [if_pos e2, if_pos (h1.2 (Or.inl e2))]
        · rw [if_neg e2, if_neg fun h => (h1.1 h).elim e2 fun h3 => e h3.1]
/-- No two columns are alike. -/
def Nrm (k : Nat) (N : Mx) : Prop := ∀ x y, x < k → y < k → (∀ A, A < k → ent N A x = ent N A y) → x = y
/-- What joins take together is together in what cannot be joined further. -/
theorem Reach.ker {M : Mx} {n : Nat} (hM : Sq n M) {f : Nat → Nat} {k : Nat} {N : Mx} (h : Reach M n f k N) {g : Nat → Nat} {k' : Nat} {L : Mx} (hg : Quot M n g k' L) (hn : Nrm k' L) :
    ∀ x y, x < n → y < n → f x = f y → g x = g y := by
  induction h with
  | base => intro x y _ _ e; exact congrArg g e
  | @step f k N i j hr hij hj hcol ih =>
    have hq := hr.quot hM
    have key : ∀ x y, x < n → y < n → f x = i → f y = j → g x = g y := by
      intro x y hx hy e1 e2
      refine hn _ _ (hg.lt x hx) (hg.lt y hy) fun A hA => ?_
      rw [hg.val A x hA hx, hg.val A y hA hy]
      have h0 : sumN n (fun z => if g z = A then ent M z x - ent M z y else 0) = 0 :=
        sumN_made (S := fun z => g z = A) hq.lt (t := fun z => ent M z x - ent M z y) (fun C hC => by
          have h1 := hq.val C x hC hx
          have h2 := hq.val C y hC hy
          rw [e1] at h1
          rw [e2] at h2
          have h3 := hcol C hC
          rw [h1, h2] at h3
          unfold cs at h3
          have h4 := sumN_sub n (fun z => if f z = C then ent M z x else 0) (fun z => if f z = C then ent M z y else 0)
          rw [h3] at h4
          rw [show sumN n (fun z => if f z = C then ent M z x - ent M z y else 0) = sumN n (fun z => (if f z = C then ent M z x else 0) - (if f z = C then ent M z y else 0)) from sumN_congr fun z _ => by split <;> omega, h4]
          omega) (fun z z' hz hz' e => by show g z = A ↔ g z' = A; rw [ih z z' hz hz' e])
      unfold cs
      have h4 := sumN_sub n (fun z => if g z = A then ent M z x else 0) (fun z => if g z = A then ent M z y else 0)
      rw [show sumN n (fun z => if g z = A then ent M z x - ent M z y else 0) = sumN n (fun z => (if g z = A then ent M z x else 0) - (if g z = A then ent M z y else 0)) from sumN_congr fun z _ => by split <;> omega, h4] at h0
      omega
    intro x y hx hy e
    have e' : (if f x = j then i else cnt j (f x)) = (if f y = j then i else cnt j (f y)) := e
    by_cases h1 : f x = j <;> by_cases h2 : f y = j
    · exact ih x y hx hy (by rw [h1, h2])
    · rw [if_pos h1, if_neg h2] at e'
      have h3 := skip_cnt h2
      rw [← e', skip_i hij] at h3
      exact (key y x hy hx h3.symm h1).symm
    · rw [if_neg h1, if_pos h2] at e'
      have h3 := skip_cnt h1
      rw [e', skip_i hij] at h3
      exact key x y hx hy h3.symm h2
    · rw [if_neg h1, if_neg h2] at e'
      have h3 := skip_cnt h1
      rw [e', skip_cnt h2] at h3
      exact ih x y hx hy h3.symm
/-- Alike, in any numbering. -/
def Alk (k : Nat) (N : Mx) (k' : Nat) (L : Mx) : Prop := k = k' ∧ ∃ p q, Inv k p q ∧ ∀ A B, A < k → B < k → ent N A B = ent L (p A) (p B)
theorem Quot.alike {M : Mx} {n : Nat} {f g : Nat → Nat} {k k' : Nat} {N L : Mx} (hf : Quot M n f k N) (hg : Quot M n g k' L) (h1 : ∀ x y, x < n → y < n → f x = f y → g x = g y) (h2 : ∀ x y, x < n → y < n → g x = g y → f x = f y) : Alk k N k' L := by
  have hrep : ∀ A, ∃ x, A < k → x < n ∧ f x = A := fun A => by
    by_cases h : A < k
    · obtain ⟨x, hx⟩ := hf.on A h
      exact ⟨x, fun _ => hx⟩
    · exact ⟨0, fun h' => absurd h' h⟩
  have hrep' : ∀ A, ∃ x, A < k' → x < n ∧ g x = A := fun A => by
    by_cases h : A < k'
    · obtain ⟨x, hx⟩ := hg.on A h
      exact ⟨x, fun _ => hx⟩
    · exact ⟨0, fun h' => absurd h' h⟩
  obtain ⟨r, hr⟩ := Classical.axiomOfChoice hrep
  obtain ⟨s, hs⟩ := Classical.axiomOfChoice hrep'
  have hp : ∀ A, A < k → g (r A) < k' ∧ f (s (g (r A))) = A := fun A hA => by
    have h3 := hr A hA
    have h4 := hg.lt _ h3.1
    have h5 := hs _ h4
    exact ⟨h4, by rw [h2 _ _ h5.1 h3.1 h5.2, h3.2]⟩
  have hq : ∀ A, A < k' → f (s A) < k ∧ g (r (f (s A))) = A := fun A hA => by
    have h3 := hs A hA
    have h4 := hf.lt _ h3.1
    have h5 := hr _ h4
    exact ⟨h4, by rw [h1 _ _ h5.1 h3.1 h5.2, h3.2]⟩
  have hk : k = k' := by
    have a1 := inj_le (n := k) (k := k') (f := fun A => g (r A)) (fun A hA => (hp A hA).1) (fun A B hA hB e => by
      have e' : g (r A) = g (r B) := e
      rw [← (hp A hA).2, e', (hp B hB).2])
    have a2 := inj_le (n := k') (k := k) (f := fun A => f (s A)) (fun A hA => (hq A hA).1) (fun A B hA hB e => by
      have e' : f (s A) = f (s B) := e
      rw [← (hq A hA).2, e', (hq B hB).2])
    omega
  subst hk
  refine ⟨rfl, fun A => g (r A), fun A => f (s A), ⟨hp, hq⟩, fun A B hA hB => ?_⟩
  have h3 := hr A hA
  have h4 := hr B hB
  have e1 := hf.val A (r B) hA h4.1
  rw [h4.2] at e1
  rw [e1]
  show _ = ent L (g (r A)) (g (r B))
  rw [hg.val _ _ (hp A hA).1 h4.1]
  unfold cs
  refine sumN_congr fun x hx => ?_
  by_cases e : f x = A
  · rw [if_pos e, if_pos (h1 _ _ hx h3.1 (by rw [e, h3.2]))]
  · rw [if_neg e, if_neg fun e2 => e (by rw [h2 _ _ hx h3.1 e2, h3.2])]
/-- Two ways of joining until nothing is left to join end alike. -/
theorem Reach.conf {M : Mx} {n : Nat} (hM : Sq n M) {f g : Nat → Nat} {k k' : Nat} {N L : Mx} (hf : Reach M n f k N) (hg : Reach M n g k' L) (hN : Nrm k N) (hL : Nrm k' L) : Alk k N k' L :=
  (hf.quot hM).alike (hg.quot hM) (hf.ker hM (hg.quot hM) hL) (hg.ker hM (hf.quot hM) hN)
/-- The same over another numbering. -/
theorem Quot.rename {c d : Mx} {n : Nat} {p q : Nat → Nat} (hi : Inv n p q) (he : ∀ i j, i < n → j < n → ent c i j = ent d (p i) (p j)) {g : Nat → Nat} {k : Nat} {L : Mx} (h : Quot d n g k L) : Quot c n (fun x => g (p x)) k L := by
  refine ⟨h.sq, fun i hi' => h.lt _ (hi.1 i hi').1, fun A hA => ?_, fun A b hA hb => ?_⟩
  · obtain ⟨x, hx, e⟩ := h.on A hA
    exact ⟨q x, (hi.2 x hx).1, by show g (p (q x)) = A; rw [(hi.2 x hx).2, e]⟩
  · show ent L A (g (p b)) = _
    rw [h.val A (p b) hA (hi.1 b hb).1]
    unfold cs
    rw [← sumN_perm hi fun i => if g i = A then ent d i (p b) else 0]
    refine sumN_congr fun x hx => ?_
    rw [he x b hx hb]
theorem Reach.rename_ker {c d : Mx} {n : Nat} (hc : Sq n c) (hd : Sq n d) {p q : Nat → Nat} (hi : Inv n p q) (he : ∀ i j, i < n → j < n → ent c i j = ent d (p i) (p j)) {f g : Nat → Nat} {k k' : Nat} {N L : Mx}
    (hf : Reach c n f k N) (hg : Reach d n g k' L) (hN : Nrm k N) (hL : Nrm k' L) : Alk k N k' L := by
  have h1 := (hg.quot hd).rename hi he
  have he' : ∀ i j, i < n → j < n → ent d i j = ent c (q i) (q j) := fun i j hi' hj => by
    rw [he _ _ (hi.2 i hi').1 (hi.2 j hj).1, (hi.2 i hi').2, (hi.2 j hj).2]
  have h2 := (hf.quot hc).rename hi.symm he'
  refine (hf.quot hc).alike h1 (hf.ker hc h1 hL) fun x y hx hy e => ?_
  have h3 := hg.ker hd h2 hN (p x) (p y) (hi.1 x hx).1 (hi.1 y hy).1 e
  have h4 : f (q (p x)) = f (q (p y)) := h3
  rw [(hi.1 x hx).2, (hi.1 y hy).2] at h4
  exact h4
end Go.Proofs.Ytlkgkfgpnnahdaa
end

section
/-
  Joining until nothing is left: what the code's own loop reaches, and that it is fully joined where the numbers are small.
-/
namespace Go.Proofs.Ytlkgkfgpnnahdaa
open Go.RowKit Go.Deep Go.Sd
theorem allF_of {f : Nat → Bool} : ∀ {m k : Nat}, (∀ j, j < m → f (k + j) = true) → allF f m k = true
  | 0, _, _ => rfl
  | m + 1, k, h => by
    have h0 := h 0 (by omega)
    rw [Nat.add_zero] at h0
    show (if f k = true then allF f m (k + 1) else false) = true
    rw [if_pos h0]
    exact allF_of fun j hj => by
      have := h (j + 1) (by omega)
      rw [show k + 1 + j = k + (j + 1) by omega]
      exact this
theorem allF_get {f : Nat → Bool} : ∀ {m k : Nat}, allF f m k = true → ∀ j, j < m → f (k + j) = true
  | 0, _, _, j, hj => by omega
  | m + 1, k, h, j, hj => by
    have h1 : (if f k = true then allF f m (k + 1) else false) = true := h
    by_cases hk : f k = true
    · rw [if_pos hk] at h1
      cases j with
      | zero => exact hk
      | succ j => rw [show k + (j + 1) = k + 1 + j by omega]; exact allF_get h1 j (by omega)
    · rw [if_neg hk] at h1; cases h1
theorem colsEq_iff {m : Mx} {i j n : Nat} : colsEq m i j n = true ↔ ∀ k, k < n → ent m k i = ent m k j := by
  unfold colsEq
  constructor
  · intro h k hk
    have := allF_get h k hk
    rw [Nat.zero_add] at this
    exact of_decide_eq_true this
  · intro h
    exact allF_of fun j hj => by rw [Nat.zero_add]; exact decide_eq_true (h j hj)
theorem joinOk_nat {m : Mx} {i j : Nat} : joinOk m i j = true ↔ isMat m = true ∧ (i < j ∧ j < m.length) ∧ (∀ k, k < m.length → ent m k i = ent m k j) ∧ isMat (joinT m i j m.length) = true := by
  unfold joinOk
  rw [Bool.and_eq_true, Bool.and_eq_true, Bool.and_eq_true, decide_eq_true_eq, Int.toNat_natCast, Int.toNat_natCast, colsEq_iff]
  constructor
  · rintro ⟨⟨⟨h1, h2⟩, h3⟩, h4⟩
    exact ⟨h1, ⟨by omega, by omega⟩, h3, h4⟩
  · rintro ⟨h1, h2, h3, h4⟩
    exact ⟨⟨⟨h1, by omega⟩, h3⟩, h4⟩
theorem rowF_some {m : Mx} {i : Nat} {x : Mx} : ∀ {g j : Nat}, rowF m i g j = some x → ∃ j', j ≤ j' ∧ j' < j + g ∧ joinOk m i j' = true ∧ x = joinV m i j'
  | 0, _, h => by cases h
  | g + 1, j, h => by
    unfold rowF at h
    by_cases e : joinOk m i j = true
    · rw [if_pos e] at h
      exact ⟨j, Nat.le_refl _, by omega, e, (Option.some.inj h).symm⟩
    · rw [if_neg e] at h
      obtain ⟨j', h1, h2, h3⟩ := rowF_some h
      exact ⟨j', by omega, by omega, h3⟩
theorem rowF_none {m : Mx} {i : Nat} : ∀ {g j : Nat}, rowF m i g j = none → ∀ j', j ≤ j' → j' < j + g → ¬ joinOk m i j' = true
  | 0, _, _, j', h1, h2 => by omega
  | g + 1, j, h, j', h1, h2 => by
    unfold rowF at h
    by_cases e : joinOk m i j = true
    · rw [if_pos e] at h; cases h
    · rw [if_neg e] at h
      by_cases e2 : j' = j
      · rw [e2]; exact e
      · exact rowF_none h j' (by omega) (by omega)
theorem firstF_get {m : Mx} {x : Mx} : ∀ {g i : Nat}, firstF m g i = some x → ∃ i' j' : Nat, i ≤ i' ∧ joinOk m i' j' = true ∧ x = joinV m i' j'
  | 0, _, h => by cases h
  | g + 1, i, h => by
    cases e : rowF m i (m.length - (i + 1)) (i + 1) with
    | some y =>
      rw [firstF_some e] at h
      obtain ⟨j', _, _, h3, h4⟩ := rowF_some e
      exact ⟨i, j', Nat.le_refl _, h3, by rw [← Option.some.inj h, h4]⟩
    | none =>
      rw [firstF_none e] at h
      obtain ⟨i', j', h1, h2⟩ := firstF_get h
      exact ⟨i', j', by omega, h2⟩
theorem firstF_no {m : Mx} : ∀ {g i : Nat}, firstF m g i = none → ∀ i' j' : Nat, i ≤ i' → i' < i + g → i' < j' → j' < m.length → ¬ joinOk m i' j' = true
  | 0, _, _, i', j', h1, h2, _, _ => by omega
  | g + 1, i, h, i', j', h1, h2, h3, h4 => by
    cases e : rowF m i (m.length - (i + 1)) (i + 1) with
    | some y => rw [firstF_some e] at h; cases h
    | none =>
      rw [firstF_none e] at h
      by_cases e2 : i' = i
      · subst e2
        exact rowF_none e j' (by omega) (by omega)
      · exact firstF_no h i' j' (by omega) (by omega) h3 h4
theorem firstJ_get {m x : Mx} (h : firstJ m = some x) : ∃ i j, i < j ∧ j < m.length ∧ (∀ k, k < m.length → ent m k i = ent m k j) ∧ x = joinT m i j m.length ∧ isMat x = true := by
  obtain ⟨i, j, _, h1, h2⟩ := firstF_get h
  have h3 := joinOk_nat.1 h1
  unfold joinV at h2
  rw [if_pos h1, Int.toNat_natCast, Int.toNat_natCast] at h2
  exact ⟨i, j, h3.2.1.1, h3.2.1.2, h3.2.2.1, h2, by rw [h2]; exact h3.2.2.2⟩
theorem firstJ_no {m : Mx} (h : firstJ m = none) {i j : Nat} (hij : i < j) (hj : j < m.length) : ¬ joinOk m i j = true :=
  firstF_no h i j (by omega) (by omega) hij hj
/-- The loop's end is reached by joins, and nothing is left for the code to join. -/
theorem joinIter_reach {M : Mx} {n : Nat} (hM : Sq n M) : ∀ (g : Nat) {f : Nat → Nat} {k : Nat} {N : Mx}, Reach M n f k N → isMat N = true → k ≤ g → ∃ f' k', Reach M n f' k' (joinIter g N) ∧ isMat (joinIter g N) = true ∧ firstJ (joinIter g N) = none
  | 0, f, k, N, hr, hm, hg => by
    have h1 := (hr.quot hM).sq.1
    have h2 := (isMat_sq hm).2
    omega
  | g + 1, f, k, N, hr, hm, hg => by
    have hl := (hr.quot hM).sq.1
    cases e : firstJ N with
    | none =>
      rw [joinIter_none e]
      exact ⟨f, k, hr, hm, e⟩
    | some x =>
      rw [joinIter_some e]
      obtain ⟨i, j, h1, h2, h3, h4, h5⟩ := firstJ_get e
      rw [hl] at h2 h3 h4
      subst h4
      exact joinIter_reach hM g (hr.step h1 h2 h3) h5 (by omega)
/-- Numbers so small that no join is ever held up. -/
def Bdd (M : Mx) (n : Nat) : Prop := (∀ i b, i < n → b < n → 0 ≤ ent M i b) ∧ n ≤ 9 ∧ ((∀ b, b < n → sumN n (fun i => ent M i b) ≤ 1000000) ∨ ∃ v, ∀ i b, i < n → b < n → (i ≠ v ∨ b ≠ v) → ent M i b ≤ 9)
theorem cs_le {M : Mx} {n : Nat} (h0 : ∀ i b, i < n → b < n → 0 ≤ ent M i b) (f : Nat → Nat) (A : Nat) {b : Nat} (hb : b < n) : 0 ≤ cs M n f A b ∧ cs M n f A b ≤ sumN n (fun i => ent M i b) := by
  unfold cs
  constructor
  · exact sumN_nonneg fun i hi => by
      split
      · exact h0 i b hi hb
      · exact Int.le_refl _
  · exact sumN_le fun i hi => by
      split
      · exact Int.le_refl _
      · exact h0 i b hi hb
theorem sumN_const (n : Nat) (c : Int) : sumN n (fun _ => c) = n * c := by
  induction n with
  | zero => simp [sumN]
  | succ n ih => rw [sumN, ih, Int.natCast_succ, Int.add_mul, Int.one_mul]
theorem isMat_mk9 {k : Nat} {N : Mx} (hs : Sq k N) (h1 : 1 ≤ k) (h9 : k ≤ 9) (h : ∀ A B, A < k → B < k → 0 ≤ ent N A B ∧ ent N A B ≤ 1000000) : isMat N = true := by
  unfold isMat
  rw [Bool.and_eq_true]
  refine ⟨decide_eq_true (by rw [hs.1]; omega), ?_⟩
  rw [List.all_eq_true]
  intro r hr
  obtain ⟨A, hA⟩ := List.getElem?_of_mem hr
  have hA2 := (List.getElem?_eq_some_iff.1 hA).1
  rw [rowOk_yes (by rw [hs.1]; exact hs.2 r hr), List.all_eq_true]
  intro x hx
  obtain ⟨B, hB⟩ := List.getElem?_of_mem hx
  have hB2 := (List.getElem?_eq_some_iff.1 hB).1
  rw [hs.2 r hr] at hB2
  have h2 := h A B (by rw [← hs.1]; exact hA2) hB2
  have h3 : ent N A B = x := by simp [ent, List.getD, hA, hB]
  rw [h3] at h2
  unfold entOk
  exact decide_eq_true h2
theorem isMat_ent {k : Nat} {N : Mx} (hs : Sq k N) (h : isMat N = true) {A B : Nat} (hA : A < k) (hB : B < k) : 0 ≤ ent N A B ∧ ent N A B ≤ 1000000 := by
  obtain ⟨r, hr, hx⟩ := ent_mem hs.2 (by rw [hs.1]; exact hA) hB
  exact isMat_bd h r hr _ hx
/-- Where the numbers are small, what the code cannot join cannot be joined. -/
theorem Bdd.nrm {M : Mx} {n : Nat} (hM : Sq n M) (hb : Bdd M n) {f : Nat → Nat} {k : Nat} {N : Mx} (hr : Reach M n f k N) (hN : isMat N = true) (hf : firstJ N = none) : Nrm k N := by
  have hq := hr.quot hM
  have hk := (isMat_sq hN).2
  rw [hq.sq.1] at hk
  -- one way round is enough
  have key : ∀ x y, x < y → y < k → (∀ A, A < k → ent N A x = ent N A y) → False := by
    intro x y hxy hy hcol
    have hs := hr.step hxy hy hcol
    have hq2 := hs.quot hM
    apply firstJ_no hf hxy (by rw [hq.sq.1]; exact hy)
    rw [joinOk_nat, hq.sq.1]
    refine ⟨hN, ⟨hxy, hy⟩, hcol, ?_⟩
    refine isMat_mk9 hq2.sq (by omega) (by omega) fun A B hA hB => ?_
    obtain ⟨b, hbn, hfb⟩ := hq2.on B hB
    rw [← hfb, hq2.val A b hA hbn]
    generalize hf' : (fun z => if f z = y then x else cnt y (f z)) = f'
    have h1 := cs_le hb.1 f' A hbn
    refine ⟨h1.1, ?_⟩
    rcases hb.2.2 with h2 | ⟨v, h2⟩
    · exact Int.le_trans h1.2 (h2 b hbn)
    · -- at most 81 but for the one great number
      have h3 : sumN n (fun i => if i = v ∧ b = v then 0 else ent M i b) ≤ n * 9 := by
        rw [← sumN_const]
        refine sumN_le fun i hi => ?_
        by_cases e : i = v ∧ b = v
        · rw [if_pos e]; decide
        · rw [if_neg e]
          exact h2 i b hi hbn (by omega)
      have h9 := hb.2.1
      by_cases hbv : b = v
      · subst hbv
        -- the great number is M b b
        have h4 : sumN n (fun i => ent M i b) = sumN n (fun i => if i = b ∧ b = b then 0 else ent M i b) + ent M b b := by
          have h5 := sumN_one hbn fun i => ent M i b
          rw [← h5, ← sumN_add]
          refine sumN_congr fun i _ => ?_
          by_cases e : i = b
          · rw [if_pos ⟨e, rfl⟩, if_pos e.symm]; omega
          · rw [if_neg fun h => e h.1, if_neg fun h => e h.symm]; omega
        -- a class other than b's column: small
        have hsm : ∀ C z, z < n → z ≠ b → cs M n f C z ≤ n * 9 := fun C z hz hzb => by
          refine Int.le_trans (cs_le hb.1 f C hz).2 ?_
          rw [← sumN_const]
          exact sumN_le fun i hi => h2 i z hi hz (Or.inr hzb)
        have hbb : cs M n f (f b) b = ent N (f b) (f b) := (hq.val (f b) b (hq.lt b hbn) hbn).symm
        have hge : ent M b b ≤ cs M n f (f b) b := by
          unfold cs
          have h6 := sumN_term hbn (f := fun i => if f i = f b then ent M i b else 0) fun i hi => by
            split
            · exact hb.1 i b hi hbn
            · exact Int.le_refl _
          rw [if_pos rfl] at h6
          exact h6
        by_cases hx : f b = x
        · obtain ⟨z, hz, ez⟩ := hq.on y hy
          have h7 := hq.val x z (by omega) hz
          rw [ez, ← hcol x (by omega), ← hx, ← hbb, hx] at h7
          rw [hx] at hge
          have h8 := hsm x z hz (fun e => by rw [e, hx] at ez; omega)
          omega
        · by_cases hy2 : f b = y
          · obtain ⟨z, hz, ez⟩ := hq.on x (by omega)
            have h7 := hq.val y z hy hz
            rw [ez, hcol y hy, ← hy2, ← hbb, hy2] at h7
            rw [hy2] at hge
            have h8 := hsm y z hz (fun e => by rw [e, hy2] at ez; omega)
            omega
          · -- b's class stays as it was
            by_cases hA2 : f' b = A
            · have h7 : cs M n f' A b = cs M n f (f b) b := by
                unfold cs
                refine sumN_congr fun i hi => ?_
                have h8 : f' i = A ↔ f i = f b := by
                  rw [← hA2, ← hf']
                  show ((if f i = y then x else cnt y (f i)) = if f b = y then x else cnt y (f b)) ↔ _
                  rw [if_neg hy2]
                  constructor
                  · intro h
                    by_cases e : f i = y
                    · rw [if_pos e] at h
                      have := skip_cnt hy2
                      rw [← h, skip_i hxy] at this
                      exact absurd this.symm hx
                    · rw [if_neg e] at h
                      rw [← skip_cnt e, h, skip_cnt hy2]
                  · intro h
                    rw [h, if_neg hy2]
                by_cases e : f' i = A
                · rw [if_pos e, if_pos (h8.1 e)]
                · rw [if_neg e, if_neg fun h => e (h8.2 h)]
              rw [h7, hbb]
              exact (isMat_ent hq.sq hN (hq.lt b hbn) (hq.lt b hbn)).2
            · have h7 : cs M n f' A b ≤ sumN n (fun i => if i = b ∧ b = b then 0 else ent M i b) := by
                unfold cs
                refine sumN_le fun i hi => ?_
                by_cases e : f' i = A
                · rw [if_pos e, if_neg fun h => hA2 (by rw [← h.1]; exact e)]
                  exact Int.le_refl _
                · rw [if_neg e]
                  split
                  · exact Int.le_refl _
                  · exact hb.1 i b hi hbn
              omega
      · have h5 : sumN n (fun i => if i = v ∧ b = v then 0 else ent M i b) = sumN n (fun i => ent M i b) := sumN_congr fun i _ => if_neg fun h => hbv h.2
        rw [h5] at h3
        omega
  intro x y hx hy h
  rcases Nat.lt_trichotomy x y with h1 | h1 | h1
  · exact (key x y h1 hy h).elim
  · exact h1
  · exact (key y x h1 hx fun A hA => (h A hA).symm).elim
end Go.Proofs.Ytlkgkfgpnnahdaa
end
