/-
  Texts of this claim joined: laws for its walks, contracts of the functions that the law reaches.
-/
import Derived.Test.YtlkgkfgpnnahdaaGreatFnStepsM16
import Derived.Test.YtlkgkfgpnnahdaaGreatFnStepsM13
import Derived.Test.YtlkgkfgpnnahdaaGreatFnStepsM10
import Derived.Test.YtlkgkfgpnnahdaaGreatFnStepsM12
import Derived.Test.YtlkgkfgpnnahdaaGreatFnStepsM9
import Derived.Test.YtlkgkfgpnnahdaaGreatFnStepsM4
import Derived.Deep.DeepCutAuto
import Derived.Test.YtlkgkfgpnnahdaaGreatRows
import Derived.Test.YtlkgkfgpnnahdaaGreatFnStepsM1
import Derived.Test.YtlkgkfgpnnahdaaGreatFnStepsM3
section
/-
  Elementary steps, lags, splits, joins and numberings keep the traces of the powers.
-/
namespace Go.Sd
/-- A = R S and B = S R. -/
def StepF (n k : Nat) (A B : MF) : Prop := ∃ R S : MF, EqF n n A (mulF k R S) ∧ EqF k k B (mulF n S R)
def tpF (A : MF) : MF := fun i j => A j i
theorem mulF_tp (k : Nat) (A B : MF) : tpF (mulF k A B) = mulF k (tpF B) (tpF A) := by
  funext i j
  exact sumN_congr fun x _ => Int.mul_comm _ _
theorem StepF.tp {n k : Nat} {A B : MF} (h : StepF n k A B) : StepF n k (tpF A) (tpF B) := by
  obtain ⟨R, S, h1, h2⟩ := h
  refine ⟨tpF S, tpF R, fun i j hi hj => ?_, fun i j hi hj => ?_⟩
  · rw [← mulF_tp]; exact h1 j i hj hi
  · rw [← mulF_tp]; exact h2 j i hj hi
theorem StepF.congr {n k : Nat} {A B A' B' : MF} (h : StepF n k A B) (ha : EqF n n A' A) (hb : EqF k k B' B) : StepF n k A' B' := by
  obtain ⟨R, S, h1, h2⟩ := h
  exact ⟨R, S, ha.trans h1, hb.trans h2⟩
theorem StepF.tr {n k : Nat} {A B : MF} (h : StepF n k A B) (m : Nat) : trF n (powF n A (m + 1)) = trF k (powF k B (m + 1)) := by
  obtain ⟨R, S, h1, h2⟩ := h
  refine lag_tr (l := 1) (R := R) (S := S) ?_ ((one_mulF A).trans h1) ((one_mulF B).trans h2) m
  have e1 : EqF n k (mulF n A R) (mulF n (mulF k R S) R) := h1.mul (EqF.refl _ _ _)
  have e2 : EqF n k (mulF k R (mulF n S R)) (mulF k R B) := (EqF.refl _ _ _).mul h2.symm
  rw [mulF_assoc] at e1
  exact e1.trans e2
end Go.Sd
namespace Go.Proofs.YtlkgkfgpnnahdaaGreat
open Go.RowKit Go.Deep Go.Sd
/-- All powers have the same traces. -/
def Tr1 (a b : List (List Int)) : Prop := ∀ m : Nat, trP a (m + 1) = trP b (m + 1)
theorem Tr1.refl (a : List (List Int)) : Tr1 a a := fun _ => rfl
theorem Tr1.symm {a b : List (List Int)} (h : Tr1 a b) : Tr1 b a := fun m => (h m).symm
theorem Tr1.trans {a b c : List (List Int)} (h : Tr1 a b) (g : Tr1 b c) : Tr1 a c := fun m => (h m).trans (g m)
theorem Tr1.same {a b : List (List Int)} (h : Tr1 a b) : SameTr a b := ⟨0, fun m hm => by
  obtain ⟨j, rfl⟩ : ∃ j, m = j + 1 := ⟨m - 1, by omega⟩
  exact h j⟩
theorem Tr1.of {a b : List (List Int)} {n k : Nat} (ha : a.length = n) (hb : b.length = k) (h : StepF n k (ent a) (ent b)) : Tr1 a b := fun m => by
  unfold trP
  rw [ha, hb]
  exact h.tr m
theorem dotU_mulF (a b : List (List Int)) (i j : Nat) : ∀ k, dotU a b i j k = mulF k (ent a) (ent b) i j
  | 0 => rfl
  | k + 1 => by
    show dotU a b i j k + ent a i k * ent b k j = mulF k (ent a) (ent b) i j + ent a i k * ent b k j
    rw [dotU_mulF a b i j k]
theorem prodT_ent (a b : List (List Int)) (p q r : Nat) : EqF p r (ent (prodT a b p q r)) (mulF q (ent a) (ent b)) := fun i j hi hj => by
  unfold prodT
  rw [ent_tabOf hi hj, dotU_mulF]
/-- What is told by TableTimes. -/
theorem ttOk_get {a b : List (List Int)} (h : ttOk a b = true) : (∀ r, r ∈ a → r.length = b.length) ∧ 1 ≤ a.length ∧ 1 ≤ b.length ∧ ∃ k, (∀ r, r ∈ b → r.length = k) ∧ (b.headD []).length = k ∧ ttV a b = prodT a b a.length b.length k := by
  have h0 := h
  unfold ttOk at h
  simp only [Bool.and_eq_true] at h
  have h1 := isTab_sq h.1.2
  have h2 := isTab_sq h.2
  exact ⟨h1.1, h1.2.2.1, h2.2.2.1, _, h2.1, rfl, by unfold ttV; rw [if_pos h0]⟩
theorem prodIs_get {R S c : List (List Int)} (h : prodIs R S c = true) : ttOk R S = true ∧ ttV R S = c := by
  unfold prodIs at h
  simpa using h
theorem row_ex {a : List (List Int)} (h : 1 ≤ a.length) : ∃ r, r ∈ a := ⟨a[0], List.getElem_mem h⟩
theorem step_of {a b R S : List (List Int)} (_ha : isMat a = true) (_hb : isMat b = true) (h1 : prodIs R S a = true) (h2 : prodIs S R b = true) : StepF a.length b.length (ent a) (ent b) := by
  obtain ⟨o1, e1⟩ := prodIs_get h1
  obtain ⟨o2, e2⟩ := prodIs_get h2
  obtain ⟨r1, p1, -, k, c1, -, e3⟩ := ttOk_get o1
  obtain ⟨r2, p2, -, l, c2, -, e4⟩ := ttOk_get o2
  obtain ⟨x, hx⟩ := row_ex p1
  obtain ⟨y, hy⟩ := row_ex p2
  have hk : k = R.length := by rw [← c1 y hy, r2 y hy]
  have hl : l = S.length := by rw [← c2 x hx, r1 x hx]
  rw [e1, hk] at e3
  rw [e2, hl] at e4
  have la : a.length = R.length := by rw [e3]; exact tabOf_len _ _ _
  have lb : b.length = S.length := by rw [e4]; exact tabOf_len _ _ _
  refine ⟨ent R, ent S, ?_, ?_⟩
  · rw [la, lb]
    have h := prodT_ent R S R.length S.length R.length
    rw [← e3] at h
    exact h
  · rw [la, lb]
    have h := prodT_ent S R S.length R.length S.length
    rw [← e4] at h
    exact h
theorem stepM_tr {a b : List (List Int)} {x : Tb × Tb} (h : stepM a b x = true) : Tr1 a b := by
  unfold stepM at h
  simp only [Bool.and_eq_true] at h
  exact Tr1.of rfl rfl (step_of h.1 h.2.1 h.2.2.2.2.1 h.2.2.2.2.2)
theorem stepM_turn (a b : List (List Int)) (x : Tb × Tb) : stepM a b x = stepM b a (x.2, x.1) := by
  unfold stepM
  show (isMat a && (isMat b && (countM x.1 && (countM x.2 && (prodIs x.1 x.2 a && prodIs x.2 x.1 b))))) = (isMat b && (isMat a && (countM x.2 && (countM x.1 && (prodIs x.2 x.1 b && prodIs x.1 x.2 a)))))
  generalize isMat a = p1
  generalize isMat b = p2
  generalize countM x.1 = p3
  generalize countM x.2 = p4
  generalize prodIs x.1 x.2 a = p5
  generalize prodIs x.2 x.1 b = p6
  ac_rfl
theorem stepM_small {a b : List (List Int)} {x : Tb × Tb} (h : stepM a b x = true) (ha : smallM a = true) (hb : smallM b = true) : turnedP a = turnedP b := turned_same ha hb (stepM_tr h).same
/-! Powers. -/
theorem unit_ent (n : Nat) : EqF n n (ent (unitT n)) (fun i j => if i = j then 1 else 0) := fun i j hi hj => by
  show ent (unitT n) i j = if i = j then 1 else 0
  unfold unitT unitF
  rw [ent_tabOf hi hj]
  by_cases e : i = j
  · rw [if_pos ⟨e, hi⟩, if_pos e]
  · rw [if_neg fun h => e h.1, if_neg e]
theorem mulV_ent {o m : List (List Int)} {L : Nat} (ho : o.length = L) (h : mulOk o m = true) : EqF L L (ent (mulV o m)) (mulF L (ent o) (ent m)) ∧ (mulV o m).length = L := by
  unfold mulV
  rw [if_pos h, ho]
  exact ⟨prodT_ent _ _ _ _ _, tabOf_len _ _ _⟩
theorem powR_ent {m : List (List Int)} {L : Nat} (hm : m.length = L) : ∀ (k : Nat) (o : List (List Int)), o.length = L → (powR m k o).2 = true → EqF L L (ent (powR m k o).1) (mulF L (ent o) (powF L (ent m) k)) ∧ (powR m k o).1.length = L
  | 0, o, ho, _ => ⟨(mulF_one (ent o)).symm, ho⟩
  | k + 1, o, ho, h => by
    unfold powR at h ⊢
    split at h
    · rename_i hok
      rw [if_pos hok]
      obtain ⟨e1, l1⟩ := mulV_ent ho hok
      obtain ⟨e2, l2⟩ := powR_ent hm k (mulV o m) l1 h
      refine ⟨e2.trans ((e1.mul (EqF.refl L L _)).trans ?_), l2⟩
      rw [mulF_assoc]
      refine (EqF.refl L L _).mul ?_
      have e3 := powF_add (n := L) (ent m) 1 k
      rw [show 1 + k = k + 1 by omega] at e3
      exact ((one_mulF (ent m)).symm.mul (EqF.refl L L _)).trans e3.symm
    · cases h
theorem pwV_ent {m : List (List Int)} {n : Int} (h : pwOk m n = true) : EqF m.length m.length (ent (pwV m n)) (powF m.length (ent m) n.toNat) ∧ (pwV m n).length = m.length := by
  have h0 := h
  unfold pwOk at h
  simp only [Bool.and_eq_true] at h
  unfold pwV
  rw [if_pos h0]
  obtain ⟨e1, l1⟩ := powR_ent (L := m.length) rfl n.toNat (unitT m.length) (tabOf_len _ _ _) h.2
  exact ⟨e1.trans (((unit_ent m.length).mul (EqF.refl m.length m.length _)).trans (one_mulF _)), l1⟩
/-! Lags. -/
structure LagP (a b : List (List Int)) (x : Tb × Tb) (n : Int) : Prop where
  ma : isMat a = true
  mb : isMat b = true
  n1 : 1 ≤ n ∧ n ≤ 5
  r0 : countM x.1 = true
  s0 : countM x.2 = true
  pa : pwOk a n = true
  pb : pwOk b n = true
  ar : ttOk a x.1 = true
  rb : ttOk x.1 b = true
  sa : ttOk x.2 a = true
  bs : ttOk b x.2 = true
  rs : ttOk x.1 x.2 = true
  sr : ttOk x.2 x.1 = true
  e1 : ttV a x.1 = ttV x.1 b
  e2 : ttV x.2 a = ttV b x.2
  e3 : ttV x.1 x.2 = pwV a n
  e4 : ttV x.2 x.1 = pwV b n
theorem lagM_iff {a b : List (List Int)} {x : Tb × Tb} {n : Int} : lagM a b x n = true ↔ LagP a b x n := by
  rw [lagM_spec]
  simp only [Bool.and_eq_true, decide_eq_true_eq]
  constructor
  · rintro ⟨h1, h2, h3, h4, h5, h6, h7, h8, h9, h10, h11, h12, h13, h14, h15, h16, h17⟩
    exact ⟨h1, h2, h5, h3, h4, h12, h13, h6, h7, h8, h9, h10, h11, h14, h15, h16, h17⟩
  · intro h
    exact ⟨h.ma, h.mb, h.r0, h.s0, h.n1, h.ar, h.rb, h.sa, h.bs, h.rs, h.sr, h.pa, h.pb, h.e1, h.e2, h.e3, h.e4⟩
theorem lagM_turn {a b : List (List Int)} {x : Tb × Tb} {n : Int} (h : lagM a b x n = true) : lagM b a (x.2, x.1) n = true := by
  have h := lagM_iff.1 h
  exact lagM_iff.2 ⟨h.mb, h.ma, h.n1, h.s0, h.r0, h.pb, h.pa, h.bs, h.sa, h.rb, h.ar, h.sr, h.rs, h.e2.symm, h.e1.symm, h.e4, h.e3⟩
theorem lagM_tr {a b : List (List Int)} {x : Tb × Tb} {n : Int} (h : lagM a b x n = true) : SameTr a b := by
  have h := lagM_iff.1 h
  have sa := isMat_sq h.ma
  have sb := isMat_sq h.mb
  obtain ⟨ra, -, -, k1, c1, -, v1⟩ := ttOk_get h.ar
  obtain ⟨rr, -, -, k2, c2, -, v2⟩ := ttOk_get h.rb
  obtain ⟨rs, pr, -, k3, c3, -, v3⟩ := ttOk_get h.rs
  obtain ⟨rt, ps, -, k4, c4, -, v4⟩ := ttOk_get h.sr
  obtain ⟨xa, hxa⟩ := row_ex sa.2.1
  obtain ⟨xb, hxb⟩ := row_ex sb.2.1
  obtain ⟨xr, hxr⟩ := row_ex pr
  obtain ⟨xs, hxs⟩ := row_ex ps
  obtain ⟨n', hn⟩ : ∃ n', n' = a.length := ⟨_, rfl⟩
  obtain ⟨k', hk⟩ : ∃ k', k' = b.length := ⟨_, rfl⟩
  have lr : x.1.length = n' := by rw [hn, ← ra xa hxa, sa.1.2 xa hxa]
  have ls : x.2.length = k' := by rw [hk, ← rr xr hxr, rs xr hxr]
  have hk1 : k1 = k' := by rw [← c1 xr hxr, rr xr hxr, hk]
  have hk2 : k2 = k' := by rw [← c2 xb hxb, sb.1.2 xb hxb, hk]
  have hk3 : k3 = n' := by rw [← c3 xs hxs, rt xs hxs, lr]
  have hk4 : k4 = k' := by rw [← c4 xr hxr, rs xr hxr, ls]
  rw [hk1, lr, ← hn] at v1
  rw [hk2, lr, ← hk] at v2
  rw [hk3, lr, ls] at v3
  rw [hk4, lr, ls] at v4
  refine ⟨n.toNat - 1, fun m hm => ?_⟩
  obtain ⟨j, rfl⟩ : ∃ j, m = j + n.toNat := ⟨m - n.toNat, by have := h.n1; omega⟩
  unfold trP
  rw [← hn, ← hk]
  refine lag_tr (R := ent x.1) (S := ent x.2) ?_ ?_ ?_ j
  · refine (prodT_ent a x.1 n' n' k').symm.trans ?_
    rw [← v1, h.e1, v2]
    exact prodT_ent x.1 b n' k' k'
  · have e := (pwV_ent h.pa).1
    rw [← hn] at e
    refine e.symm.trans ?_
    rw [← h.e3, v3]
    exact prodT_ent x.1 x.2 n' k' n'
  · have e := (pwV_ent h.pb).1
    rw [← hk] at e
    refine e.symm.trans ?_
    rw [← h.e4, v4]
    exact prodT_ent x.2 x.1 k' n' k'
theorem lagM_small {a b : List (List Int)} {x : Tb × Tb} {n : Int} (h : lagM a b x n = true) (ha : smallM a = true) (hb : smallM b = true) : turnedP a = turnedP b := turned_same ha hb (lagM_tr h)
/-! Numberings. -/
theorem alk_tr {a b : List (List Int)} (h : Alk a.length a b.length b) : Tr1 a b := by
  obtain ⟨hl, p, q, hi, he⟩ := h
  refine Tr1.of (n := a.length) rfl hl.symm ?_
  refine ⟨fun i x => if p i = x then 1 else 0, fun x j => ent b x (p j), fun i j hii hj => ?_, fun x y hx hy => ?_⟩
  · show ent a i j = sumN a.length fun x => (if p i = x then 1 else 0) * ent b x (p j)
    rw [he i j hii hj, ← sumN_one (hi.1 i hii).1 fun x => ent b x (p j)]
    refine sumN_congr fun x _ => ?_
    by_cases e : p i = x
    · rw [if_pos e, if_pos e, Int.one_mul]
    · rw [if_neg e, if_neg e, Int.zero_mul]
  · show ent b x y = sumN a.length fun j => ent b x (p j) * (if p j = y then 1 else 0)
    have e1 : ent b x y = ent b x (p (q y)) := by rw [(hi.2 y hy).2]
    rw [e1, ← sumN_one (hi.2 y hy).1 fun j => ent b x (p j)]
    refine sumN_congr fun j hj => ?_
    by_cases e : p j = y
    · rw [if_pos e, if_pos (by rw [← e, (hi.1 j hj).2]), Int.mul_one]
    · rw [if_neg e, if_neg fun e2 => e (by rw [← e2, (hi.2 y hy).2]), Int.mul_zero]
theorem alikeM_tr {a b : List (List Int)} (h : alikeM a b = true) : Tr1 a b := alk_tr (alikeM_iff.1 h).2.2.2
theorem alk_symm {k k' : Nat} {a b : Mx} (h : Alk k a k' b) : Alk k' b k a := by
  obtain ⟨hl, p, q, hi, he⟩ := h
  subst hl
  exact ⟨rfl, q, p, hi.symm, fun A B hA hB => by
    rw [he (q A) (q B) (hi.2 A hA).1 (hi.2 B hB).1, (hi.2 A hA).2, (hi.2 B hB).2]⟩
theorem alikeM_symm (a b : List (List Int)) : alikeM a b = alikeM b a := by
  have key : ∀ a b : List (List Int), alikeM a b = true → alikeM b a = true := fun a b h => by
    obtain ⟨h1, h2, h3, h4⟩ := alikeM_iff.1 h
    exact alikeM_iff.2 ⟨h2, h1, by rw [← h4.1]; exact h3, alk_symm h4⟩
  cases e : alikeM a b with
  | true => exact (key a b e).symm
  | false =>
    cases e2 : alikeM b a with
    | false => rfl
    | true => rw [key b a e2] at e; cases e
/-! Splits and joins. -/
theorem sum_two {n i j : Nat} (hi : i < n) (hj : j < n) (hij : i ≠ j) (F : Nat → Int) : sumN n (fun x => if x = i ∨ x = j then F x else 0) = F i + F j := by
  rw [← sumN_one hi F, ← sumN_one hj F, ← sumN_add]
  refine sumN_congr fun x _ => ?_
  by_cases e1 : x = i
  · rw [if_pos (Or.inl e1), if_pos e1.symm, if_neg (by omega), Int.add_zero]
  · by_cases e2 : x = j
    · rw [if_pos (Or.inr e2), if_neg (by omega), if_pos e2.symm, Int.zero_add]
    · rw [if_neg (by omega), if_neg (by omega), if_neg (by omega), Int.zero_add]
theorem split_step {m : List (List Int)} {I n : Nat} {P : List Int} (hI : I < n) : StepF n (n + 1) (ent m) (ent (splitT m I P n)) := by
  refine ⟨pairE n I, splitR m I P n, fun i j hi hj => ?_, fun i j hi hj => ?_⟩
  · show ent m i j = sumN (n + 1) fun l => pairE n I i l * splitR m I P n l j
    by_cases e : i = I
    · subst e
      have h1 := sum_two (n := n + 1) (i := i) (j := n) (by omega) (by omega) (by omega) fun l => splitR m i P n l j
      rw [show ent m i j = splitR m i P n i j + splitR m i P n n j from by unfold splitR; rw [if_neg (by omega), if_pos rfl, if_pos rfl]; omega, ← h1]
      refine sumN_congr fun l _ => ?_
      unfold pairE
      by_cases e1 : l = i ∨ l = n
      · rw [if_pos e1, if_pos (by omega), Int.one_mul]
      · rw [if_neg e1, if_neg (by omega), Int.zero_mul]
    · have h1 := sumN_one (n := n + 1) (p := i) (by omega) fun l => splitR m I P n l j
      rw [show ent m i j = splitR m I P n i j from by unfold splitR; rw [if_neg (by omega), if_neg e], ← h1]
      refine sumN_congr fun l _ => ?_
      unfold pairE
      by_cases e1 : i = l
      · rw [if_pos e1, if_pos (by omega), Int.one_mul]
      · rw [if_neg e1, if_neg (by omega), Int.zero_mul]
  · show ent (splitT m I P n) i j = sumN n fun l => splitR m I P n i l * pairE n I l j
    have key : ∀ p, p < n → (∀ l, l < n → (pairE n I l j = if p = l then 1 else 0)) → splitR m I P n i p = sumN n fun l => splitR m I P n i l * pairE n I l j := fun p hp h => by
      rw [← sumN_one hp fun l => splitR m I P n i l]
      refine sumN_congr fun l hl => ?_
      rw [h l hl]
      by_cases e : p = l
      · rw [if_pos e, if_pos e, Int.mul_one]
      · rw [if_neg e, if_neg e, Int.mul_zero]
    by_cases e : j < n
    · rw [ent_splitT hi e]
      refine key j e fun l hl => ?_
      unfold pairE
      by_cases e1 : j = l
      · rw [if_pos e1, if_pos (by omega)]
      · rw [if_neg e1, if_neg (by omega)]
    · have hj2 : j = n := by omega
      subst hj2
      have e1 : ent (splitT m I P j) i j = splitR m I P j i I := by
        have e2 : (splitT m I P j).getD i [] = rowOf' j (splitR m I P j i) ++ [splitR m I P j i I] := by rw [List.getD_eq_getElem?_getD, splitT_at hi]; rfl
        unfold ent
        rw [e2, List.getD_eq_getElem?_getD, List.getElem?_append_right (by rw [rowOf_len]; exact Nat.le_refl _), rowOf_len, Nat.sub_self]
        rfl
      rw [e1]
      refine key I hI fun l hl => ?_
      unfold pairE
      by_cases e2 : I = l
      · rw [if_pos e2, if_pos (by omega)]
      · rw [if_neg e2, if_neg (by omega)]
theorem join_step {m : List (List Int)} {i j n : Nat} (hij : i < j) (hj : j < n) (hc : ∀ k, k < n → ent m k i = ent m k j) : StepF n (n - 1) (ent m) (ent (joinT m i j n)) := by
  refine ⟨fun x B => ent m x (skip j B), fun A x => if x = skip j A ∨ (skip j A = i ∧ x = j) then 1 else 0, fun x y hx hy => ?_, fun A B hA hB => ?_⟩
  · show ent m x y = sumN (n - 1) fun A => ent m x (skip j A) * (if y = skip j A ∨ (skip j A = i ∧ y = j) then 1 else 0)
    have key : ∀ p, p < n - 1 → ent m x y = ent m x (skip j p) → (∀ A, A < n - 1 → ((y = skip j A ∨ (skip j A = i ∧ y = j)) ↔ p = A)) → ent m x y = sumN (n - 1) fun A => ent m x (skip j A) * (if y = skip j A ∨ (skip j A = i ∧ y = j) then 1 else 0) := fun p hp he h => by
      rw [he, ← sumN_one hp fun A => ent m x (skip j A)]
      refine sumN_congr fun A hA => ?_
      by_cases e : p = A
      · rw [if_pos e, if_pos ((h A hA).2 e), Int.mul_one]
      · rw [if_neg e, if_neg fun e2 => e ((h A hA).1 e2), Int.mul_zero]
    by_cases e : y = j
    · refine key i (by omega) (by rw [skip_i hij, e]; exact (hc x hx).symm) fun A hA => ?_
      have h1 := skip_ne j A
      have h2 := cnt_skip j A
      have h3 := cnt_i hij
      constructor
      · rintro (h | h)
        · omega
        · rw [h.1, h3] at h2; exact h2
      · intro h
        exact Or.inr ⟨by rw [← h, skip_i hij], e⟩
    · refine key (cnt j y) (cnt_lt e hj hy) (by rw [skip_cnt e]) fun A hA => ?_
      have h2 := cnt_skip j A
      constructor
      · rintro (h | h)
        · rw [h]; exact h2
        · exact absurd h.2 e
      · intro h
        exact Or.inl (by rw [← h, skip_cnt e])
  · show ent (tabOf (n - 1) (n - 1) fun k l => joinE m i j (skip j k) (skip j l)) A B = sumN n fun x => (if x = skip j A ∨ (skip j A = i ∧ x = j) then 1 else 0) * ent m x (skip j B)
    rw [ent_tabOf hA hB]
    unfold joinE
    have h1 := skip_ne j A
    have h2 := skip_lt (j := j) hA
    by_cases e : skip j A = i
    · rw [if_pos e]
      have h3 := sum_two (n := n) (i := i) (j := j) (by omega) hj (by omega) fun x => ent m x (skip j B)
      rw [e, ← h3]
      refine sumN_congr fun x _ => ?_
      by_cases e1 : x = i ∨ x = j
      · rw [if_pos e1, if_pos (by omega), Int.one_mul]
      · rw [if_neg e1, if_neg (by omega), Int.zero_mul]
    · rw [if_neg e, ← sumN_one h2 fun x => ent m x (skip j B)]
      refine sumN_congr fun x _ => ?_
      by_cases e1 : skip j A = x
      · rw [if_pos e1, if_pos (by omega), Int.one_mul]
      · rw [if_neg e1, if_neg (by omega), Int.zero_mul]
theorem turnT_ent (m : List (List Int)) (n : Nat) : EqF n n (ent (turnT m n)) (tpF (ent m)) := fun i j hi hj => by
  unfold turnT
  rw [ent_tabOf hi hj]
  rfl
theorem splitOk_tr {m : List (List Int)} {i : Int} {P : List Int} (h : splitOk m i P = true) : StepF m.length (splitV m i P).length (ent m) (ent (splitV m i P)) := by
  obtain ⟨I, n, -, hn, hI, -, -, e, -, -⟩ := splitOk_of h
  rw [e, splitT_len, hn]
  exact split_step hI
theorem joinOk_get {m : List (List Int)} {i j : Int} (h : joinOk m i j = true) : ∃ I J : Nat, I < J ∧ J < m.length ∧ (∀ k, k < m.length → ent m k I = ent m k J) ∧ joinV m i j = joinT m I J m.length ∧ isMat m = true ∧ isMat (joinT m I J m.length) = true := by
  have h0 := h
  unfold joinOk at h
  simp only [Bool.and_eq_true, decide_eq_true_eq] at h
  refine ⟨i.toNat, j.toNat, by omega, by omega, colsEq_iff.1 h.1.2, by unfold joinV; rw [if_pos h0], h.1.1.1, h.2⟩
theorem joinOk_tr {m : List (List Int)} {i j : Int} (h : joinOk m i j = true) : StepF m.length (joinV m i j).length (ent m) (ent (joinV m i j)) := by
  obtain ⟨I, J, hIJ, hJ, hc, e, -, -⟩ := joinOk_get h
  rw [e, show (joinT m I J m.length).length = m.length - 1 from tabOf_len _ _ _]
  exact join_step hIJ hJ hc
/-- By turning. -/
theorem turn_tr {m x : List (List Int)} (hm : isMat m = true) (h : StepF (turnV m).length x.length (ent (turnV m)) (ent x)) : Tr1 m (turnT x x.length) := by
  have e : turnV m = turnT m m.length := by unfold turnV; rw [if_pos hm]
  rw [e, show (turnT m m.length).length = m.length from tabOf_len _ _ _] at h
  refine Tr1.of (n := m.length) (k := x.length) rfl (tabOf_len _ _ _) (h.tp.congr (fun i j hi hj => ?_) (turnT_ent x x.length))
  exact (turnT_ent m m.length j i hj hi).symm
end Go.Proofs.YtlkgkfgpnnahdaaGreat
end

section
/-
  StepsFrom, the program's.
-/
namespace Go.Proofs.YtlkgkfgpnnahdaaGreat
open Go.RowKit Go.Deep Go.Sd
set_option linter.unusedSimpArgs false
theorem joiO_len {m : Tbl} (h : m.length ≤ 4) (i : Nat) (o : List Tbl) : (joiO m i o).length ≤ o.length + 4 := by
  have h1 := overN_len (f := fun j o => addT o (joinV m i j) (joinOk m i j)) (c := 1) (fun j o => addT_len o _ _) (m.length - (i + 1)) (i + 1) o
  unfold joiO
  omega
theorem joiI_len {m : Tbl} (h : m.length ≤ 4) (i : Nat) (o : List Tbl) : (joiI m i o).length ≤ o.length + 4 := by
  have h1 := overN_len (f := fun j o => addT o (joinInV m i j) (joinInOk m i j)) (c := 1) (fun j o => addT_len o _ _) (m.length - (i + 1)) (i + 1) o
  unfold joiI
  omega
theorem joi_len4 {f : Nat → List Tbl → List Tbl} (h : ∀ i o, (f i o).length ≤ o.length + 4) {n : Nat} {o : List Tbl} (hn : n ≤ 4) : (overN f n 0 o).length ≤ o.length + 16 := by
  have h1 := overN_len h n 0 o
  omega
set_option maxHeartbeats 8000000 in
set_option maxRecDepth 100000 in
theorem impl_StepsFrom_c {w : World} {vm : Value} {m : Tbl} (h : Tab w vm m) :
    Calls Tryz.prog 12 #[vm] w (Makes (OTabs 3 46 24) w (stepsV m)) := by
  have HI := Lib.hid (impl_IsMatrix_c h)
  have Hfr0 := Lib.hid (fun w' (hb : Below w.heap.size w w') => Tab.frame _ _ _ _ h hb)
  obtain ⟨va, vc, rfl, -, -, hva⟩ := h.shape
  have hlen := h.len
  have H0 := Lib.hid (fun (h : isMat m = false) => (show stepsV m = [] from by unfold stepsV; rw [if_neg (by rw [h]; simp)]))
  have H4 := Lib.hid (fun (h : 4 < m.length) => (show stepsV m = [] from by unfold stepsV; rw [if_neg (by rintro ⟨-, h2⟩; omega)]))
  have HE := Lib.hid (fun (hm : isMat m = true) (h4 : m.length ≤ 4) => (show stepsV m = overN (joiI m) m.length 0 (overN (joiO m) m.length 0 (overN (splI m) m.length 0 (overN (splO m) m.length 0 []))) from by unfold stepsV; rw [if_pos ⟨hm, h4⟩]))
  clear h
  cases him : isMat m with
  | false =>
    have HF := Lib.hid (H0.out him)
    rw [him] at HI
    clear H0 H4 HE Hfr0 him hva
    go_enter Tryz.func12, Tryz.ntmps12
    go_wp2_with fail
    (with_reducible refine HI.out.mono ?_)
    rintro e w2 ⟨rfl, rfl⟩
    go_wp2
    go_ret
    exact ⟨_, rfl, by rw [HF.out]; exact New.nil _ _, Below.refl _ _⟩
  | true =>
  rw [him] at HI
  have Him := Lib.hid him
  clear him H0
  by_cases h4 : 4 < m.length
  · have HF := Lib.hid (H4.out h4)
    have h4i : (4 : Int) < (m.length : Int) := by omega
    clear H4 HE Hfr0 hva
    go_enter Tryz.func12, Tryz.ntmps12
    go_wp2_with fail
    (with_reducible refine HI.out.mono ?_)
    rintro e w2 ⟨rfl, rfl⟩
    go_wp2
    go_ret
    exact ⟨_, rfl, by rw [HF.out]; exact New.nil _ _, Below.refl _ _⟩
  have h4i : ¬ ((4 : Int) < (m.length : Int)) := by omega
  have hsq := (isMat_sq Him.out).1
  have hb0 := (isMat_sq Him.out).2
  obtain ⟨vb, vo, rfl, hvb, -⟩ := hva (by omega)
  clear hva hvb
  have HE2 := Lib.hid (HE.out Him.out (by omega))
  have Htn := Lib.hid (show Sq m.length (turnT m m.length) from turnT_sq _ _)
  have Hsq := Lib.hid hsq
  have hsep := (Sep.one (OTabs.kept 3 46 24).held (New.nil (R := OTab 3 46) (e := 24) w.heap.size w)).boxNew (Nat.le_refl _) [.slice none 0 0] 66
  obtain ⟨w1, e1⟩ : ∃ x, x = w.alloc (.cells #[.slice none 0 0] 66) := ⟨_, rfl⟩
  have HS1 := Lib.hid (show Sep w.heap.size w1 (Res.box w.heap.size [.slice none 0 0] :: Res.tabs (.slice none 0 0) [] :: []) from by rw [e1]; exact hsep)
  have hb1 : Below w.heap.size w w1 := by rw [e1]; exact (Below.refl _ _).alloc (Nat.le_refl _) _
  have hz1 := hb1.size
  have e1s := e1.symm
  have Ht := Lib.hid (turned_c (Hfr0.out w1 hb1) hsq (by omega) (by omega))
  have HB1 := Lib.hid hb1
  obtain ⟨n, hn⟩ : ∃ n, n = m.length := ⟨_, rfl⟩
  have Hn := Lib.hid hn
  have hn4 : n ≤ 4 := by omega
  have hn0 : 0 < n := by omega
  have Hfr := Lib.hid (fun w' (hb : Below w.heap.size w w') => (show Tab w' (.slice (some ⟨vb, vo, none⟩) n vc) m from by rw [Hn.out]; exact Hfr0.out w' hb))
  have h4n : ¬ ((4 : Int) < (n : Int)) := by omega
  rw [← hn] at HI Ht HE2 Htn hlen ⊢
  generalize hTT : turnT m n = TT at Ht Htn
  have HTT := Lib.hid hTT
  clear hTT
  obtain ⟨TO, hTO⟩ : ∃ T, T = overN (splO m) n 0 [] := ⟨_, rfl⟩
  obtain ⟨TI, hTI⟩ : ∃ T, T = overN (splI m) n 0 TO := ⟨_, rfl⟩
  rw [← hTO, ← hTI] at HE2
  have HTO := Lib.hid hTO.symm
  have HTIe := Lib.hid hTI.symm
  clear hTO hTI
  clear HE H4 Hfr0 hsq hb0 hsep hb1 e1 h4i h4 hn
  go_enter Tryz.func12, Tryz.ntmps12
  go_wp2_with fail
  (with_reducible refine HI.out.mono ?_)
  rintro e w0 ⟨rfl, rfl⟩
  go_wp2_with fail
  (with_reducible refine Ht.out.mono ?_)
  rintro e w2 ⟨vt, rfl, hnt, hbt⟩
  obtain ⟨ta, tc, rfl, -, -, hta⟩ := (New.tab hnt).shape
  obtain ⟨tb, to', rfl, -, -⟩ := hta (by rw [Htn.out.1]; exact hn0)
  clear hta
  have HS2 := Lib.hid (show Sep w.heap.size w2 (Res.box w.heap.size [.slice none 0 0] :: Res.tabs (.slice none 0 0) [] :: Res.tab (.slice (some ⟨tb, to', none⟩) TT.length tc) TT :: []) from (HS1.out.new (OTab.kept 3 46).held hbt hz1 hnt).back [_, _])
  have HB2 := Lib.hid (HB1.out.trans (hbt.mono hz1))
  have hz2 := HB2.out.size
  have e1 : TT.length = n := Htn.out.1
  rw [e1] at HS2 ⊢
  clear HI Ht hnt hbt HS1 HB1 e1 e1s hz1 w1
  obtain ⟨vt, hvt⟩ : ∃ v : Value, v = .slice (some ⟨tb, to', none⟩) n tc := ⟨_, rfl⟩
  rw [← hvt] at HS2
  have Hvt := Lib.hid hvt
  clear hvt
  go_wp2
  go_loopg [29] n (fun g i wr => ∃ (k : Nat) (L1 : List Tbl) (sl : Value), i = .int .i64 k ∧ k + g = n ∧ L1.length ≤ 0 + 256 * k ∧ Hid (overN (splO m) g k L1 = TO) ∧ Hid (Sep w.heap.size wr (Res.box w.heap.size [sl] :: Res.tabs sl L1 :: Res.tab vt TT :: [])) ∧ Hid (Below w.heap.size w wr))
  case atStart => exact ⟨0, [], _, rfl, by omega, by simp, HTO, HS2, HB2⟩
  case round =>
    clear HTO HS2 HB2 hz2
    obtain ⟨k, L1, sl, rfl, hk, hL1, HT, HS, HBk⟩ := hrel
    obtain ⟨wk, rfl⟩ : ∃ x, x = wr := ⟨_, rfl⟩
    have zk := HBk.out.size
    by_cases hkn : k < n
    · have hki : (k : Int) < (n : Int) := by omega
      obtain ⟨g, rfl⟩ : ∃ x, gk = x + 1 := ⟨gk - 1, by omega⟩
      have hTab := Hfr.out wk HBk.out
      obtain ⟨row, hrow, -⟩ := at_lt (xs := m) (k := k) (by have := Hn.out; omega)
      obtain ⟨b, o, c, ra, rc, hv, hbw, g1, hri⟩ := hTab.rowAt hrow
      simp at hv
      obtain ⟨⟨rfl, rfl⟩, -, rfl⟩ := hv
      have HT2 := Lib.hid (show overN (splO m) g (k + 1) (overP (fun p => (splitV m k p, splitOk m k p)) ((partsV row).drop 0) L1) = TO from by have h : overN (splO m) g (k + 1) (splO m k L1) = TO := HT.out; rw [show splO m k L1 = overP (fun p => (splitV m k p, splitOk m k p)) ((partsV row).drop 0) L1 from by unfold splO; rw [getD_of hrow]; rfl] at h; exact h)
      have HP := Lib.hid (impl_PartsOf_c hri)
      have hpb := (partsV_bd row).1
      generalize row.length = rn at *
      generalize partsV row = P at HT2 HP hpb
      clear hTab hrow hri HT
      go_wp2_with fail
      (with_reducible refine HP.out.mono ?_)
      rintro e w3 ⟨vp, rfl, hnp, hb2⟩
      obtain ⟨pa, pc, rfl, -⟩ := (New.tab hnp).shape
      obtain ⟨pn, hpn⟩ : ∃ pn, pn = P.length := ⟨_, rfl⟩
      have Hpn := Lib.hid hpn
      have HSi := Lib.hid (show Sep w.heap.size w3 (Res.box w.heap.size [sl] :: Res.tabs sl L1 :: Res.tab (.slice pa pn pc) P :: Res.tab vt TT :: []) from by rw [hpn]; exact (HS.out.new (OTab.kept 3 46).held hb2 (by omega) hnp).back [_, _])
      have HBi := Lib.hid (HBk.out.trans (hb2.mono (by omega)))
      rw [← hpn] at hpb ⊢
      clear hpn HP hnp hb2 HS HBk g1 hbw
      go_wp2
      go_loopg [38] pn (fun g2 i wr => ∃ (j : Nat) (L2 : List Tbl) (sl : Value), i = .int .i64 j ∧ j + g2 = pn ∧ L2.length ≤ 0 + 256 * k + j ∧ Hid (overN (splO m) g (k + 1) (overP (fun p => (splitV m k p, splitOk m k p)) (P.drop j) L2) = TO) ∧ Hid (Sep w.heap.size wr (Res.box w.heap.size [sl] :: Res.tabs sl L2 :: Res.tab (.slice pa pn pc) P :: Res.tab vt TT :: [])) ∧ Hid (Below w.heap.size w wr))
      case atStart => exact ⟨0, L1, _, rfl, by omega, by omega, HT2, HSi, HBi⟩
      case round =>
        clear HT2 HSi HBi hL1 zk
        obtain ⟨j, L2, sl, rfl, hj, hL2, HT, HS, HBk⟩ := hrel
        obtain ⟨wj, rfl⟩ : ∃ x, x = wr := ⟨_, rfl⟩
        have zj := HBk.out.size
        by_cases hjp : j < pn
        · have hji : (j : Int) < (pn : Int) := by omega
          have hTab := Hfr.out wj HBk.out
          obtain ⟨q, hp, -⟩ := at_lt (xs := P) (k := j) (by have := Hpn.out; omega)
          have hTp : Tab wj (.slice pa pn pc) P := by obtain ⟨G, h1, -⟩ := HS.out.get (r := Res.tab (.slice pa pn pc) P) (by simp); exact OTab.reads h1
          obtain ⟨b, o, c, ra, rc, hv, hbw, g1, hri⟩ := hTp.rowAt hp
          simp only [Value.slice.injEq] at hv
          obtain ⟨rfl, -, rfl⟩ := hv
          have HT2 := Lib.hid (show overN (splO m) g (k + 1) (overP (fun p => (splitV m k p, splitOk m k p)) (P.drop (j + 1)) (addT L2 (splitV m k q) (splitOk m k q))) = TO from by have h := HT.out; rw [overP_step hp] at h; exact h)
          have hadl := addT_len L2 (splitV m k q) (splitOk m k q)
          have HCs := Lib.hid (impl_SplitOut_c (i := (k : Int)) hTab hri)
          generalize q.length = pl at *
          clear hTp hp hri HT hTab
          have Hsqr := Lib.hid (fun (h : splitOk m k q = true) => splO_sq h)
          generalize splitV m k q = M at HCs HT2 hadl Hsqr
          generalize splitOk m k q = ok at HCs HT2 hadl Hsqr
          go_wp2_with fail
          (with_reducible refine HCs.out.mono ?_)
          rintro e w4 ⟨x, rfl, hnx, hb3⟩
          obtain ⟨xa, xc, rfl, -⟩ := (New.tab hnx).shape
          have hs3 := (HS.out.new (OTab.kept 3 46).held hb3 (by omega) hnx).back [_, _]
          have hz3 := hb3.size
          have HB3 := Lib.hid (HBk.out.trans (hb3.mono (by omega)))
          have HCa := Lib.hid (add_c hs3 (by omega) Hsqr.out (by omega))
          generalize M.length = ml at *
          clear hs3 hnx hb3 HCs HS HBk
          go_wp2_with fail
          (with_reducible refine HCa.out.mono ?_)
          rintro e w5 ⟨rfl, ⟨sl', hs5⟩, hb5⟩
          have HS5 := Lib.hid hs5
          have HB5 := Lib.hid (HB3.out.trans hb5)
          clear hs5 hb5 HCa HB3 Hsqr
          go_wp2
          go_roundg (pn - (j + 1))
          case measure => omega
          case rel => exact ⟨j + 1, _, _, by go_num, by omega, by omega, HT2, HS5, HB5⟩
        · have hji : ¬ ((j : Int) < (pn : Int)) := by omega
          have HTy := Lib.hid (show overN (splO m) g (k + 1) L2 = TO from by have h := HT.out; rw [drop_len (by have := Hpn.out; omega)] at h; exact h)
          have HSy := Lib.hid (show Sep w.heap.size wj (Res.box w.heap.size [sl] :: Res.tabs sl L2 :: Res.tab vt TT :: []) from (HS.out.front [_, _]).tail)
          clear HT HS
          go_wp2
          go_roundg g
          case measure => omega
          case rel => exact ⟨k + 1, L2, sl, by go_num, by omega, by omega, HTy, HSy, HBk⟩
    · have hki : ¬ ((k : Int) < (n : Int)) := by omega
      have hg : gk = 0 := by omega
      have HFO := Lib.hid (show L1 = TO from by have h := HT.out; rw [hg] at h; exact h)
      clear HT hg
      have hL2 : L1.length ≤ 1024 := by omega
      have HTI := Lib.hid (show overN (splI m) n 0 L1 = TI from by rw [HFO.out]; exact HTIe.out)
      clear HFO hL1
      generalize L1 = LA at *
      go_wp2
      go_loopg [54] n (fun g i wr => ∃ (k : Nat) (L1 : List Tbl) (sl : Value), i = .int .i64 k ∧ k + g = n ∧ L1.length ≤ 1024 + 256 * k ∧ Hid (overN (splI m) g k L1 = TI) ∧ Hid (Sep w.heap.size wr (Res.box w.heap.size [sl] :: Res.tabs sl L1 :: Res.tab vt TT :: [])) ∧ Hid (Below w.heap.size w wr))
      case atStart => exact ⟨0, LA, _, rfl, by omega, by omega, HTI, HS, HBk⟩
      case round =>
        clear HTI HS HBk
        obtain ⟨k, L1, sl, rfl, hk, hL1, HT, HS, HBk⟩ := hrel
        obtain ⟨wk, rfl⟩ : ∃ x, x = wr := ⟨_, rfl⟩
        have zk := HBk.out.size
        by_cases hkn : k < n
        · have hki : (k : Int) < (n : Int) := by omega
          obtain ⟨g, rfl⟩ : ∃ x, gk = x + 1 := ⟨gk - 1, by omega⟩
          have hTab := (show Tab wk (.slice (some ⟨tb, to', none⟩) n tc) TT from by obtain ⟨G, h1, -⟩ := HS.out.get (r := Res.tab vt TT) (by simp); rw [← Hvt.out]; exact OTab.reads h1)
          obtain ⟨row, hrow, -⟩ := at_lt (xs := TT) (k := k) (by have := Htn.out.1; omega)
          obtain ⟨b, o, c, ra, rc, hv, hbw, g1, hri⟩ := hTab.rowAt hrow
          simp at hv
          obtain ⟨⟨rfl, rfl⟩, -, rfl⟩ := hv
          have HT2 := Lib.hid (show overN (splI m) g (k + 1) (overP (fun p => (splitInV m k p, splitInOk m k p)) ((partsV row).drop 0) L1) = TI from by have h : overN (splI m) g (k + 1) (splI m k L1) = TI := HT.out; rw [show splI m k L1 = overP (fun p => (splitInV m k p, splitInOk m k p)) ((partsV row).drop 0) L1 from by unfold splI; rw [show turnT m m.length = TT from by rw [← Hn.out]; exact HTT.out, getD_of hrow]; rfl] at h; exact h)
          have HP := Lib.hid (impl_PartsOf_c hri)
          have hpb := (partsV_bd row).1
          generalize row.length = rn at *
          generalize partsV row = P at HT2 HP hpb
          clear hTab hrow hri HT
          go_wp2_with fail
          (with_reducible refine HP.out.mono ?_)
          rintro e w3 ⟨vp, rfl, hnp, hb2⟩
          obtain ⟨pa, pc, rfl, -⟩ := (New.tab hnp).shape
          obtain ⟨pn, hpn⟩ : ∃ pn, pn = P.length := ⟨_, rfl⟩
          have Hpn := Lib.hid hpn
          have HSi := Lib.hid (show Sep w.heap.size w3 (Res.box w.heap.size [sl] :: Res.tabs sl L1 :: Res.tab (.slice pa pn pc) P :: Res.tab vt TT :: []) from by rw [hpn]; exact (HS.out.new (OTab.kept 3 46).held hb2 (by omega) hnp).back [_, _])
          have HBi := Lib.hid (HBk.out.trans (hb2.mono (by omega)))
          rw [← hpn] at hpb ⊢
          clear hpn HP hnp hb2 HS HBk g1 hbw
          go_wp2
          go_loopg [63] pn (fun g2 i wr => ∃ (j : Nat) (L2 : List Tbl) (sl : Value), i = .int .i64 j ∧ j + g2 = pn ∧ L2.length ≤ 1024 + 256 * k + j ∧ Hid (overN (splI m) g (k + 1) (overP (fun p => (splitInV m k p, splitInOk m k p)) (P.drop j) L2) = TI) ∧ Hid (Sep w.heap.size wr (Res.box w.heap.size [sl] :: Res.tabs sl L2 :: Res.tab (.slice pa pn pc) P :: Res.tab vt TT :: [])) ∧ Hid (Below w.heap.size w wr))
          case atStart => exact ⟨0, L1, _, rfl, by omega, by omega, HT2, HSi, HBi⟩
          case round =>
            clear HT2 HSi HBi hL1 zk
            obtain ⟨j, L2, sl, rfl, hj, hL2, HT, HS, HBk⟩ := hrel
            obtain ⟨wj, rfl⟩ : ∃ x, x = wr := ⟨_, rfl⟩
            have zj := HBk.out.size
            by_cases hjp : j < pn
            · have hji : (j : Int) < (pn : Int) := by omega
              have hTab := Hfr.out wj HBk.out
              obtain ⟨q, hp, -⟩ := at_lt (xs := P) (k := j) (by have := Hpn.out; omega)
              have hTp : Tab wj (.slice pa pn pc) P := by obtain ⟨G, h1, -⟩ := HS.out.get (r := Res.tab (.slice pa pn pc) P) (by simp); exact OTab.reads h1
              obtain ⟨b, o, c, ra, rc, hv, hbw, g1, hri⟩ := hTp.rowAt hp
              simp only [Value.slice.injEq] at hv
              obtain ⟨rfl, -, rfl⟩ := hv
              have HT2 := Lib.hid (show overN (splI m) g (k + 1) (overP (fun p => (splitInV m k p, splitInOk m k p)) (P.drop (j + 1)) (addT L2 (splitInV m k q) (splitInOk m k q))) = TI from by have h := HT.out; rw [overP_step hp] at h; exact h)
              have hadl := addT_len L2 (splitInV m k q) (splitInOk m k q)
              have HCs := Lib.hid (impl_SplitIn_c (i := (k : Int)) hTab hri)
              generalize q.length = pl at *
              clear hTp hp hri HT hTab
              have Hsqr := Lib.hid (fun (h : splitInOk m k q = true) => splI_sq h)
              generalize splitInV m k q = M at HCs HT2 hadl Hsqr
              generalize splitInOk m k q = ok at HCs HT2 hadl Hsqr
              go_wp2_with fail
              (with_reducible refine HCs.out.mono ?_)
              rintro e w4 ⟨x, rfl, hnx, hb3⟩
              obtain ⟨xa, xc, rfl, -⟩ := (New.tab hnx).shape
              have hs3 := (HS.out.new (OTab.kept 3 46).held hb3 (by omega) hnx).back [_, _]
              have hz3 := hb3.size
              have HB3 := Lib.hid (HBk.out.trans (hb3.mono (by omega)))
              have HCa := Lib.hid (add_c hs3 (by omega) Hsqr.out (by omega))
              generalize M.length = ml at *
              clear hs3 hnx hb3 HCs HS HBk
              go_wp2_with fail
              (with_reducible refine HCa.out.mono ?_)
              rintro e w5 ⟨rfl, ⟨sl', hs5⟩, hb5⟩
              have HS5 := Lib.hid hs5
              have HB5 := Lib.hid (HB3.out.trans hb5)
              clear hs5 hb5 HCa HB3 Hsqr
              go_wp2
              go_roundg (pn - (j + 1))
              case measure => omega
              case rel => exact ⟨j + 1, _, _, by go_num, by omega, by omega, HT2, HS5, HB5⟩
            · have hji : ¬ ((j : Int) < (pn : Int)) := by omega
              have HTy := Lib.hid (show overN (splI m) g (k + 1) L2 = TI from by have h := HT.out; rw [drop_len (by have := Hpn.out; omega)] at h; exact h)
              have HSy := Lib.hid (show Sep w.heap.size wj (Res.box w.heap.size [sl] :: Res.tabs sl L2 :: Res.tab vt TT :: []) from (HS.out.front [_, _]).tail)
              clear HT HS
              go_wp2
              go_roundg g
              case measure => omega
              case rel => exact ⟨k + 1, L2, sl, by go_num, by omega, by omega, HTy, HSy, HBk⟩
        · have hki : ¬ ((k : Int) < (n : Int)) := by omega
          have hg : gk = 0 := by omega
          have HFI := Lib.hid (show L1 = TI from by have h := HT.out; rw [hg] at h; exact h)
          clear HT hg
          have hL3 : L1.length ≤ 3000 := by omega
          have HE3 := Lib.hid (show stepsV m = overN (joiI m) n 0 (overN (joiO m) n 0 L1) from by rw [HE2.out, ← HFI.out])
          have hsb := HS.out.boxNew zk [.func (.func 49) #[] #[], .func (.func 50) #[] #[]] 70
          obtain ⟨wq, eq⟩ : ∃ x, x = wk.alloc (.cells #[.func (.func 49) #[] #[], .func (.func 50) #[] #[]] 70) := ⟨_, rfl⟩
          obtain ⟨bq, hbq⟩ : ∃ x, x = wk.heap.size := ⟨_, rfl⟩
          have HSq := Lib.hid (show Sep w.heap.size wq (Res.box w.heap.size [sl] :: Res.tabs sl L1 :: Res.box bq [.func (.func 49) #[] #[], .func (.func 50) #[] #[]] :: Res.tab vt TT :: []) from by rw [eq, hbq]; exact hsb.back [_, _])
          have HBq := Lib.hid (show Below w.heap.size w wq from by rw [eq]; exact HBk.out.alloc zk _)
          have eqs := eq.symm
          have hbqs := hbq.symm
          clear hsb eq hbq HS HBk zk HFI HE2 hL1
          generalize L1 = LL at *
          go_wp2
          clear eqs hbqs
          go_loopg [79] 2 (fun g i wr => ∃ (LQ : List Tbl) (sl : Value), Hid (Sep w.heap.size wr (Res.box w.heap.size [sl] :: Res.tabs sl LQ :: Res.box bq [.func (.func 49) #[] #[], .func (.func 50) #[] #[]] :: Res.tab vt TT :: [])) ∧ Hid (Below w.heap.size w wr) ∧ ((i = .int .i64 0 ∧ g = 2 ∧ LQ.length ≤ 3000 ∧ Hid (overN (joiI m) n 0 (overN (joiO m) n 0 LQ) = stepsV m)) ∨ (i = .int .i64 1 ∧ g = 1 ∧ LQ.length ≤ 3100 ∧ Hid (overN (joiI m) n 0 LQ = stepsV m)) ∨ (i = .int .i64 2 ∧ g = 0 ∧ LQ.length ≤ 3200 ∧ Hid (LQ = stepsV m))))
          case atStart => exact ⟨LL, _, HSq, HBq, Or.inl ⟨rfl, rfl, by omega, Lib.hid HE3.out.symm⟩⟩
          case round =>
            clear HE3 HSq HBq hL3
            obtain ⟨LQ, sl, HSq, HBq, hcase⟩ := hrel
            obtain ⟨wq, rfl⟩ : ∃ x, x = wr := ⟨_, rfl⟩
            obtain ⟨-, mq, hcq⟩ := HSq.out.getBox (b := bq) (vs := [.func (.func 49) #[] #[], .func (.func 50) #[] #[]]) (by simp)
            rcases hcase with ⟨rfl, rfl, hLQ, HTQ⟩ | ⟨rfl, rfl, hLQ, HTQ⟩ | ⟨rfl, rfl, hLQ, HTQ⟩
            · have gq := (hcq 0 _ rfl).1
              have cq := mq
              obtain ⟨T, hT⟩ : ∃ T, T = overN (joiO m) n 0 LQ := ⟨_, rfl⟩
              have HTq := Lib.hid hT.symm
              have HTr := Lib.hid (show overN (joiI m) n 0 T = stepsV m from by rw [hT]; exact HTQ.out)
              have hTl : T.length ≤ LQ.length + 16 := by rw [hT]; exact joi_len4 (fun i o => joiO_len (by have := Hn.out; omega) i o) hn4
              have hTl2 : T.length ≤ 3100 := by omega
              clear hT hcq mq HTQ hTl
              go_wp2
              go_loopg [85] n (fun g i wr => ∃ (k : Nat) (L1 : List Tbl) (sl : Value), i = .int .i64 k ∧ k + g = n ∧ L1.length ≤ 3000 + 4 * k ∧ Hid (overN (joiO m) g k L1 = T) ∧ Hid (Sep w.heap.size wr (Res.box w.heap.size [sl] :: Res.tabs sl L1 :: Res.box bq [.func (.func 49) #[] #[], .func (.func 50) #[] #[]] :: Res.tab vt TT :: [])) ∧ Hid (Below w.heap.size w wr))
              case atStart => exact ⟨0, LQ, _, rfl, by omega, by omega, HTq, HSq, HBq⟩
              case round =>
                clear HTq HSq HBq hLQ gq cq
                obtain ⟨k, L1, sl, rfl, hk, hL1, HT, HS, HBk⟩ := hrel
                obtain ⟨wk, rfl⟩ : ∃ x, x = wr := ⟨_, rfl⟩
                by_cases hkn : k < n
                · have hki : (k : Int) < (n : Int) := by omega
                  obtain ⟨g, rfl⟩ : ∃ x, gk = x + 1 := ⟨gk - 1, by omega⟩
                  have HT2 := Lib.hid (show overN (joiO m) g (k + 1) (overN (fun (j : Nat) o => addT o (joinV m k j) (joinOk m k j)) (n - (k + 1)) (k + 1) L1) = T from by have h : overN (joiO m) g (k + 1) (joiO m k L1) = T := HT.out; rw [show joiO m k L1 = overN (fun (j : Nat) o => addT o (joinV m k j) (joinOk m k j)) (n - (k + 1)) (k + 1) L1 from by unfold joiO; rw [← Hn.out]] at h; exact h)
                  clear HT
                  go_wp2
                  go_loopg [14] (n - (k + 1)) (fun g2 i wr => ∃ (j : Nat) (L2 : List Tbl) (sl : Value), i = .int .i64 j ∧ j + g2 = n ∧ k < j ∧ L2.length ≤ 3000 + 4 * k + (j - (k + 1)) ∧ Hid (overN (joiO m) g (k + 1) (overN (fun (j : Nat) o => addT o (joinV m k j) (joinOk m k j)) g2 j L2) = T) ∧ Hid (Sep w.heap.size wr (Res.box w.heap.size [sl] :: Res.tabs sl L2 :: Res.box bq [.func (.func 49) #[] #[], .func (.func 50) #[] #[]] :: Res.tab vt TT :: [])) ∧ Hid (Below w.heap.size w wr))
                  case atStart => exact ⟨k + 1, L1, _, by go_num, by omega, by omega, by omega, HT2, HS, HBk⟩
                  case round =>
                    clear HT2 HS HBk hL1
                    obtain ⟨j, L2, sl, rfl, hj, hkj, hL2, HT, HS, HBk⟩ := hrel
                    obtain ⟨wj, rfl⟩ : ∃ x, x = wr := ⟨_, rfl⟩
                    have zj := HBk.out.size
                    by_cases hjn : j < n
                    · have hji : (j : Int) < (n : Int) := by omega
                      obtain ⟨g2, hg2⟩ : ∃ x, gk = x + 1 := ⟨gk - 1, by omega⟩
                      subst hg2
                      have HT2 := Lib.hid (show overN (joiO m) g (k + 1) (overN (fun (j : Nat) o => addT o (joinV m k j) (joinOk m k j)) g2 (j + 1) (addT L2 (joinV m k j) (joinOk m k j))) = T from HT.out)
                      have hadl := addT_len L2 (joinV m k j) (joinOk m k j)
                      have HCs := Lib.hid (impl_JoinOut_c (i := (k : Int)) (j := (j : Int)) (Hfr.out wj HBk.out))
                      have Hsqr := Lib.hid (fun (h : joinOk m k j = true) => joiO_sq h)
                      clear HT
                      generalize joinV m k j = M at HCs HT2 hadl Hsqr
                      generalize joinOk m k j = ok at HCs HT2 hadl Hsqr
                      go_wp2_with fail
                      (with_reducible refine HCs.out.mono ?_)
                      rintro e w4 ⟨x, rfl, hnx, hb3⟩
                      obtain ⟨xa, xc, rfl, -⟩ := (New.tab hnx).shape
                      have hs3 := (HS.out.new (OTab.kept 3 46).held hb3 (by omega) hnx).back [_, _]
                      have hz3 := hb3.size
                      have HB3 := Lib.hid (HBk.out.trans (hb3.mono (by omega)))
                      have HCa := Lib.hid (add_c hs3 (by omega) Hsqr.out (by omega))
                      generalize M.length = ml at *
                      clear hs3 hnx hb3 HCs HS HBk
                      go_wp2_with fail
                      (with_reducible refine HCa.out.mono ?_)
                      rintro e w5 ⟨rfl, ⟨sl', hs5⟩, hb5⟩
                      have HS5 := Lib.hid hs5
                      have HB5 := Lib.hid (HB3.out.trans hb5)
                      clear hs5 hb5 HCa HB3 Hsqr
                      go_wp2
                      go_roundg g2
                      case measure => omega
                      case rel => exact ⟨j + 1, _, _, by go_num, by omega, by omega, by omega, HT2, HS5, HB5⟩
                    · have hji : ¬ ((j : Int) < (n : Int)) := by omega
                      have hg2 : gk = 0 := by omega
                      have HTy := Lib.hid (show overN (joiO m) g (k + 1) L2 = T from by have h := HT.out; rw [hg2] at h; exact h)
                      clear HT hg2
                      go_wp2
                      go_roundg g
                      case measure => omega
                      case rel => exact ⟨k + 1, L2, sl, by go_num, by omega, by omega, HTy, HS, HBk⟩
                · have hki : ¬ ((k : Int) < (n : Int)) := by omega
                  have hg : gk = 0 := by omega
                  have HTz := Lib.hid (show L1 = T from by have h := HT.out; rw [hg] at h; exact h)
                  clear HT hg
                  go_wp2
                  go_roundg 1
                  case measure => omega
                  case rel => exact ⟨L1, sl, HS, HBk, Or.inr (Or.inl ⟨by go_num, rfl, by have := HTz.out; rw [this]; omega, Lib.hid (by rw [HTz.out]; exact HTr.out)⟩)⟩
            · have gq := (hcq 1 _ rfl).1
              have cq := mq
              obtain ⟨T, hT⟩ : ∃ T, T = overN (joiI m) n 0 LQ := ⟨_, rfl⟩
              have HTq := Lib.hid hT.symm
              have HTr := Lib.hid (show T = stepsV m from by rw [hT]; exact HTQ.out)
              have hTl : T.length ≤ LQ.length + 16 := by rw [hT]; exact joi_len4 (fun i o => joiI_len (by have := Hn.out; omega) i o) hn4
              have hTl2 : T.length ≤ 3200 := by omega
              clear hT hcq mq HTQ hTl
              go_wp2
              go_loopg [85] n (fun g i wr => ∃ (k : Nat) (L1 : List Tbl) (sl : Value), i = .int .i64 k ∧ k + g = n ∧ L1.length ≤ 3100 + 4 * k ∧ Hid (overN (joiI m) g k L1 = T) ∧ Hid (Sep w.heap.size wr (Res.box w.heap.size [sl] :: Res.tabs sl L1 :: Res.box bq [.func (.func 49) #[] #[], .func (.func 50) #[] #[]] :: Res.tab vt TT :: [])) ∧ Hid (Below w.heap.size w wr))
              case atStart => exact ⟨0, LQ, _, rfl, by omega, by omega, HTq, HSq, HBq⟩
              case round =>
                clear HTq HSq HBq hLQ gq cq
                obtain ⟨k, L1, sl, rfl, hk, hL1, HT, HS, HBk⟩ := hrel
                obtain ⟨wk, rfl⟩ : ∃ x, x = wr := ⟨_, rfl⟩
                by_cases hkn : k < n
                · have hki : (k : Int) < (n : Int) := by omega
                  obtain ⟨g, rfl⟩ : ∃ x, gk = x + 1 := ⟨gk - 1, by omega⟩
                  have HT2 := Lib.hid (show overN (joiI m) g (k + 1) (overN (fun (j : Nat) o => addT o (joinInV m k j) (joinInOk m k j)) (n - (k + 1)) (k + 1) L1) = T from by have h : overN (joiI m) g (k + 1) (joiI m k L1) = T := HT.out; rw [show joiI m k L1 = overN (fun (j : Nat) o => addT o (joinInV m k j) (joinInOk m k j)) (n - (k + 1)) (k + 1) L1 from by unfold joiI; rw [← Hn.out]] at h; exact h)
                  clear HT
                  go_wp2
                  go_loopg [14] (n - (k + 1)) (fun g2 i wr => ∃ (j : Nat) (L2 : List Tbl) (sl : Value), i = .int .i64 j ∧ j + g2 = n ∧ k < j ∧ L2.length ≤ 3100 + 4 * k + (j - (k + 1)) ∧ Hid (overN (joiI m) g (k + 1) (overN (fun (j : Nat) o => addT o (joinInV m k j) (joinInOk m k j)) g2 j L2) = T) ∧ Hid (Sep w.heap.size wr (Res.box w.heap.size [sl] :: Res.tabs sl L2 :: Res.box bq [.func (.func 49) #[] #[], .func (.func 50) #[] #[]] :: Res.tab vt TT :: [])) ∧ Hid (Below w.heap.size w wr))
                  case atStart => exact ⟨k + 1, L1, _, by go_num, by omega, by omega, by omega, HT2, HS, HBk⟩
                  case round =>
                    clear HT2 HS HBk hL1
                    obtain ⟨j, L2, sl, rfl, hj, hkj, hL2, HT, HS, HBk⟩ := hrel
                    obtain ⟨wj, rfl⟩ : ∃ x, x = wr := ⟨_, rfl⟩
                    have zj := HBk.out.size
                    by_cases hjn : j < n
                    · have hji : (j : Int) < (n : Int) := by omega
                      obtain ⟨g2, hg2⟩ : ∃ x, gk = x + 1 := ⟨gk - 1, by omega⟩
                      subst hg2
                      have HT2 := Lib.hid (show overN (joiI m) g (k + 1) (overN (fun (j : Nat) o => addT o (joinInV m k j) (joinInOk m k j)) g2 (j + 1) (addT L2 (joinInV m k j) (joinInOk m k j))) = T from HT.out)
                      have hadl := addT_len L2 (joinInV m k j) (joinInOk m k j)
                      have HCs := Lib.hid (impl_JoinIn_c (i := (k : Int)) (j := (j : Int)) (Hfr.out wj HBk.out))
                      have Hsqr := Lib.hid (fun (h : joinInOk m k j = true) => joiI_sq h)
                      clear HT
                      generalize joinInV m k j = M at HCs HT2 hadl Hsqr
                      generalize joinInOk m k j = ok at HCs HT2 hadl Hsqr
                      go_wp2_with fail
                      (with_reducible refine HCs.out.mono ?_)
                      rintro e w4 ⟨x, rfl, hnx, hb3⟩
                      obtain ⟨xa, xc, rfl, -⟩ := (New.tab hnx).shape
                      have hs3 := (HS.out.new (OTab.kept 3 46).held hb3 (by omega) hnx).back [_, _]
                      have hz3 := hb3.size
                      have HB3 := Lib.hid (HBk.out.trans (hb3.mono (by omega)))
                      have HCa := Lib.hid (add_c hs3 (by omega) Hsqr.out (by omega))
                      generalize M.length = ml at *
                      clear hs3 hnx hb3 HCs HS HBk
                      go_wp2_with fail
                      (with_reducible refine HCa.out.mono ?_)
                      rintro e w5 ⟨rfl, ⟨sl', hs5⟩, hb5⟩
                      have HS5 := Lib.hid hs5
                      have HB5 := Lib.hid (HB3.out.trans hb5)
                      clear hs5 hb5 HCa HB3 Hsqr
                      go_wp2
                      go_roundg g2
                      case measure => omega
                      case rel => exact ⟨j + 1, _, _, by go_num, by omega, by omega, by omega, HT2, HS5, HB5⟩
                    · have hji : ¬ ((j : Int) < (n : Int)) := by omega
                      have hg2 : gk = 0 := by omega
                      have HTy := Lib.hid (show overN (joiI m) g (k + 1) L2 = T from by have h := HT.out; rw [hg2] at h; exact h)
                      clear HT hg2
                      go_wp2
                      go_roundg g
                      case measure => omega
                      case rel => exact ⟨k + 1, L2, sl, by go_num, by omega, by omega, HTy, HS, HBk⟩
                · have hki : ¬ ((k : Int) < (n : Int)) := by omega
                  have hg : gk = 0 := by omega
                  have HTz := Lib.hid (show L1 = T from by have h := HT.out; rw [hg] at h; exact h)
                  clear HT hg
                  go_wp2
                  go_roundg 0
                  case measure => omega
                  case rel => exact ⟨L1, sl, HS, HBk, Or.inr (Or.inr ⟨by go_num, rfl, by have := HTz.out; rw [this]; omega, Lib.hid (by rw [HTz.out]; exact HTr.out)⟩)⟩
            · have HF := Lib.hid HTQ.out
              obtain ⟨-, mx, hcx⟩ := HSq.out.headBox
              have cx := (hcx 0 _ rfl).1
              have HN := Lib.hid HSq.out.tail.headNew
              obtain ⟨xa, xc, rfl, -⟩ := (New.tabs HN.out).shape
              generalize LQ.length = ll at *
              clear HTQ hcq mq hcx HSq hLQ
              go_wp2
              go_ret
              exact ⟨_, rfl, by rw [← HF.out]; exact HN.out, HBq.out⟩
end Go.Proofs.YtlkgkfgpnnahdaaGreat
end

section
/-
  AreAlike, the program's and the reference's; the law that they agree.
-/
namespace Go.Proofs.YtlkgkfgpnnahdaaGreat
open Go.RowKit Go.Deep Go.Sd

set_option maxHeartbeats 400000 in
theorem impl_AreAlike_c {w : World} {va vb : Value} {a b : List (List Int)} (h1 : Tab w va a) (h2 : Tab w vb b) :
    Calls Tryz.prog 61 #[va, vb] w fun e w' => e = .returned (.bool (alikeM a b)) ∧ Below w.heap.size w w' := by
  obtain ⟨aa, ac, rfl, _, _, _⟩ := h1.shape
  obtain ⟨ba, bc, rfl, _, _, _⟩ := h2.shape
  cases ha : isMat a with
  | false =>
    have H := Lib.hid (show alikeM a b = false from by unfold alikeM; rw [ha]; rfl)
    have Hc := Lib.hid (impl_IsMatrix_c h1)
    rw [ha] at Hc
    clear ha h1 h2
    go_enter Tryz.func61, Tryz.ntmps61
    go_wp2_with (go_at_call 43; refine Hc.out.mono ?_; rintro e w' ⟨rfl, rfl⟩)
    go_ret
    exact ⟨by rw [H.out]; rfl, Below.refl _ _⟩
  | true =>
    cases hb : isMat b with
    | false =>
      have H := Lib.hid (show alikeM a b = false from by unfold alikeM; rw [hb]; simp)
      have Hc := Lib.hid (impl_IsMatrix_c h1)
      have Hd := Lib.hid (impl_IsMatrix_c h2)
      rw [ha] at Hc
      rw [hb] at Hd
      clear ha hb h1 h2
      go_enter Tryz.func61, Tryz.ntmps61
      go_wp2_with fail
      refine Hc.out.mono ?_
      rintro e w' ⟨rfl, rfl⟩
      go_wp2_with fail
      refine Hd.out.mono ?_
      rintro e w' ⟨rfl, rfl⟩
      go_wp2
      go_ret
      exact ⟨by rw [H.out]; rfl, Below.refl _ _⟩
    | true =>
      have Hc := Lib.hid (impl_IsMatrix_c h1)
      have Hd := Lib.hid (impl_IsMatrix_c h2)
      have sa := isMat_sq ha
      have sb := isMat_sq hb
      rw [ha] at Hc
      rw [hb] at Hd
      by_cases hl : a.length = b.length
      · by_cases h6 : a.length ≤ 6
        · have H := Lib.hid (show alikeM a b = fitM a b a.length a.length [] from by unfold alikeM; rw [ha, hb]; simp [hl]; intro h; omega)
          have Hf := Lib.hid (fits_c a b a.length sa.1 (hl ▸ sb.1) (by omega) (by omega) a.length [] w _ _ (.slice none 0 0) (by simp) (by simp) h1 h2 ⟨[], ⟨by simp, none, 0, rfl, by simp, by simp, by simp, Or.inl rfl⟩, by simp [nats], by simp⟩)
          have t1 : ((a.length : Int) == (b.length : Int)) = true := by simp [hl]
          clear ha hb h1 h2 hl sa sb
          go_enter Tryz.func61, Tryz.ntmps61
          go_wp2_with fail
          refine Hc.out.mono ?_
          rintro e w' ⟨rfl, rfl⟩
          go_wp2_with fail
          refine Hd.out.mono ?_
          rintro e w' ⟨rfl, rfl⟩
          go_wp2_with fail
          refine Hf.out.mono ?_
          rintro e w' ⟨rfl, hb1⟩
          go_wp2
          go_ret
          exact ⟨by rw [H.out]; rfl, hb1⟩
        · have H := Lib.hid (show alikeM a b = false from by unfold alikeM; simp [h6])
          have t1 : ((a.length : Int) == (b.length : Int)) = true := by simp [hl]
          clear ha hb h1 h2 hl sa sb
          go_enter Tryz.func61, Tryz.ntmps61
          go_wp2_with fail
          refine Hc.out.mono ?_
          rintro e w' ⟨rfl, rfl⟩
          go_wp2_with fail
          refine Hd.out.mono ?_
          rintro e w' ⟨rfl, rfl⟩
          go_wp2
          go_ret
          exact ⟨by rw [H.out]; rfl, Below.refl _ _⟩
      · have H := Lib.hid (show alikeM a b = false from by unfold alikeM; simp [hl])
        have t1 : ((a.length : Int) == (b.length : Int)) = false := by simp; omega
        clear ha hb h1 h2 sa sb
        go_enter Tryz.func61, Tryz.ntmps61
        go_wp2_with fail
        refine Hc.out.mono ?_
        rintro e w' ⟨rfl, rfl⟩
        go_wp2_with fail
        refine Hd.out.mono ?_
        rintro e w' ⟨rfl, rfl⟩
        go_wp2
        go_ret
        exact ⟨by rw [H.out]; rfl, Below.refl _ _⟩

set_option maxHeartbeats 400000 in
theorem spec_AreAlike_c {w : World} {va vb : Value} {a b : List (List Int)} (h1 : Tab w va a) (h2 : Tab w vb b) :
    Calls Tryz.prog 62 #[va, vb] w fun e w' => e = .returned (.bool (alikeM a b)) ∧ Below w.heap.size w w' := by
  obtain ⟨aa, ac, rfl, _, _, _⟩ := h1.shape
  obtain ⟨ba, bc, rfl, _, _, _⟩ := h2.shape
  cases ha : isMat a with
  | false =>
    have H := Lib.hid (show alikeM a b = false from by unfold alikeM; rw [ha]; rfl)
    have Hc := Lib.hid (spec_IsMatrix_c h1)
    rw [ha] at Hc
    clear ha h1 h2
    go_enter Tryz.func62, Tryz.ntmps62
    go_wp2_with (go_at_call 37; refine Hc.out.mono ?_; rintro e w' ⟨rfl, rfl⟩)
    go_ret
    exact ⟨by rw [H.out]; rfl, Below.refl _ _⟩
  | true =>
    cases hb : isMat b with
    | false =>
      have H := Lib.hid (show alikeM a b = false from by unfold alikeM; rw [hb]; simp)
      have Hc := Lib.hid (spec_IsMatrix_c h1)
      have Hd := Lib.hid (spec_IsMatrix_c h2)
      rw [ha] at Hc
      rw [hb] at Hd
      clear ha hb h1 h2
      go_enter Tryz.func62, Tryz.ntmps62
      go_wp2_with fail
      refine Hc.out.mono ?_
      rintro e w' ⟨rfl, rfl⟩
      go_wp2_with fail
      refine Hd.out.mono ?_
      rintro e w' ⟨rfl, rfl⟩
      go_wp2
      go_ret
      exact ⟨by rw [H.out]; rfl, Below.refl _ _⟩
    | true =>
      have Hc := Lib.hid (spec_IsMatrix_c h1)
      have Hd := Lib.hid (spec_IsMatrix_c h2)
      have sa := isMat_sq ha
      have sb := isMat_sq hb
      rw [ha] at Hc
      rw [hb] at Hd
      by_cases hl : a.length = b.length
      · by_cases h6 : a.length ≤ 6
        · have H := Lib.hid (show alikeM a b = fitM a b a.length a.length [] from by unfold alikeM; rw [ha, hb]; simp [hl]; intro h; omega)
          have hal : Below w.heap.size w (w.alloc (.cells #[] 3)) := (Below.refl _ _).alloc (Nat.le_refl _) _
          have Hf := Lib.hid (l18Match_c a b a.length sa.1 (hl ▸ sb.1) (by omega) (by omega) a.length [] (w.alloc (.cells #[] 3)) _ _ (.slice (some ⟨w.heap.size, 0, none⟩) 0 0) (by simp) (by simp) (Tab.frame _ _ _ _ h1 hal) (Tab.frame _ _ _ _ h2 hal) (New.empty (lo := 0) w (Nat.zero_le _)).ints)
          have t1 : ((a.length : Int) == (b.length : Int)) = true := by simp [hl]
          clear ha hb h1 h2 hl sa sb hal
          go_enter Tryz.func62, Tryz.ntmps62
          go_wp2_with fail
          refine Hc.out.mono ?_
          rintro e w' ⟨rfl, rfl⟩
          go_wp2_with fail
          refine Hd.out.mono ?_
          rintro e w' ⟨rfl, rfl⟩
          go_wp2_with fail
          refine Hf.out.mono ?_
          rintro e w' ⟨rfl, hb1⟩
          go_wp2
          go_ret
          exact ⟨by rw [H.out]; rfl, ((Below.refl _ _).alloc (Nat.le_refl _) _).trans (hb1.mono (by simp))⟩
        · have H := Lib.hid (show alikeM a b = false from by unfold alikeM; simp [h6])
          have t1 : ((a.length : Int) == (b.length : Int)) = true := by simp [hl]
          clear ha hb h1 h2 hl sa sb
          go_enter Tryz.func62, Tryz.ntmps62
          go_wp2_with fail
          refine Hc.out.mono ?_
          rintro e w' ⟨rfl, rfl⟩
          go_wp2_with fail
          refine Hd.out.mono ?_
          rintro e w' ⟨rfl, rfl⟩
          go_wp2
          go_ret
          exact ⟨by rw [H.out]; rfl, Below.refl _ _⟩
      · have H := Lib.hid (show alikeM a b = false from by unfold alikeM; simp [hl])
        have t1 : ((a.length : Int) == (b.length : Int)) = false := by simp; omega
        clear ha hb h1 h2 sa sb
        go_enter Tryz.func62, Tryz.ntmps62
        go_wp2_with fail
        refine Hc.out.mono ?_
        rintro e w' ⟨rfl, rfl⟩
        go_wp2_with fail
        refine Hd.out.mono ?_
        rintro e w' ⟨rfl, rfl⟩
        go_wp2
        go_ret
        exact ⟨by rw [H.out]; rfl, Below.refl _ _⟩

end Go.Proofs.YtlkgkfgpnnahdaaGreat
end

section
/-
  The laws' helpers on lists of tables: marks.
-/
namespace Go.Proofs.YtlkgkfgpnnahdaaGreat
open Go.RowKit Go.Deep Go.Sd
theorem _root_.Go.Sd.OTabs.reads' {eI eR eT : TypeId} {w : World} {v : Value} {xs : List (List (List Int))} {F : List Nat} (h : OTabs eI eR eT w v xs F) : Tabs w v xs := OTabs.reads h
def cntSSS : List (List (List Int)) → Int
  | [] => 0
  | r :: rs => cntSS r + cntSSS rs
def markSSS : List (List (List Int)) → Int → List (List (List Int))
  | [], _ => []
  | r :: rs, k => markSS r k :: markSSS rs (k + cntSS r)
def heldSSS : List (List (List Int)) → Int → Int
  | [], k => k
  | r :: rs, k => if heldSS r k < 0 then -1 else heldSSS rs (heldSS r k)
theorem cntSSS_nn (m : List (List (List Int))) : 0 ≤ cntSSS m := by
  induction m with
  | nil => simp [cntSSS]
  | cons r rs ih => have := cntSS_nn r; unfold cntSSS; omega
theorem markSSS_len (m : List (List (List Int))) (k : Int) : (markSSS m k).length = m.length := by
  induction m generalizing k with
  | nil => rfl
  | cons x xs ih => simp [markSSS, ih]
theorem heldSSS_mark (m : List (List (List Int))) (k : Int) (h : 0 ≤ k) : heldSSS (markSSS m k) k = k + cntSSS m := by
  induction m generalizing k with
  | nil => simp [heldSSS, markSSS, cntSSS]
  | cons x xs ih =>
    have := cntSS_nn x
    simp only [markSSS, heldSSS, heldSS_mark x k h, cntSSS]
    rw [if_neg (by omega), ih _ (by omega)]
    omega
theorem cntSS_mark3 (m : List (List Int)) (k : Int) : cntSS (markSS m k) = cntSS m := by
  induction m generalizing k with
  | nil => rfl
  | cons r rs ih => simp [markSS, cntSS, markS_len, ih]
theorem cntSSS_mark (m : List (List (List Int))) (k : Int) : cntSSS (markSSS m k) = cntSSS m := by
  induction m generalizing k with
  | nil => rfl
  | cons r rs ih => simp [markSSS, cntSSS, cntSS_mark3, ih]

theorem cntSSS_bd {m : List (List (List Int))} (h : m.length ≤ 1048576) (hr : ∀ t, t ∈ m → t.length ≤ 1048576 ∧ ∀ r, r ∈ t → r.length ≤ 1048576) : cntSSS m ≤ 1152921504606846976 := by
  have key : ∀ m : List (List (List Int)), (∀ t, t ∈ m → t.length ≤ 1048576 ∧ ∀ r, r ∈ t → r.length ≤ 1048576) → cntSSS m ≤ (m.length : Int) * 1099511627776 := by
    intro m
    induction m with
    | nil => intro _; simp [cntSSS]
    | cons x m ih =>
      intro hm
      have h1 := ih fun y hy => hm y (by simp [hy])
      have h2 := hm x (by simp)
      have e1 := cntSS_bd (p := 1048576) (r := 1048576) h2.1 h2.2
      simp only [cntSSS, List.length_cons]
      omega
  have := key m hr
  omega
end Go.Proofs.YtlkgkfgpnnahdaaGreat
end
