/-
  StepsFrom: the model, both ways to make it.
-/
import Derived.Test.YtdohepngandajaaBase
import Derived.Test.YtdohepngandajaaMat
import Derived.Test.YtdohepngandajaaSplitOut
import Derived.Test.YtdohepngandajaaSplitIn
import Derived.Test.YtdohepngandajaaJoinIn
import Derived.Test.YtdohepngandajaaJoinAlls
import Derived.Test.YtdohepngandajaaPartsM
namespace Go.Proofs.Ytdohepngandajaa
open Go.RowKit Go.Deep Go.Sd
def smallT (m : Tbl) : Bool := m.all fun r => r.all fun x => decide (x ≤ 3)
/-- A matrix is put behind others if it fits and is not there. -/
def addT (out : List Tbl) (m : Tbl) (ok : Bool) : List Tbl := if ok = true ∧ m.length ≤ 4 ∧ smallT m = true ∧ m ∉ out then out ++ [m] else out
theorem addT_len (out : List Tbl) (m : Tbl) (ok : Bool) : (addT out m ok).length ≤ out.length + 1 := by unfold addT; split <;> simp
def overP (f : List Int → Tbl × Bool) : List (List Int) → List Tbl → List Tbl
  | [], o => o
  | p :: ps, o => overP f ps (addT o (f p).1 (f p).2)
def overN (f : Nat → List Tbl → List Tbl) : Nat → Nat → List Tbl → List Tbl
  | 0, _, o => o
  | n + 1, k, o => overN f n (k + 1) (f k o)
def splO (m : Tbl) (i : Nat) (o : List Tbl) : List Tbl := overP (fun p => (splitV m i p, splitOk m i p)) (partsV (m.getD i [])) o
def splI (m : Tbl) (i : Nat) (o : List Tbl) : List Tbl := overP (fun p => (splitInV m i p, splitInOk m i p)) (partsV ((turnT m m.length).getD i [])) o
def joiO (m : Tbl) (i : Nat) (o : List Tbl) : List Tbl := overN (fun j o => addT o (joinV m i j) (joinOk m i j)) (m.length - (i + 1)) (i + 1) o
def joiI (m : Tbl) (i : Nat) (o : List Tbl) : List Tbl := overN (fun j o => addT o (joinInV m i j) (joinInOk m i j)) (m.length - (i + 1)) (i + 1) o
def stepsV (m : Tbl) : List Tbl :=
  if isMat m = true ∧ m.length ≤ 4 then overN (joiI m) m.length 0 (overN (joiO m) m.length 0 (overN (splI m) m.length 0 (overN (splO m) m.length 0 []))) else []
theorem overP_same {f : List Int → Tbl × Bool} : ∀ (ps : List (List Int)) (o : List Tbl), (∀ p, p ∈ ps → addT o (f p).1 (f p).2 = o) → overP f ps o = o
  | [], _, _ => rfl
  | p :: ps, o, h => by
    unfold overP
    rw [h p (by simp)]
    exact overP_same ps o fun q hq => h q (by simp [hq])
theorem overN_same {f : Nat → List Tbl → List Tbl} : ∀ (n k : Nat) (o : List Tbl), (∀ i, f i o = o) → overN f n k o = o
  | 0, _, _, _ => rfl
  | n + 1, k, o, h => by unfold overN; rw [h k]; exact overN_same n (k + 1) o h
/-- Splits of four vertices have five. -/
theorem splO_four {m : Tbl} (h : m.length = 4) (i : Nat) (o : List Tbl) : splO m i o = o := by
  refine overP_same _ _ fun p _ => ?_
  unfold addT
  rw [if_neg]
  rintro ⟨h1, h2, _⟩
  simp only at h1 h2
  unfold splitV at h2
  rw [if_pos h1, (splitT_sq _ _ _ _).1] at h2
  omega
theorem turnV_len {m : Tbl} (h : isMat m = true) : (turnV m).length = m.length := by
  unfold turnV
  rw [if_pos h]
  exact (turnT_sq _ _).1
theorem splI_four {m : Tbl} (hm : isMat m = true) (h : m.length = 4) (i : Nat) (o : List Tbl) : splI m i o = o := by
  refine overP_same _ _ fun p _ => ?_
  unfold addT
  rw [if_neg]
  rintro ⟨h1, h2, _⟩
  simp only at h1 h2
  unfold splitInV at h2
  unfold splitInOk at h1
  rw [if_pos h1, (turnT_sq _ _).1] at h2
  unfold splitV at h2
  rw [if_pos h1, (splitT_sq _ _ _ _).1, turnV_len hm] at h2
  omega
theorem stepsV_spec (m : Tbl) (hm : isMat m = true) (h4 : m.length ≤ 4) :
    stepsV m = overN (joiI m) m.length 0 (overN (joiO m) m.length 0 (if m.length < 4 then overN (splI m) m.length 0 (overN (splO m) m.length 0 []) else [])) := by
  unfold stepsV
  rw [if_pos ⟨hm, h4⟩]
  by_cases h : m.length < 4
  · rw [if_pos h]
  · rw [if_neg h, overN_same (f := splO m) _ _ _ fun i => splO_four (by omega) i _, overN_same (f := splI m) _ _ _ fun i => splI_four hm (by omega) i _]
/-! How many there are. -/
theorem overP_len {f : List Int → Tbl × Bool} : ∀ (ps : List (List Int)) (o : List Tbl), (overP f ps o).length ≤ o.length + ps.length
  | [], _ => Nat.le_refl _
  | p :: ps, o => by
    unfold overP
    have h1 := overP_len (f := f) ps (addT o (f p).1 (f p).2)
    have h2 := addT_len o (f p).1 (f p).2
    rw [List.length_cons]
    omega
theorem overN_len {f : Nat → List Tbl → List Tbl} {c : Nat} (h : ∀ i o, (f i o).length ≤ o.length + c) : ∀ (n k : Nat) (o : List Tbl), (overN f n k o).length ≤ o.length + n * c
  | 0, _, _ => by simp [overN]
  | n + 1, k, o => by
    unfold overN
    have h1 := overN_len h n (k + 1) (f k o)
    have h2 := h k o
    rw [Nat.add_mul]
    omega
theorem splO_len (m : Tbl) (i : Nat) (o : List Tbl) : (splO m i o).length ≤ o.length + 256 := by
  have h1 := overP_len (f := fun p => (splitV m i p, splitOk m i p)) (partsV (m.getD i [])) o
  have h2 := (partsV_bd (m.getD i [])).1
  unfold splO
  omega
theorem splI_len (m : Tbl) (i : Nat) (o : List Tbl) : (splI m i o).length ≤ o.length + 256 := by
  have h1 := overP_len (f := fun p => (splitInV m i p, splitInOk m i p)) (partsV ((turnT m m.length).getD i [])) o
  have h2 := (partsV_bd ((turnT m m.length).getD i [])).1
  unfold splI
  omega
/-! Every one is a small square. -/
def GoodT (m : Tbl) : Prop := ∃ n, Sq n m ∧ 0 < n ∧ n ≤ 4
def AllG (o : List Tbl) : Prop := ∀ m, m ∈ o → GoodT m
theorem AllG.add {o : List Tbl} (h : AllG o) {m : Tbl} {ok : Bool} (hm : ok = true → ∃ n, Sq n m ∧ 0 < n) : AllG (addT o m ok) := by
  unfold addT
  split
  · rename_i h1
    obtain ⟨n, hs, h0⟩ := hm h1.1
    intro x hx
    rcases List.mem_append.1 hx with hx | hx
    · exact h x hx
    · simp at hx
      subst hx
      exact ⟨n, hs, h0, by rw [← hs.1]; exact h1.2.1⟩
  · exact h
theorem AllG.overP {f : List Int → Tbl × Bool} (hf : ∀ p, (f p).2 = true → ∃ n, Sq n (f p).1 ∧ 0 < n) : ∀ (ps : List (List Int)) {o : List Tbl}, AllG o → AllG (overP f ps o)
  | [], _, h => h
  | p :: ps, _, h => AllG.overP hf ps (h.add (hf p))
theorem AllG.overN {f : Nat → List Tbl → List Tbl} (hf : ∀ i o, AllG o → AllG (f i o)) : ∀ (n k : Nat) {o : List Tbl}, AllG o → AllG (overN f n k o)
  | 0, _, _, h => h
  | n + 1, k, _, h => AllG.overN hf n (k + 1) (hf k _ h)
theorem splO_sq {m : Tbl} {i : Int} {p : List Int} (h : splitOk m i p = true) : ∃ n, Sq n (splitV m i p) ∧ 0 < n := by
  obtain ⟨n, h1, h2, _⟩ := splitOk_sq h
  exact ⟨n, h1, h2⟩
theorem splI_sq {m : Tbl} {i : Int} {p : List Int} (h : splitInOk m i p = true) : ∃ n, Sq n (splitInV m i p) ∧ 0 < n := by
  unfold splitInOk at h
  obtain ⟨n, h1, h2, _⟩ := splitOk_sq h
  unfold splitInV
  rw [if_pos h]
  exact ⟨_, turnT_sq _ _, by rw [h1.1]; exact h2⟩
theorem joiO_sq {m : Tbl} {i j : Int} (h : joinOk m i j = true) : ∃ n, Sq n (joinV m i j) ∧ 0 < n := by
  obtain ⟨n, h1, h2, _⟩ := joinOk_sq h
  exact ⟨n, h1, h2⟩
theorem joiI_sq {m : Tbl} {i j : Int} (h : joinInOk m i j = true) : ∃ n, Sq n (joinInV m i j) ∧ 0 < n := by
  unfold joinInOk at h
  obtain ⟨n, h1, h2, _⟩ := joinOk_sq h
  unfold joinInV
  rw [if_pos h]
  exact ⟨_, turnT_sq _ _, by rw [h1.1]; exact h2⟩
theorem stepsV_good (m : Tbl) : AllG (stepsV m) := by
  unfold stepsV
  split
  · refine AllG.overN (fun i o h => ?_) _ _ (AllG.overN (fun i o h => ?_) _ _ (AllG.overN (fun i o h => ?_) _ _ (AllG.overN (fun i o h => ?_) _ _ (fun x hx => by cases hx))))
    · exact AllG.overN (fun j o h => h.add joiI_sq) _ _ h
    · exact AllG.overN (fun j o h => h.add joiO_sq) _ _ h
    · exact AllG.overP (fun p => splI_sq) _ h
    · exact AllG.overP (fun p => splO_sq) _ h
  · exact fun x hx => by cases hx
theorem stepsV_len (m : Tbl) : (stepsV m).length ≤ 2112 := by
  unfold stepsV
  split
  · rename_i h
    have h0 := overN_len (f := splO m) (c := 256) (splO_len m) m.length 0 []
    have h1 := overN_len (f := splI m) (c := 256) (splI_len m) m.length 0 (overN (splO m) m.length 0 [])
    have j : ∀ (i : Nat) (o : List Tbl), (joiO m i o).length ≤ o.length + 4 := fun i o => by
      have h := overN_len (f := fun j o => addT o (joinV m i j) (joinOk m i j)) (c := 1) (fun j o => addT_len o _ _) (m.length - (i + 1)) (i + 1) o
      unfold joiO
      omega
    have j2 : ∀ (i : Nat) (o : List Tbl), (joiI m i o).length ≤ o.length + 4 := fun i o => by
      have h := overN_len (f := fun j o => addT o (joinInV m i j) (joinInOk m i j)) (c := 1) (fun j o => addT_len o _ _) (m.length - (i + 1)) (i + 1) o
      unfold joiI
      omega
    have h2 := overN_len j m.length 0 (overN (splI m) m.length 0 (overN (splO m) m.length 0 []))
    have h3 := overN_len j2 m.length 0 (overN (joiO m) m.length 0 (overN (splI m) m.length 0 (overN (splO m) m.length 0 [])))
    have h4 := h.2
    have e1 : m.length * 256 ≤ 1024 := by omega
    have e2 : m.length * 4 ≤ 16 := by omega
    simp only [List.length_nil] at h0
    omega
  · simp
end Go.Proofs.Ytdohepngandajaa
