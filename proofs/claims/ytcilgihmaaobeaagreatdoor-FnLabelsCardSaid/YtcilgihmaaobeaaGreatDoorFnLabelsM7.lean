/-
  Laws for this claim's walks, contracts of the functions that it reaches.
-/
import Derived.Test.YtcilgihmaaobeaaGreatDoorFnLabelsM4
import Derived.Deep.DeepMust
import Derived.StillTailTactics
import Derived.WalkSpells
set_option linter.unusedVariables false
set_option linter.unusedSimpArgs false
section
namespace Go.Proofs.YtcilgihmaaobeaaGreatDoor
open Go.RowKit Go.Deep Go.Sd

theorem isMat_sq {m : List (List Int)} (h : isMat m = true) : Sq m.length m ∧ 1 ≤ m.length ∧ m.length ≤ 9 := by
  unfold isMat at h
  simp only [Bool.and_eq_true, decide_eq_true_eq, List.all_eq_true] at h
  refine ⟨⟨rfl, fun r hr => ?_⟩, h.1.1, h.1.2⟩
  have := h.2 r hr
  unfold rowOk at this
  simp at this
  exact this.1


end Go.Proofs.YtcilgihmaaobeaaGreatDoor
end

section
namespace Go.Sd
open Go.RowKit Go.Deep
/-- j stands in row i. -/
def EntN (next : List (List Int)) (i j : Nat) : Prop := (j : Int) ∈ next.getD i []
/-- The arcs of the rows before i, and the first c of row i. -/
def Pr (next : List (List Int)) (i c x y : Nat) : Prop := (x < i ∧ EntN next x y) ∨ (x = i ∧ (y : Int) ∈ (next.getD i []).take c)
def FrOk (next : List (List Int)) (l0 : List Bool) (i c : Nat) (fr : List Bool) : Prop := fr.length = l0.length ∧ ∀ x, On fr x ↔ On l0 x ∧ ∃ y, Pr next i c x y ∧ On l0 y
def ToOk (next : List (List Int)) (l0 : List Bool) (i c : Nat) (t : List Bool) : Prop := t.length = l0.length ∧ ∀ y, On t y ↔ On l0 y ∧ ∃ x, Pr next i c x y ∧ On l0 x
section
variable {next : List (List Int)} {l0 fr t l : List Bool} {i c x y n : Nat}
theorem Pr.zero : ¬ Pr next 0 0 x y := by rintro (⟨h, _⟩ | ⟨_, h⟩) <;> simp at h
theorem Pr.succ (hy : (next.getD i [])[c]? = some (y : Int)) {x' y' : Nat} : Pr next i (c + 1) x' y' ↔ Pr next i c x' y' ∨ (x' = i ∧ y' = y) := by
  unfold Pr
  rw [List.take_add_one, hy]
  simp only [Option.toList_some, List.mem_append, List.mem_singleton, Int.ofNat_inj]
  constructor
  · rintro (h | ⟨h1, h | h⟩)
    · exact .inl (.inl h)
    · exact .inl (.inr ⟨h1, h⟩)
    · exact .inr ⟨h1, h⟩
  · rintro ((h | ⟨h1, h⟩) | ⟨h1, h⟩)
    · exact .inl h
    · exact .inr ⟨h1, .inl h⟩
    · exact .inr ⟨h1, .inr h⟩
theorem Pr.row (hc : (next.getD i []).length ≤ c) : Pr next i c x y ↔ Pr next (i + 1) 0 x y := by
  unfold Pr
  rw [List.take_of_length_le hc]
  constructor
  · rintro (⟨h, e⟩ | ⟨rfl, e⟩)
    · exact .inl ⟨by omega, e⟩
    · exact .inl ⟨by omega, e⟩
  · rintro (⟨h, e⟩ | ⟨_, e⟩)
    · by_cases hx : x < i
      · exact .inl ⟨hx, e⟩
      · obtain rfl : x = i := by omega
        exact .inr ⟨rfl, e⟩
    · simp at e
theorem Pr.all (hn : next.length ≤ n) : Pr next n 0 x y ↔ EntN next x y := by
  unfold Pr
  constructor
  · rintro (⟨_, e⟩ | ⟨_, e⟩)
    · exact e
    · simp at e
  · intro e
    by_cases hx : x < n
    · exact .inl ⟨hx, e⟩
    · unfold EntN at e
      rw [List.getD_eq_getElem?_getD, List.getElem?_eq_none (by omega)] at e
      simp at e
theorem On.set_iff {b : Bool} (hi : i < l.length) : On (l.set i b) x ↔ if x = i then b = true else On l x := by
  unfold On
  by_cases e : x = i
  · subst e
    rw [List.getElem?_set_self hi, if_pos rfl]; simp
  · rw [List.getElem?_set_ne (fun h => e h.symm), if_neg e]
theorem FrOk.start : FrOk next l0 0 0 (List.replicate l0.length false) := by
  refine ⟨by simp, fun x => ⟨fun h => ?_, fun ⟨_, y, h, _⟩ => absurd h Pr.zero⟩⟩
  unfold On at h
  rw [List.getElem?_replicate] at h
  split at h <;> simp at h
theorem ToOk.start : ToOk next l0 0 0 (List.replicate l0.length false) := by
  refine ⟨by simp, fun x => ⟨fun h => ?_, fun ⟨_, y, h, _⟩ => absurd h Pr.zero⟩⟩
  unfold On at h
  rw [List.getElem?_replicate] at h
  split at h <;> simp at h
theorem FrOk.skip (h : FrOk next l0 i c fr) (hy : (next.getD i [])[c]? = some (y : Int)) (hn : ¬ (On l0 i ∧ On l0 y)) : FrOk next l0 i (c + 1) fr := by
  refine ⟨h.1, fun x' => (h.2 x').trans ⟨fun ⟨h1, y', h2, h3⟩ => ⟨h1, y', (Pr.succ hy).2 (.inl h2), h3⟩, fun ⟨h1, y', h2, h3⟩ => ?_⟩⟩
  rcases (Pr.succ hy).1 h2 with h2 | ⟨rfl, rfl⟩
  · exact ⟨h1, y', h2, h3⟩
  · exact absurd ⟨h1, h3⟩ hn
theorem ToOk.skip (h : ToOk next l0 i c t) (hy : (next.getD i [])[c]? = some (y : Int)) (hn : ¬ (On l0 i ∧ On l0 y)) : ToOk next l0 i (c + 1) t := by
  refine ⟨h.1, fun x' => (h.2 x').trans ⟨fun ⟨h1, y', h2, h3⟩ => ⟨h1, y', (Pr.succ hy).2 (.inl h2), h3⟩, fun ⟨h1, y', h2, h3⟩ => ?_⟩⟩
  rcases (Pr.succ hy).1 h2 with h2 | ⟨rfl, rfl⟩
  · exact ⟨h1, y', h2, h3⟩
  · exact absurd ⟨h3, h1⟩ hn
theorem FrOk.take (h : FrOk next l0 i c fr) (hy : (next.getD i [])[c]? = some (y : Int)) (h1 : On l0 i) (h2 : On l0 y) : FrOk next l0 i (c + 1) (fr.set i true) := by
  refine ⟨by rw [List.length_set]; exact h.1, fun x' => ?_⟩
  rw [On.set_iff (by rw [h.1]; exact h1.lt)]
  by_cases e : x' = i
  · subst e
    rw [if_pos rfl]
    exact ⟨fun _ => ⟨h1, y, (Pr.succ hy).2 (.inr ⟨rfl, rfl⟩), h2⟩, fun _ => rfl⟩
  · rw [if_neg e, h.2 x']
    refine ⟨fun ⟨h3, y', h4, h5⟩ => ⟨h3, y', (Pr.succ hy).2 (.inl h4), h5⟩, fun ⟨h3, y', h4, h5⟩ => ⟨h3, y', ?_, h5⟩⟩
    rcases (Pr.succ hy).1 h4 with h4 | ⟨e2, _⟩
    · exact h4
    · exact absurd e2 e
theorem ToOk.take (h : ToOk next l0 i c t) (hy : (next.getD i [])[c]? = some (y : Int)) (h1 : On l0 i) (h2 : On l0 y) : ToOk next l0 i (c + 1) (t.set y true) := by
  refine ⟨by rw [List.length_set]; exact h.1, fun x' => ?_⟩
  rw [On.set_iff (by rw [h.1]; exact h2.lt)]
  by_cases e : x' = y
  · subst e
    rw [if_pos rfl]
    exact ⟨fun _ => ⟨h2, i, (Pr.succ hy).2 (.inr ⟨rfl, rfl⟩), h1⟩, fun _ => rfl⟩
  · rw [if_neg e, h.2 x']
    refine ⟨fun ⟨h3, y', h4, h5⟩ => ⟨h3, y', (Pr.succ hy).2 (.inl h4), h5⟩, fun ⟨h3, y', h4, h5⟩ => ⟨h3, y', ?_, h5⟩⟩
    rcases (Pr.succ hy).1 h4 with h4 | ⟨_, e2⟩
    · exact h4
    · exact absurd e2 e
theorem FrOk.row (h : FrOk next l0 i c fr) (hc : (next.getD i []).length ≤ c) : FrOk next l0 (i + 1) 0 fr :=
  ⟨h.1, fun x => (h.2 x).trans ⟨fun ⟨a, y, b, d⟩ => ⟨a, y, (Pr.row hc).1 b, d⟩, fun ⟨a, y, b, d⟩ => ⟨a, y, (Pr.row hc).2 b, d⟩⟩⟩
theorem ToOk.row (h : ToOk next l0 i c t) (hc : (next.getD i []).length ≤ c) : ToOk next l0 (i + 1) 0 t :=
  ⟨h.1, fun x => (h.2 x).trans ⟨fun ⟨a, y, b, d⟩ => ⟨a, y, (Pr.row hc).1 b, d⟩, fun ⟨a, y, b, d⟩ => ⟨a, y, (Pr.row hc).2 b, d⟩⟩⟩
/-- The set with the first k places renewed. -/
def Ren (l0 fr t : List Bool) (k : Nat) (l : List Bool) : Prop := l.length = l0.length ∧ ∀ x, On l x ↔ On l0 x ∧ (x < k → On fr x ∧ On t x)
theorem Ren.start : Ren l0 fr t 0 l0 := ⟨rfl, fun _ => ⟨fun h => ⟨h, fun h2 => absurd h2 (Nat.not_lt_zero _)⟩, fun h => h.1⟩⟩
theorem Ren.step {k : Nat} {b p q : Bool} (h : Ren l0 fr t k l) (hb : l[k]? = some b) (hp : fr[k]? = some p) (hq : t[k]? = some q) : Ren l0 fr t (k + 1) (l.set k (b && p && q)) := by
  have hk : k < l.length := (List.getElem?_eq_some_iff.1 hb).1
  refine ⟨by rw [List.length_set]; exact h.1, fun x => ?_⟩
  rw [On.set_iff hk]
  by_cases e : x = k
  · subst e
    have hx := h.2 x
    rw [if_pos rfl]
    have h1 : On l x ↔ b = true := by unfold On; rw [hb]; simp
    have h2 : On fr x ↔ p = true := by unfold On; rw [hp]; simp
    have h3 : On t x ↔ q = true := by unfold On; rw [hq]; simp
    rw [h1] at hx
    rw [Bool.and_eq_true, Bool.and_eq_true, hx, h2, h3]
    constructor
    · rintro ⟨⟨⟨a, _⟩, b⟩, c⟩; exact ⟨a, fun _ => ⟨b, c⟩⟩
    · rintro ⟨a, b⟩
      obtain ⟨c, d⟩ := b (by omega)
      exact ⟨⟨⟨a, fun h => absurd h (by omega)⟩, c⟩, d⟩
  · rw [if_neg e, h.2 x]
    constructor
    · rintro ⟨a, b⟩; exact ⟨a, fun hx => b (by omega)⟩
    · rintro ⟨a, b⟩; exact ⟨a, fun hx => b (by omega)⟩
theorem Ren.rnd (h : Ren l0 fr t n l) (hl : l0.length = n) (hn : next.length ≤ n) (hf : FrOk next l0 n 0 fr) (ht : ToOk next l0 n 0 t) : Rnd (EntN next) l0 l := by
  refine ⟨h.1, fun x => ?_⟩
  rw [h.2 x]
  constructor
  · rintro ⟨a, b⟩
    obtain ⟨c, d⟩ := b (by rw [← hl]; exact a.lt)
    obtain ⟨_, y, hy, hy2⟩ := (hf.2 x).1 c
    obtain ⟨_, z, hz, hz2⟩ := (ht.2 x).1 d
    exact ⟨a, ⟨y, hy2, (Pr.all hn).1 hy⟩, z, hz2, (Pr.all hn).1 hz⟩
  · rintro ⟨a, ⟨y, hy, hy2⟩, z, hz, hz2⟩
    exact ⟨a, fun _ => ⟨(hf.2 x).2 ⟨a, y, (Pr.all hn).2 hy2, hy⟩, (ht.2 x).2 ⟨a, z, (Pr.all hn).2 hz2, hz⟩⟩⟩
end
/-- A slice of bools of the call's own, by its cells. -/
def Bl (w : World) (b : Nat) (l : List Bool) : Prop := b < w.heap.size ∧ ∀ i x, l[i]? = some x → w.cell? ⟨b, i, none⟩ = some (.bool x) ∧ w.frozen? ⟨b, i, none⟩ = false
theorem Bl.set {w : World} {b i : Nat} {l : List Bool} (h : Bl w b l) (hi : i < l.length) (y : Bool) : Bl (w.setCell ⟨b, i, none⟩ (.bool y)) b (l.set i y) := by
  refine ⟨by simpa using h.1, fun j x hx => ?_⟩
  by_cases e : i = j
  · subst e
    rw [List.getElem?_set_self hi] at hx
    cases hx
    have h1 := h.2 i _ (List.getElem?_eq_getElem hi)
    exact ⟨World.cell?_setCell_same _ _ _ h1.1, by rw [World.frozen?_setCell]; exact h1.2⟩
  · rw [List.getElem?_set_ne e] at hx
    have h1 := h.2 j x hx
    exact ⟨by rw [World.cell?_setCell_other _ _ _ _ (by simp)]; exact h1.1, by rw [World.frozen?_setCell]; exact h1.2⟩
theorem Bl.other {w : World} {b b' i : Nat} {l : List Bool} (h : Bl w b l) (hb : b' ≠ b) (u : Value) : Bl (w.setCell ⟨b', i, none⟩ u) b l :=
  ⟨by simpa using h.1, fun j x hx => ⟨by rw [World.cell?_setCell_other _ _ _ _ (by intro h2; injection h2 with h3; exact hb h3)]; exact (h.2 j x hx).1, by rw [World.frozen?_setCell]; exact (h.2 j x hx).2⟩⟩
end Go.Sd
end

section
namespace Go.Proofs.YtcilgihmaaobeaaGreatDoor
open Go.RowKit Go.Deep Go.Sd

theorem isMat_bd {m : List (List Int)} (h : isMat m = true) : ∀ r, r ∈ m → ∀ x, x ∈ r → 0 ≤ x ∧ x ≤ 1000000 := by
  unfold isMat at h
  simp only [Bool.and_eq_true, decide_eq_true_eq, List.all_eq_true] at h
  intro r hr x hx
  have := h.2 r hr
  unfold rowOk at this
  simp at this
  have := this.2 x hx
  unfold entOk at this
  simpa using this
end Go.Proofs.YtcilgihmaaobeaaGreatDoor
end

section
namespace Go.Proofs.YtcilgihmaaobeaaGreatDoor
open Go.RowKit Go.Deep Go.Sd

theorem infoB : (Tryz.prog.info? 4).map (fun i => (i.zero, i.size, i.bytes)) = some (some (.bool false), 1, 1) := by kernel_rfl



end Go.Proofs.YtcilgihmaaobeaaGreatDoor
end

section
namespace Go.Proofs.YtcilgihmaaobeaaGreatDoor
open Go.RowKit Go.Deep Go.Sd

def skip (j k : Nat) : Nat := if k < j then k else k + 1
end Go.Proofs.YtcilgihmaaobeaaGreatDoor
end

section
namespace Go.Sd
open Go.RowKit Go.Deep
theorem Tab.rowOf {w : World} {v : Value} {m : List (List Int)} (h : Tab w v m) {i : Nat} {r : List Int} (hr : m[i]? = some r) : ∃ b o c a' c', v = .slice (some ⟨b, o, none⟩) m.length c ∧ b < w.heap.size ∧ w.cell? ⟨b, o + i, none⟩ = some (.slice a' r.length c') ∧ Ints w (.slice a' r.length c') r := by
  obtain ⟨a, c, rfl, -, -, hc⟩ := h.shape
  have hi := (List.getElem?_eq_some_iff.1 hr).1
  obtain ⟨b, o, rfl, hb, hx⟩ := hc (by omega)
  obtain ⟨u, hu, hru⟩ := hx i r hr
  obtain ⟨a', c', rfl, -⟩ := hru.shape
  exact ⟨b, o, c, a', c', rfl, hb, hu, hru⟩
theorem Ints.elOf {w : World} {v : Value} {xs : List Int} (h : Ints w v xs) {j : Nat} {x : Int} (hx : xs[j]? = some x) : ∃ b o c, v = .slice (some ⟨b, o, none⟩) xs.length c ∧ b < w.heap.size ∧ w.cell? ⟨b, o + j, none⟩ = some (.int .i64 x) := by
  obtain ⟨a, c, rfl, -, -, hc⟩ := h.shape
  have hi := (List.getElem?_eq_some_iff.1 hx).1
  obtain ⟨b, o, rfl, hb, hx'⟩ := hc (by omega)
  obtain ⟨u, hu, hru⟩ := hx' j x hx
  exact ⟨b, o, c, rfl, hb, by rw [hu, show u = .int .i64 x from hru]⟩
end Go.Sd
namespace Go.Proofs.YtcilgihmaaobeaaGreatDoor
open Go.RowKit Go.Deep Go.Sd
set_option linter.unusedSimpArgs false
end Go.Proofs.YtcilgihmaaobeaaGreatDoor
end

section
namespace Go.Proofs.YtcilgihmaaobeaaGreatDoor
open Go.RowKit Go.Deep Go.Sd
set_option linter.unusedSimpArgs false
def tot (r : List Int) : Nat → Int
  | 0 => 0
  | j + 1 => tot r j + r.getD j 0
def sumK (m : List (List Int)) : Nat → Int
  | 0 => 0
  | k + 1 => sumK m k + tot (m.getD k []) (m.getD k []).length
def sumV (m : List (List Int)) : Int := if isMat m = true then sumK m m.length else -1
theorem tot_bd {r : List Int} (h : ∀ x, x ∈ r → 0 ≤ x ∧ x ≤ 1000000) : ∀ j, j ≤ r.length → 0 ≤ tot r j ∧ tot r j ≤ (j : Int) * 1000000
  | 0, _ => by simp [tot]
  | j + 1, hj => by
    have h1 := tot_bd h j (by omega)
    have h2 := h r[j] (List.getElem_mem (by omega))
    have e : r.getD j 0 = r[j]'(by omega) := by simp [List.getD, show j < r.length by omega]
    rw [tot, e]
    omega
theorem sumK_bd {m : List (List Int)} (h : isMat m = true) : ∀ k, k ≤ m.length → 0 ≤ sumK m k ∧ sumK m k ≤ (k : Int) * 9000000
  | 0, _ => by simp [sumK]
  | k + 1, hk => by
    have h1 := sumK_bd h k (by omega)
    obtain ⟨hs, h0, h9⟩ := isMat_sq h
    have hb := isMat_bd h
    have hm : m[k]'(by omega) ∈ m := List.getElem_mem _
    have e : m.getD k [] = m[k]'(by omega) := by simp [List.getD, show k < m.length by omega]
    have hl := hs.2 _ hm
    have h2 := tot_bd (hb _ hm) _ (Nat.le_refl _)
    rw [sumK, e]
    rw [hl] at h2 ⊢
    omega
set_option maxHeartbeats 1000000 in
theorem spec_SumOf_c {w : World} {v : Value} {m : List (List Int)} (h : Tab w v m) :
    Calls Tryz.prog 31 #[v] w fun e w' => e = .returned (.int .i64 (sumV m)) ∧ w = w' := by
  have HI := Lib.hid (spec_IsMatrix_c h)
  have HC := Lib.hid (fun k r (hr : m[k]? = some r) => h.rowOf hr)
  obtain ⟨a, c, rfl, -⟩ := h.shape
  have HV := Lib.hid (show sumV m = if isMat m = true then sumK m m.length else -1 from rfl)
  generalize sumV m = R at HV ⊢
  clear h
  cases him : isMat m with
  | false =>
    have HF := Lib.hid (show R = -1 from by rw [HV.out, if_neg (by rw [him]; simp)])
    rw [him] at HI
    clear HV him HC
    go_enter Tryz.func31, Tryz.ntmps31
    go_wp2_with fail
    (with_reducible refine HI.out.mono ?_)
    rintro e w9 ⟨rfl, hw9⟩
    rw [← hw9]
    clear hw9 w9
    go_wp2
    go_ret
    exact ⟨by rw [HF.out]; rfl, rfl⟩
  | true =>
  have HF := Lib.hid (show R = sumK m m.length from by rw [HV.out, if_pos him])
  obtain ⟨hs, h0, h9⟩ := isMat_sq him
  have Hl := Lib.hid (fun k r (hr : m[k]? = some r) => hs.2 r (List.mem_of_getElem? hr))
  have Hb := Lib.hid (fun k r (hr : m[k]? = some r) => (show (∀ x : Int, x ∈ r → 0 ≤ x ∧ x ≤ 1000000) ∧ r.length ≤ 9 from ⟨isMat_bd him r (List.mem_of_getElem? hr), by rw [hs.2 r (List.mem_of_getElem? hr)]; exact h9⟩))
  have HB := Lib.hid (fun k (hk : k ≤ m.length) => sumK_bd him k hk)
  have HS := Lib.hid (fun k r (hr : m[k]? = some r) => (show sumK m (k + 1) = sumK m k + tot r r.length from by rw [sumK]; simp [List.getD, hr]))
  have HTb := Lib.hid (fun k r (hr : m[k]? = some r) j (hj : j ≤ r.length) => tot_bd (Hb.out k r hr).1 j hj)
  rw [him] at HI
  obtain ⟨n, hn⟩ : ∃ n, n = m.length := ⟨_, rfl⟩
  have Hn := Lib.hid hn
  rw [← hn] at HI HB HF h9 Hl ⊢
  clear HV him hs h0 hn
  go_enter Tryz.func31, Tryz.ntmps31
  go_wp2_with fail
  (with_reducible refine HI.out.mono ?_)
  rintro e w9 ⟨rfl, hw9⟩
  rw [← hw9]
  clear hw9 w9
  go_wp2
  go_loopg [3, 4] n (fun g sv iv wr => ∃ (k : Nat) (S : Int), sv = .int .i64 S ∧ iv = .int .i64 k ∧ k + g = n ∧ Hid (S = sumK m k) ∧ wr = w)
  case atStart => exact ⟨0, 0, rfl, rfl, by omega, Lib.hid rfl, rfl⟩
  case round =>
    obtain ⟨k, S, rfl, rfl, hk, hS, rfl⟩ := hrel
    by_cases hkn : k < n
    · have hki : (k : Int) < (n : Int) := by omega
      obtain ⟨g, rfl⟩ : ∃ x, gk = x + 1 := ⟨gk - 1, by omega⟩
      obtain ⟨r, hr, -⟩ := at_lt (xs := m) (k := k) (by have := Hn.out; omega)
      obtain ⟨b, o, c2, ra, rc, hv, -, g0, hri⟩ := HC.out k r hr
      simp only [Value.slice.injEq] at hv
      obtain ⟨rfl, -, rfl⟩ := hv
      have h1 := HB.out k (by omega)
      have HTr := Lib.hid (HTb.out k r hr)
      have h3 := HS.out k r hr
      have hrl := Hl.out k r hr
      have Hrb := Lib.hid (Hb.out k r hr).1
      have Hri := Lib.hid hri
      have Hrl := Lib.hid hrl
      have HSk := Lib.hid h3
      rw [hrl] at g0
      obtain ⟨S0, hS0⟩ : ∃ S0, S0 = S := ⟨_, rfl⟩
      have hS0b : 0 ≤ S0 ∧ S0 ≤ 81000000 := by rw [hS0, hS.out]; omega
      have HS0 := Lib.hid (show S0 = sumK m k from by rw [hS0]; exact hS.out)
      have HS1 := Lib.hid (show S = S0 + tot r 0 from by rw [hS0]; simp [tot])
      clear hr h1 h3 hS hri hrl hS0
      go_wp2
      go_loopg [3, 5] n (fun g2 sv jv wr2 => ∃ (j : Nat) (S : Int), sv = .int .i64 S ∧ jv = .int .i64 j ∧ j + g2 = n ∧ Hid (S = S0 + tot r j) ∧ wr2 = wr)
      case atStart => exact ⟨0, S, rfl, rfl, by omega, HS1, rfl⟩
      case round =>
        clear HS1
        obtain ⟨j, S, rfl, rfl, hj, hS, rfl⟩ := hrel
        by_cases hjn : j < n
        · have hji : (j : Int) < (n : Int) := by omega
          obtain ⟨g2, rfl⟩ : ∃ x, gk = x + 1 := ⟨gk - 1, by omega⟩
          obtain ⟨x, hx, -⟩ := at_lt (xs := r) (k := j) (by have := Hrl.out; omega)
          obtain ⟨b2, o2, c2, hv, -, gx⟩ := Hri.out.elOf hx
          simp only [Value.slice.injEq] at hv
          obtain ⟨rfl, -, rfl⟩ := hv
          have h1 := HTr.out j (by have := Hrl.out; omega)
          have h2 := Hrb.out x (List.mem_of_getElem? hx)
          have HS2 := Lib.hid (show S + x = S0 + tot r (j + 1) from by rw [tot, hS.out]; simp [List.getD, hx]; omega)
          have hSb : 0 ≤ S ∧ S ≤ 100000000 := by rw [hS.out]; omega
          have hw : IntKind.i64.wrap (S + x) = S + x := IntWalk.i64_in _ (by omega)
          clear hx h1 hS
          go_wp2
          go_roundg g2
          case measure => omega
          case rel => exact ⟨j + 1, S + x, rfl, by go_num, by omega, HS2, rfl⟩
        · have hji : ¬ ((j : Int) < (n : Int)) := by omega
          have HF3 := Lib.hid (show S = sumK m (k + 1) from by rw [hS.out, HSk.out, HS0.out, Hrl.out, show n = j from by omega])
          clear hS
          go_wp2
          go_roundg g
          case measure => omega
          case rel => exact ⟨k + 1, S, rfl, by go_num, by omega, HF3, rfl⟩
    · have hki : ¬ ((k : Int) < (n : Int)) := by omega
      have HF2 := Lib.hid (show R = S from by rw [HF.out, hS.out, show n = k from by omega])
      clear hS HF
      go_wp2
      go_ret
      exact ⟨by rw [HF2.out]; rfl, rfl⟩
end Go.Proofs.YtcilgihmaaobeaaGreatDoor
end

section
namespace Go.Sd
open Go.RowKit Go.Deep
/-- Own arcs: the block that holds them. -/
def OArcs : OwnRel (List Arc3) := fun w v xs F =>
  xs.length ≤ 9223372036854775807 ∧ ((xs = [] ∧ v = .slice none 0 0 ∧ F = []) ∨ ∃ B c, v = .slice (some ⟨B, 0, none⟩) xs.length c ∧ xs.length ≤ c ∧ c ≤ 9223372036854775807 ∧ F = [B] ∧ B < w.heap.size ∧ CellsI w B (xs.length * 3) (arcF xs xs.length))
def OLab : OwnRel Lb := fun w v x F => ∃ va, v = .agg #[.int .i64 x.1, .int .i64 x.2.1, va] ∧ OArcs w va x.2.2 F
theorem CellsI.same {w w' : World} {B m : Nat} {f : Nat → Int} (h : CellsI w B m f) (e : w'.heap[B]? = w.heap[B]?) : CellsI w' B m f := by
  intro j hj
  obtain ⟨h1, h2⟩ := h j hj
  constructor
  · rw [← h1]; simp [World.cell?, e]
  · rw [← h2]; simp [World.frozen?, e]
theorem OArcs.held : Held OArcs := by
  refine ⟨?_, ?_⟩
  · rintro w w' v xs F ⟨h0, h⟩ hk
    refine ⟨h0, h.imp id ?_⟩
    rintro ⟨B, c, rfl, h1, h2, rfl, hB, hc⟩
    have e := hk B (by simp)
    have hB' : B < w'.heap.size := by
      have h3 : (w.heap[B]?).isSome = true := by simp [hB]
      rw [← e] at h3
      simpa using h3
    exact ⟨B, c, rfl, h1, h2, rfl, hB', hc.same e⟩
  · rintro w v xs F ⟨_, h⟩ b hb
    rcases h with ⟨_, _, rfl⟩ | ⟨B, c, _, _, _, rfl, hB, _⟩
    · simp at hb
    · simp at hb; subst hb; exact hB
theorem OArcs.reads {w : World} {v : Value} {xs : List Arc3} {F : List Nat} (h : OArcs w v xs F) : ArcsR w v xs := by
  obtain ⟨h0, ⟨rfl, rfl, rfl⟩ | ⟨B, c, rfl, h1, h2, rfl, hB, hc⟩⟩ := h
  · exact ⟨h0, none, 0, rfl, by simp, by simp, fun _ => rfl, by simp⟩
  · obtain ⟨a0, a1, a2, a3, a4, a5, a6, a7⟩ := ArcsR.of_cells hB h0 hc
    simp at a3
    obtain ⟨rfl, rfl⟩ := a3
    exact ⟨h0, _, c, rfl, h1, h2, by simp, a7⟩
theorem OLab.held : Held OLab :=
  ⟨fun w w' v x F ⟨va, e, h⟩ hk => ⟨va, e, OArcs.held.keep _ _ _ _ _ h hk⟩, fun w v x F ⟨_, _, h⟩ b hb => OArcs.held.lt _ _ _ _ h b hb⟩
theorem OLab.reads {w : World} {v : Value} {x : Lb} {F : List Nat} (h : OLab w v x F) : LabR w v x := by obtain ⟨va, e, h⟩ := h; exact ⟨va, e, h.reads⟩
theorem New.lab {lo : Nat} {w : World} {v : Value} {x : Lb} (h : New OLab lo w v x) : LabR w v x := by obtain ⟨F, h, _⟩ := h; exact h.reads
end Go.Sd
namespace Go.Proofs.YtcilgihmaaobeaaGreatDoor
open Go.RowKit Go.Deep Go.Sd

end Go.Proofs.YtcilgihmaaobeaaGreatDoor
end
