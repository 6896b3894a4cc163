/-
  Laws for this claim's walks, contracts of the functions that it reaches.
-/
import Derived.Test.YtcilgihmaaobeaaGreatDoorFnLabelsM22
set_option linter.unusedVariables false
set_option linter.unusedSimpArgs false
section
namespace Go.Proofs.YtcilgihmaaobeaaGreatDoor
open Go.RowKit Go.Deep Go.Sd
def bl (w : List Nat) : List UInt8 := w.map fun x => UInt8.ofNat (97 + x)
theorem bl_data (w : List Nat) : (wordT w).data.toList = bl w := rfl
theorem bl_append (u v : List Nat) : bl (u ++ v) = bl u ++ bl v := List.map_append
theorem bl_step {A : List Arc3} {s x : Nat} (hx : x < 3) : readB A (bl [x]) s = stepN A s (x : Int) := by
  show stepN _ _ (((UInt8.ofNat (97 + x)).toNat : Int) - 97) = _
  congr 1
  simp
  omega
theorem bl_snoc {A : List Arc3} {s x : Nat} (hx : x < 3) (wd : List Nat) : readB A (bl (wd ++ [x])) s = stepN A (readB A (bl wd) s) (x : Int) := by
  rw [bl_append, readB_append, bl_step hx]
theorem bl_cons {A : List Arc3} {s x : Nat} (hx : x < 3) (wd : List Nat) : readB A (bl (x :: wd)) s = readB A (bl wd) (stepN A s (x : Int)) := by
  rw [show x :: wd = [x] ++ wd from rfl, bl_append, readB_append, bl_step hx]
/-- A word in letters below a number. -/
def Lets (N : Nat) (wd : List Nat) : Prop := ∀ x, x ∈ wd → x < N
theorem Lets.snoc {N : Nat} {wd : List Nat} {x : Nat} (h : Lets N wd) (hx : x < N) : Lets N (wd ++ [x]) := fun y hy => by
  rcases List.mem_append.1 hy with hy | hy
  · exact h y hy
  · simp at hy; omega
theorem Lets.pre {N : Nat} {u v : List Nat} (h : Lets N (u ++ v)) : Lets N u := fun y hy => h y (by simp [hy])
theorem Lets.last {N : Nat} {u : List Nat} {x : Nat} (h : Lets N (u ++ [x])) : x < N := h x (by simp)
/-- Words from behind. -/
theorem snoc_ind {p : List Nat → Prop} (h0 : p []) (h1 : ∀ u x, p u → p (u ++ [x])) : ∀ (n : Nat) (w : List Nat), w.length = n → p w
  | 0, w, h => by rw [List.length_eq_zero_iff] at h; subst h; exact h0
  | n + 1, w, h => by
    rcases List.eq_nil_or_concat w with e | ⟨u, x, e⟩
    · subst e; cases h
    · rw [List.concat_eq_append] at e
      subst e
      exact h1 u x (snoc_ind h0 h1 n u (by simpa using h))
theorem snoc_rec {p : List Nat → Prop} (w : List Nat) (h0 : p []) (h1 : ∀ u x, p u → p (u ++ [x])) : p w := snoc_ind h0 h1 _ w rfl
end Go.Proofs.YtcilgihmaaobeaaGreatDoor
end

section
namespace Go.Proofs.YtcilgihmaaobeaaGreatDoor
open Go.RowKit Go.Deep Go.Sd
/-! The program's way: arcs at once, and an end as soon as there are more than 12 sets. -/
/-! The result. -/
theorem nm_lt {l : List Bool} {i : Nat} (h : l.getD i false = true) : nm l i < cntT l := by
  have h1 : l[i]? = some true := by
    cases e : l[i]? with
    | none => simp [List.getD, e] at h
    | some b => simp [List.getD, e] at h; rw [h]
  have h2 := nm_succ h1
  have h3 := nm_le l (i + 1)
  simp at h2
  omega
theorem trim_ok {l : Lb} (h : trimOk l = true) : okArcs (trimV l).2.1 (trimV l).2.2 ∧ 1 ≤ (trimV l).2.1 ∧ (trimV l).2.1 ≤ 12 ∧ 1 ≤ (trimV l).1 ∧ (trimV l).1 ≤ 3 ∧ (trimV l).1 = l.1 ∧ (trimV l).2.2.length ≤ 768 := by
  have e : trimV l = keepV l (liveO l) := by unfold trimV; rw [if_pos h]
  unfold trimOk at h
  rw [Bool.and_eq_true] at h
  obtain ⟨h1, h2⟩ := h
  have h2 : cntT (liveO l) ≠ 0 := by simpa using h2
  obtain ⟨k1, k2, k3, k4, k5⟩ := isLab_ok h1
  have h5 := isLab_len h1
  have h6 := trimV_len l
  have h3 : cntT (liveO l) ≤ (liveO l).length := cntT_le
  rw [liveO_len] at h3
  refine ⟨?_, ?_, ?_, ?_, ?_, ?_, by omega⟩
  · rw [e]
    intro a ha
    unfold keepV trimA at ha
    obtain ⟨b, hb, rfl⟩ := List.mem_map.1 ha
    have hk := (List.mem_filter.1 hb).2
    unfold kept at hk
    rw [Bool.and_eq_true] at hk
    have q1 := nm_lt hk.1
    have q2 := nm_lt hk.2
    simp only [renA, keepV]
    omega
  · rw [e]; simp only [keepV]; omega
  · rw [e]; simp only [keepV]; omega
  · rw [e]; exact k4
  · rw [e]; exact k5
  · rw [e]; rfl
end Go.Proofs.YtcilgihmaaobeaaGreatDoor
end

section
namespace Go.Proofs.YtcilgihmaaobeaaGreatDoor
open Go.RowKit Go.Deep Go.Sd
section
variable {α : Type}
def pick : List α → List Bool → List α
  | x :: xs, b :: bs => if b = true then x :: pick xs bs else pick xs bs
  | _, _ => []
theorem pick_t (x : α) (xs : List α) (bs : List Bool) : pick (x :: xs) (true :: bs) = x :: pick xs bs := rfl
theorem pick_f (x : α) (xs : List α) (bs : List Bool) : pick (x :: xs) (false :: bs) = pick xs bs := rfl
theorem pick_all : ∀ xs : List α, pick xs (List.replicate xs.length true) = xs
  | [] => rfl
  | x :: xs => by
    show pick (x :: xs) (true :: List.replicate xs.length true) = _
    unfold pick
    rw [if_pos rfl, pick_all xs]
theorem pick_len : ∀ (xs : List α) (l : List Bool), l.length = xs.length → (pick xs l).length = cntT l
  | [], [], _ => rfl
  | [], _ :: _, h => by cases h
  | _ :: _, [], h => by cases h
  | x :: xs, b :: bs, h => by
    have ih := pick_len xs bs (by simpa using h)
    unfold pick
    cases b with
    | true => rw [if_pos rfl, List.length_cons, ih]; simp [cntT]
    | false => rw [if_neg (by decide), ih]; simp [cntT]
theorem pick_mem : ∀ (xs : List α) (l : List Bool) (x : α), x ∈ pick xs l ↔ ∃ i : Nat, On l i ∧ xs[i]? = some x
  | [], _, x => by simp [pick]
  | _ :: _, [], x => by simp [pick, On]
  | y :: ys, b :: bs, x => by
    have ih := pick_mem ys bs x
    have key : (∃ i : Nat, On (b :: bs) i ∧ (y :: ys)[i]? = some x) ↔ (b = true ∧ y = x) ∨ ∃ i : Nat, On bs i ∧ ys[i]? = some x := by
      constructor
      · rintro ⟨i, h1, h2⟩
        cases i with
        | zero =>
          left
          have e1 : b = true := by simpa [On] using h1
          have e2 : y = x := by simpa using h2
          exact ⟨e1, e2⟩
        | succ i => right; exact ⟨i, by simpa [On] using h1, by simpa using h2⟩
      · rintro (⟨h1, h2⟩ | ⟨i, h1, h2⟩)
        · exact ⟨0, by simp [On, h1], by simp [h2]⟩
        · exact ⟨i + 1, by simpa [On] using h1, by simpa using h2⟩
    rw [key, ← ih]
    cases b with
    | true => rw [pick_t, List.mem_cons]; simp [eq_comm]
    | false => rw [pick_f]; simp
/-- What is left of a mask where something holds. -/
def maskF (p : α → Bool) : List α → List Bool → List Bool
  | x :: xs, b :: bs => (b && p x) :: maskF p xs bs
  | _, bs => bs
theorem maskF_len (p : α → Bool) : ∀ (xs : List α) (l : List Bool), (maskF p xs l).length = l.length
  | [], _ => by unfold maskF; rfl
  | _ :: _, [] => rfl
  | _ :: xs, _ :: bs => by unfold maskF; rw [List.length_cons, List.length_cons, maskF_len p xs bs]
theorem pick_filter (p : α → Bool) : ∀ (xs : List α) (l : List Bool), (pick xs l).filter p = pick xs (maskF p xs l)
  | [], l => by simp [pick]
  | _ :: _, [] => by simp [pick, maskF]
  | x :: xs, b :: bs => by
    have ih := pick_filter p xs bs
    unfold maskF
    cases b with
    | true =>
      rw [pick_t, List.filter_cons]
      cases hp : p x with
      | true => rw [if_pos rfl, ih]; rfl
      | false => rw [if_neg (by decide), ih]; rfl
    | false => rw [pick_f, ih]; rfl
theorem maskF_on (p : α → Bool) : ∀ (xs : List α) (l : List Bool), l.length = xs.length → ∀ i, On (maskF p xs l) i ↔ On l i ∧ ∃ x, xs[i]? = some x ∧ p x = true
  | [], [], _, i => by simp [maskF, On]
  | [], _ :: _, h, _ => by cases h
  | _ :: _, [], h, _ => by cases h
  | x :: xs, b :: bs, h, i => by
    have ih := maskF_on p xs bs (by simpa using h)
    unfold maskF
    cases i with
    | zero => simp [On]
    | succ i =>
      have := ih i
      simpa [On] using this
end
/-- A word of two letters may be followed by another. -/
def goesB (F : List ByteArray) (u v : List Nat) : Bool := decide (u.getD 1 0 = v.getD 0 0) && avoM F (wordT (u ++ v.drop 1))
def EG (F : List ByteArray) (W : List (List Nat)) (i j : Nat) : Prop := ∃ u v, W[i]? = some u ∧ W[j]? = some v ∧ goesB F u v = true
def avoW (F : List ByteArray) (L : Nat) : List (List Nat) := (allW L 2).filter fun wd => avoM F (wordT wd)
noncomputable def pairsM (F : List ByteArray) (L : Nat) : List (List Nat) := pick (avoW F L) (liveL (EG F (avoW F L)) (avoW F L).length)
/-- What is kept in one pass. -/
def keepB (F : List ByteArray) (out : List (List Nat)) (u : List Nat) : Bool := out.any (fun v => goesB F u v) && out.any (fun v => goesB F v u)
theorem keep_rnd (F : List ByteArray) (W : List (List Nat)) (l : List Bool) (h : l.length = W.length) : Rnd (EG F W) l (maskF (keepB F (pick W l)) W l) := by
  refine ⟨maskF_len _ _ _, fun i => ?_⟩
  rw [maskF_on _ _ _ h]
  constructor
  · rintro ⟨h1, x, hx, hk⟩
    refine ⟨h1, ?_⟩
    unfold keepB at hk
    rw [Bool.and_eq_true, List.any_eq_true, List.any_eq_true] at hk
    obtain ⟨⟨v, hv, hg⟩, u, hu, hg2⟩ := hk
    obtain ⟨j, hj, hjv⟩ := (pick_mem _ _ _).1 hv
    obtain ⟨k, hk, hku⟩ := (pick_mem _ _ _).1 hu
    exact ⟨⟨j, hj, x, v, hx, hjv, hg⟩, k, hk, u, x, hku, hx, hg2⟩
  · rintro ⟨h1, ⟨j, hj, x, v, hx, hv, hg⟩, k, hk, u, x', hu, hx', hg2⟩
    rw [hx] at hx'
    cases hx'
    refine ⟨h1, x, hx, ?_⟩
    unfold keepB
    rw [Bool.and_eq_true, List.any_eq_true, List.any_eq_true]
    exact ⟨⟨v, (pick_mem _ _ _).2 ⟨j, hj, hv⟩, hg⟩, u, (pick_mem _ _ _).2 ⟨k, hk, hu⟩, hg2⟩
/-- Where a pass keeps all, the end is reached. -/
theorem keep_end {F : List ByteArray} {W : List (List Nat)} {l : List Bool} (hS : Sup (EG F W) W.length l) (h : (pick W (maskF (keepB F (pick W l)) W l)).length = (pick W l).length) : pick W l = pick W (liveL (EG F W) W.length) := by
  have hl := hS.1
  have hr := keep_rnd F W l hl
  rw [pick_len _ _ (by rw [maskF_len, hl]), pick_len _ _ hl] at h
  have e := (cntT_mono hr.1 (fun i hi => ((hr.2 i).1 hi).1)).2 h
  have hc : Clos (EG F W) W.length (On l) := fun i hi => by
    have h2 := (hr.2 i).1 (by rw [e]; exact hi)
    exact ⟨by have := hi.lt; omega, h2.2⟩
  rw [← live_of hS hc]
/-- A pass keeps what is above all. -/
theorem keep_sup {F : List ByteArray} {W : List (List Nat)} {l : List Bool} (hS : Sup (EG F W) W.length l) : Sup (EG F W) W.length (maskF (keepB F (pick W l)) W l) := by
  have hr := keep_rnd F W l hS.1
  refine ⟨by rw [maskF_len]; exact hS.1, fun i hg => (hr.2 i).2 ⟨hS.2 i hg, hS.both hg⟩⟩
theorem keep_less {F : List ByteArray} {W : List (List Nat)} {l : List Bool} (hl : l.length = W.length) (h : (pick W (maskF (keepB F (pick W l)) W l)).length ≠ (pick W l).length) : cntT (maskF (keepB F (pick W l)) W l) < cntT l := by
  have hr := keep_rnd F W l hl
  rw [pick_len _ _ (by rw [maskF_len, hl]), pick_len _ _ hl] at h
  have := (cntT_mono hr.1 (fun i hi => ((hr.2 i).1 hi).1)).1
  omega
noncomputable def statesM (F : List ByteArray) (L : Nat) : List (List Nat) := (allW L 2).filter fun wd => avoM F (wordT wd) && hasB ((pairsM F L).map wordT) (wordT wd)
end Go.Proofs.YtcilgihmaaobeaaGreatDoor
end

section
namespace Go.Proofs.YtcilgihmaaobeaaGreatDoor
open Go.RowKit Go.Deep Go.Sd
set_option linter.unusedSimpArgs false
abbrev OStrs : OwnRel (List ByteArray) := OwnOf 9 (OValR Value.string)
theorem OStrs.kept : Kept OStrs := OwnOf.kept OStr.kept
theorem OStrs.held : Held OStrs := OStrs.kept.held
abbrev StrsR : World → Value → List ByteArray → Prop := SlOf (ValR Value.string)
theorem StrsR.frame : Framed StrsR := SlOf.frame (fun _ _ _ _ h _ => h)
theorem New.strs {lo : Nat} {w : World} {v : Value} {xs : List ByteArray} (h : New OStrs lo w v xs) : StrsR w v xs := by obtain ⟨F, hF, _⟩ := h; exact OwnOf.reads (fun _ _ _ _ h => h.1) hF
end Go.Proofs.YtcilgihmaaobeaaGreatDoor
end

section
namespace Go.Proofs.YtcilgihmaaobeaaGreatDoor
open Go.RowKit Go.Deep Go.Sd
set_option linter.unusedSimpArgs false
set_option maxHeartbeats 400000 in
theorem powerK_c {w : World} {L e : Nat} (hL : L ≤ 3) (he : e ≤ 6) :
    Calls Tryz.prog 98 #[.int .i64 L, .int .i64 e] w fun x w' => x = .returned (.int .i64 ((L ^ e : Nat) : Int)) ∧ w = w' := by
  have HL := Lib.hid hL
  go_enter Tryz.func98, Tryz.ntmps98
  go_wp2
  go_loopg [5, 7] e (fun g v i wr => ∃ (k z : Nat), i = .int .i64 k ∧ v = .int .i64 z ∧ k + g = e ∧ Hid (z = L ^ k) ∧ w = wr)
  case atStart => exact ⟨0, 1, rfl, rfl, by omega, Lib.hid rfl, rfl⟩
  case round =>
    obtain ⟨k, z, rfl, rfl, hk, hz, rfl⟩ := hrel
    by_cases hlt : k < e
    · have hz1 : z ≤ 729 := by rw [hz.out]; exact pow_le HL.out (by omega)
      have hz2 : z * L ≤ 729 := by rw [hz.out, ← Nat.pow_succ]; exact pow_le HL.out (by omega)
      have hz3 : wrap64 ((z : Int) * (L : Int)) = ((z * L : Nat) : Int) := by rw [← Int.natCast_mul]; exact IntWalk.wrap64_in _ (by omega)
      have R := Lib.hid (show z * L = L ^ (k + 1) from by rw [hz.out, Nat.pow_succ])
      clear hz
      generalize z * L = zz at hz2 hz3 R
      go_wp2
      go_roundg (e - (k + 1))
      case measure => omega
      case rel => exact ⟨k + 1, zz, by go_num, by first | rfl | rw [hz3], by omega, R, rfl⟩
    · have E := Lib.hid (show z = L ^ e from by rw [hz.out]; congr 1; omega)
      clear hz
      go_wp2
      go_ret
      exact ⟨by rw [E.out]; rfl, rfl⟩
theorem SlOf.comap {α β : Type} {f : β → Value} {h : α → β} {w : World} {v : Value} {xs : List α} (hs : SlOf (ValR f) w v (xs.map h)) : SlOf (ValR fun x => f (h x)) w v xs := by
  obtain ⟨us, h1, h2, h3⟩ := hs
  exact ⟨us, h1, by simpa using h2, fun i u x hu hx => h3 i u (h x) hu (by rw [List.getElem?_map, hx]; rfl)⟩
set_option maxHeartbeats 2000000 in
set_option maxRecDepth 100000 in
theorem wordAt_c {w : World} {L n i : Nat} (hL0 : 0 < L) (hL : L ≤ 3) (hn : n ≤ 6) (hi : i < 1000) :
    Calls Tryz.prog 99 #[.int .i64 L, .int .i64 n, .int .i64 i] w fun e w' => e = .returned (.string (wordT (wordD L n i))) ∧ Below w.heap.size w w' := by
  obtain ⟨D, hD⟩ : ∃ D, D = wordD L n i := ⟨_, rfl⟩
  rw [← hD]
  have HD0 := Lib.hid (show D.take n = wordD L n i from by rw [hD]; exact List.take_of_length_le (by rw [wordD_len]; exact Nat.le_refl _))
  have HDl := Lib.hid (show D.length = n from by rw [hD]; exact wordD_len _ _ _)
  have HDx := Lib.hid (show ∀ x, x ∈ D → x < 3 from fun x hx => by rw [hD] at hx; have := wordD_lt hL0 n i x hx; omega)
  have HL := Lib.hid hL
  clear hD
  go_enter Tryz.func99, Tryz.ntmps99
  go_wp2_with (first
    | (at_make; refine wpl_make (R := OValR (Value.int .u8)) rfl (.tmp 9) (.tmp 9) 22 rfl 5 (.int .u8 0) 1 Tryz.underlying22 infoB8r rfl n (by rfl) (by rfl) (by omega) (by omega) (d := (0 : Int)) (fun _ => ⟨rfl, rfl⟩) ?_; intro w1 hz1 hn1 hb1; have Hz1 := Lib.hid hz1; have Hn1 := Lib.hid hn1; have Hb1 := Lib.hid hb1; clear hz1 hn1 hb1)
    | fail)
  have HN0 := Lib.hid (show New (OwnOf 5 (OValR (Value.int .u8))) w.heap.size w1 (.slice (some ⟨w.heap.size, 0, none⟩) n n) (List.replicate n 0 ++ (D.drop n).map fun x : Nat => 97 + (x : Int)) from by
    rw [List.drop_of_length_le (by rw [HDl.out]; exact Nat.le_refl _)]
    simpa using Hn1.out)
  clear Hz1 Hn1
  go_loopg [2, 8] n (fun g vi v8 wr => ∃ (j : Nat), vi = .int .i64 j ∧ v8 = .int .i64 ((g : Int) - 1) ∧ g ≤ n ∧ j < 1000 ∧ Hid (D.take g = wordD L g j) ∧ Hid (New (OwnOf 5 (OValR (Value.int .u8))) w.heap.size wr (.slice (some ⟨w.heap.size, 0, none⟩) n n) (List.replicate g 0 ++ (D.drop g).map fun x : Nat => 97 + (x : Int))) ∧ Hid (Below w.heap.size w wr))
  case atStart => exact ⟨i, rfl, by first | rfl | (congr 1), Nat.le_refl _, hi, HD0, HN0, Hb1⟩
  case round =>
    clear HD0 HN0 Hb1
    obtain ⟨j, rfl, rfl, hg, hj, HT, HN, HB⟩ := hrel
    cases gk with
    | zero =>
      have hcv := conv_word (w := wr) Tryz.underlying22 Tryz.underlying5 Tryz.underlying9 (wd := D) (a := some ⟨w.heap.size, 0, none⟩) (n := n) (c := n) (by
        obtain ⟨F, hF, _⟩ := HN.out
        have h1 : SlOf (ValR (Value.int .u8)) wr (.slice (some ⟨w.heap.size, 0, none⟩) n n) (D.map fun x : Nat => 97 + (x : Int)) := by
          have h2 : SlOf (ValR (Value.int .u8)) wr _ _ := OwnOf.reads (fun _ _ _ _ h => h.1) hF
          simpa using h2
        exact SlOf.comap (h := fun x : Nat => 97 + (x : Int)) h1) HDx.out
      clear HT HN
      go_wp2
      go_ret
      exact ⟨rfl, HB.out⟩
    | succ m =>
      have hlen : (List.replicate (m + 1) (0 : Int) ++ (D.drop (m + 1)).map fun x : Nat => 97 + (x : Int)).length = n := by simp [HDl.out]; omega
      obtain ⟨b', c', hv, _, _, hblt, hcl, hfr, hst⟩ := HN.out.val_at (i := m) (x := 0) (fun _ => rfl) (by rw [List.getElem?_append_left (by simp)]; simp)
      rw [hlen] at hv
      simp at hv
      obtain ⟨rfl, rfl⟩ := hv
      have hr : D.drop m = (j % L) :: D.drop (m + 1) ∧ D.take m = wordD L m (j / L) := by
        have h1 := HT.out
        unfold wordD at h1
        have hm : m < D.length := by rw [HDl.out]; omega
        obtain ⟨x, hx, hd⟩ := at_lt hm
        rw [List.take_add_one, hx] at h1
        have h2 := List.append_inj' h1 rfl
        have h3 : x = j % L := by have := h2.2; simpa using this
        exact ⟨by rw [hd, h3], h2.1⟩
      have hrx : j % L < L := Nat.mod_lt _ hL0
      have hd1 : j / L ≤ j := Nat.div_le_self _ _
      have hm1 : (j : Int) % (L : Int) = ((j % L : Nat) : Int) := by rw [Int.natCast_emod]
      have hm2 : (j : Int) / (L : Int) = ((j / L : Nat) : Int) := by rw [Int.natCast_ediv]
      generalize j % L = r at hr hrx hm1
      generalize j / L = d at hr hd1 hm2
      have hL3 := HL.out
      have HT2 := Lib.hid hr.2
      have HN2 := Lib.hid (show New (OwnOf 5 (OValR (Value.int .u8))) w.heap.size (wr.setCell ⟨w.heap.size, m, none⟩ (.int .u8 (97 + (r : Int)))) (.slice (some ⟨w.heap.size, 0, none⟩) n n) (List.replicate m 0 ++ (D.drop m).map fun x : Nat => 97 + (x : Int)) from by
        have h := hst (97 + (r : Int))
        have e : (List.replicate (m + 1) (0 : Int) ++ (D.drop (m + 1)).map fun x : Nat => 97 + (x : Int)).set m (97 + (r : Int)) = List.replicate m 0 ++ (D.drop m).map fun x : Nat => 97 + (x : Int) := by
          rw [hr.1, List.replicate_succ', List.append_assoc, List.set_append_right _ _ (by simp)]
          simp
        rw [e] at h
        exact h)
      have HB2 := Lib.hid (HB.out.setCell (p := ⟨w.heap.size, m, none⟩) (Nat.le_refl _) (.int .u8 (97 + (r : Int))))
      have hu8 : IntKind.u8.wrap (97 + (r : Int)) = 97 + (r : Int) := IntWalk.u8_in _ (by omega)
      have hL1 : (L : Int) ≠ 0 := by omega
      have hmn : (m : Int) < (n : Int) := by omega
      have hwr : IntKind.i64.wrap (d : Int) = (d : Int) := IntWalk.i64_in _ (by omega)
      have hwr2 : IntKind.i64.wrap (r : Int) = (r : Int) := IntWalk.i64_in _ (by omega)
      clear HT HN HB hst hr hlen
      go_wp2
      go_roundg m
      case measure => omega
      case rel => exact ⟨d, rfl, rfl, by omega, by omega, HT2, HN2, HB2⟩
abbrev OStrL (e : TypeId) : OwnRel (List ByteArray) := OwnOf e (OValR Value.string)
/-- append of a text, laid in a block of its own. -/
theorem New.pushStr {lo : Nat} {w : World} {v : Value} {xs : List ByteArray} (h : New (OStrL 9) lo w v xs) (hlo : lo ≤ w.heap.size) {w0 : World} (hb : Below w.heap.size w w0) (s : ByteArray) (hl : xs.length ≤ 1000000) :
    ∃ a c w', (Builtin.append_ #[29, 29] 29 #[v, .slice (some ⟨w0.heap.size, 0, none⟩) 1 1]).run Tryz.prog (w0.alloc (.cells #[.string s] 9)) = .ok (.slice a (xs.length + 1) c) w' ∧ New (OStrL 9) lo w' (.slice a (xs.length + 1) c) (xs ++ [s]) ∧ Below lo w w' := by
  obtain ⟨v', w', hr, hs, hb'⟩ := Sep.push (P := Tryz.prog) OStr.kept 29 29 (.string ⟨#[]⟩) 16 Tryz.underlying29 infoStr rfl (Sep.one (OwnOf.kept OStr.kept).held h) hlo (w1 := w0.alloc (.cells #[.string s] 9)) (hb.alloc hb.size _) (q := .string s) (x := s) ⟨[], ⟨rfl, rfl⟩, by simp [Fresh]⟩ (bb := w0.heap.size) (c := 1) (World.cell?_alloc_at _ _ _ 0 rfl) (by omega) (by omega)
  have hn := hs.headNew
  obtain ⟨a, c, e, _⟩ := hs.strsAt
  subst e
  rw [show (xs ++ [s]).length = xs.length + 1 by simp] at hr hn
  exact ⟨a, c, w', hr, hn, hb'⟩
set_option maxHeartbeats 2000000 in
set_option maxRecDepth 100000 in
theorem wordsOf_c {w : World} {L n : Nat} (hL0 : 0 < L) (hL : L ≤ 3) (hn : n ≤ 6) :
    Calls Tryz.prog 76 #[.int .i64 L, .int .i64 n] w (Makes (OStrL 9) w ((allW L n).map wordT)) := by
  have HE := Lib.hid (show (List.range (L ^ n)).map (fun i => wordT (wordD L n i)) = (allW L n).map wordT from by rw [allW_eq hL0, List.map_map]; rfl)
  have HP := Lib.hid (fun w => powerK_c (w := w) hL hn)
  have HW := Lib.hid (fun w i (hi : i < 1000) => wordAt_c (w := w) hL0 hL hn hi)
  have hM := pow_le hL hn
  generalize L ^ n = M at HE HP hM
  have H0 := Lib.hid (New.empty (e := 9) (R := OValR Value.string) w (Nat.le_refl _))
  have B0 := Lib.hid (show Below w.heap.size w (w.alloc (.cells #[] 9)) from (Below.refl _ _).alloc (Nat.le_refl _) _)
  go_enter Tryz.func76, Tryz.ntmps76
  go_wp2_with fail
  refine (HP.out _).mono ?_
  rintro e w' ⟨rfl, rfl⟩
  go_wp2
  go_loopg [5, 11] M (fun g vs i wr => ∃ (k : Nat) (a : Option Addr) (c : Nat), vs = .slice a k c ∧ i = .int .i64 k ∧ k + g = M ∧ Hid (New (OStrL 9) w.heap.size wr (.slice a k c) ((List.range k).map fun i => wordT (wordD L n i))) ∧ Hid (Below w.heap.size w wr))
  case atStart => exact ⟨0, _, _, rfl, rfl, by omega, H0, B0⟩
  case round =>
    clear H0 B0
    obtain ⟨k, a, c, rfl, rfl, hk, HN, HB⟩ := hrel
    by_cases hlt : k < M
    · have C1 := Lib.hid (HW.out wr k (by omega))
      have hz := HB.out.size
      have hki : (k : Int) < (M : Int) := by omega
      go_wp2_with fail
      refine C1.out.mono ?_
      rintro e w2 ⟨rfl, hb2⟩
      obtain ⟨a', c', w3, hr, hn3, hb3⟩ := New.pushStr HN.out hz hb2 (wordT (wordD L n k)) (by simp; omega)
      have e1 : ((List.range k).map fun i => wordT (wordD L n i)).length = k := by simp
      rw [e1] at hr hn3
      have HN3 := Lib.hid (show New (OStrL 9) w.heap.size w3 (.slice a' (k + 1) c') ((List.range (k + 1)).map fun i => wordT (wordD L n i)) from by rw [List.range_succ, List.map_append]; exact hn3)
      have HB3 := Lib.hid (HB.out.trans hb3)
      have Hr := Lib.hid hr
      clear hr hn3 hb3 hb2 HN HB C1 e1
      go_wp2_with (first
        | (at_builtin; refine wpl_append_run rfl (.tmp 14) (.tmp 19) 29 rfl rfl rfl Hr.out ?_)
        | fail)
      go_roundg (M - (k + 1))
      case measure => omega
      case rel => exact ⟨k + 1, _, _, rfl, by go_num, by omega, HN3, HB3⟩
    · obtain rfl : k = M := by omega
      have HR := Lib.hid (show New (OStrL 9) w.heap.size wr (.slice a k c) ((allW L n).map wordT) from by rw [← HE.out]; exact HN.out)
      clear HN
      go_wp2
      go_ret
      exact ⟨_, rfl, HR.out, HB.out⟩
set_option maxHeartbeats 2000000 in
set_option maxRecDepth 100000 in
theorem filtered_c {w : World} {L n : Nat} (hL0 : 0 < L) (hL : L ≤ 3) (hn : n ≤ 6) {F : FuncId} {caps : Array Value} {f : List Nat → Bool} (hcf : ∀ (args : Array Value) (w : World), (callFunc F args).run Tryz.prog w = .ok (.enter F args) w) (hF : ∀ w1 wd, Below w.heap.size w w1 → wd.length = n → (∀ x, x ∈ wd → x < L) → Calls Tryz.prog F (#[.string (wordT wd)] ++ caps) w1 fun e w' => e = .returned (.bool (f wd)) ∧ Below w1.heap.size w1 w') :
    Calls Tryz.prog 37 #[.int .i64 L, .int .i64 n, .func (.func F) #[] caps] w (Makes (OStrL 9) w (((allW L n).filter f).map wordT)) := by
  have HW := Lib.hid (fun w1 => wordsOf_c (w := w1) hL0 hL hn)
  have Hm := Lib.hid (fun wd (h : wd ∈ allW L n) => allW_mem hL0 h)
  have HF := Lib.hid hF
  have hM : (allW L n).length ≤ 729 := by rw [allW_len hL0]; exact pow_le hL hn
  have H0 := Lib.hid (New.empty (e := 9) (R := OValR Value.string) w (Nat.le_refl _))
  generalize allW L n = A at HW Hm hM ⊢
  clear hF
  obtain ⟨w0, e0⟩ : ∃ x, x = w.alloc (.cells #[] 9) := ⟨_, rfl⟩
  have B0 := Lib.hid (show Below w.heap.size w w0 from by rw [e0]; exact (Below.refl _ _).alloc (Nat.le_refl _) _)
  rw [← e0] at H0
  have e0s := e0.symm
  clear e0
  go_enter Tryz.func37, Tryz.ntmps37
  go_wp2_with fail
  refine (HW.out _).mono ?_
  rintro e w1 ⟨r, rfl, hn1, hb1⟩
  have hzw := B0.out.size
  have hs1 := ((Sep.one (OwnOf.kept OStr.kept).held H0.out).new (OwnOf.kept OStr.kept).held hb1 hzw hn1).swap
  obtain ⟨ra, rc, er, _⟩ := hs1.swap.strsAt
  subst er
  rw [List.length_map] at hs1 ⊢
  have HS1 := Lib.hid hs1
  have HB1 := Lib.hid (B0.out.trans (hb1.mono hzw))
  clear hn1 hb1 hs1 H0 B0 e0s
  go_wp2
  go_loopg [7, 15] A.length (fun g vs i wr => ∃ (k : Nat) (a : Option Addr) (c : Nat), vs = .slice a ((A.take k).filter f).length c ∧ i = .int .i64 k ∧ k + g = A.length ∧ Hid (Sep w.heap.size wr [Res.strs 9 (.slice a ((A.take k).filter f).length c) (((A.take k).filter f).map wordT), Res.strs 9 (.slice ra A.length rc) (A.map wordT)]) ∧ Hid (Below w.heap.size w wr))
  case atStart => exact ⟨0, _, _, rfl, rfl, by omega, HS1, HB1⟩
  case round =>
    clear HS1 HB1
    obtain ⟨k, a, c, rfl, rfl, hk, HS, HB⟩ := hrel
    by_cases hlt : k < A.length
    · obtain ⟨wd, hwd, _⟩ := at_lt hlt
      obtain ⟨_, _, hv, hq⟩ := HS.out.swap.strsAt
      obtain ⟨b, e1, hb, hc⟩ := hq (by simp; omega)
      simp at hv
      obtain ⟨rfl, rfl⟩ := hv
      subst e1
      have g0 := hc k (wordT wd) (by simp [hwd])
      have hm := Hm.out wd (List.mem_of_getElem? hwd)
      have C1 := Lib.hid (HF.out wr wd HB.out hm.1 hm.2)
      have hz := HB.out.size
      have hki : (k : Int) < (A.length : Int) := by omega
      have HT := Lib.hid (show (A.take (k + 1)).filter f = (A.take k).filter f ++ (if f wd = true then [wd] else []) from by rw [← take_snoc' hwd, List.filter_append]; congr 1; simp [List.filter_cons])
      have hfl : ((A.take k).filter f).length ≤ 729 := Nat.le_trans (List.length_filter_le _ _) (by simp; omega)
      generalize hfn : (A.take k).filter f = fl at HS HT hfl
      clear hfn hwd hq hc hm
      go_wp2_with fail
      refine C1.out.mono ?_
      rintro e w2 ⟨rfl, hb2⟩
      have HS2 := Lib.hid (HS.out.below hb2 (Nat.le_refl _))
      have HB2 := Lib.hid (HB.out.trans (hb2.mono hz))
      have g2 := (hb2.cell (p := ⟨b, k, none⟩) hb).trans g0
      have hz2 := HB2.out.size
      clear C1 hb2 HS HB g0 hb
      cases hf : f wd with
      | false =>
        have HT2 := Lib.hid (show (A.take (k + 1)).filter f = fl from by rw [HT.out, hf]; simp)
        clear HT
        go_wp2
        go_roundg (A.length - (k + 1))
        case measure => omega
        case rel => exact ⟨k + 1, _, _, by rw [HT2.out], by go_num, by omega, by rw [HT2.out]; exact HS2, HB2⟩
      | true =>
        have HT2 := Lib.hid (show (A.take (k + 1)).filter f = fl ++ [wd] from by rw [HT.out, hf]; simp)
        obtain ⟨v', w3, hr, hs3, hb3⟩ := Sep.push (P := Tryz.prog) OStr.kept 29 29 (.string ⟨#[]⟩) 16 Tryz.underlying29 infoStr rfl HS2.out hz2 (w1 := w2.alloc (.cells #[.string (wordT wd)] 9)) ((Below.refl _ _).alloc (Nat.le_refl _) _) (q := .string (wordT wd)) (x := wordT wd) ⟨[], ⟨rfl, rfl⟩, by simp [Fresh]⟩ (bb := w2.heap.size) (c := 1) (World.cell?_alloc_at _ _ _ 0 rfl) (by simp; omega) (by simp; omega)
        obtain ⟨a', c', ev, _⟩ := hs3.strsAt
        subst ev
        have e5 : (fl.map wordT ++ [wordT wd]).length = (fl ++ [wd]).length := by simp
        have e6 : fl.map wordT ++ [wordT wd] = (fl ++ [wd]).map wordT := by simp
        rw [e5, e6] at hs3
        rw [e5] at hr
        have e7 : (fl ++ [wd]).length = fl.length + 1 := by simp
        rw [e7] at hs3 hr
        have HS3 := Lib.hid hs3
        have HB3 := Lib.hid (HB2.out.trans hb3)
        have Hr := Lib.hid hr
        have E7 := Lib.hid e7
        clear HT hs3 hr hb3 e5 e6 e7 HS2 HB2
        go_wp2_with (first
          | (at_builtin; refine wpl_append_run rfl (.tmp 22) (.tmp 24) 29 rfl rfl rfl Hr.out ?_)
          | fail)
        go_roundg (A.length - (k + 1))
        case measure => omega
        case rel => exact ⟨k + 1, _, _, by rw [HT2.out, E7.out], by go_num, by omega, by rw [HT2.out, E7.out]; exact HS3, HB3⟩
    · have HR := Lib.hid (show New (OStrL 9) w.heap.size wr (.slice a ((A.take k).filter f).length c) ((A.filter f).map wordT) from by have h := HS.out.headNew; rw [List.take_of_length_le (by omega)] at h ⊢; exact h)
      have hki : ¬ ((k : Int) < (A.length : Int)) := by omega
      generalize ((A.take k).filter f).length = fl at HR
      clear HS
      go_wp2
      go_ret
      exact ⟨_, rfl, HR.out, HB.out⟩
end Go.Proofs.YtcilgihmaaobeaaGreatDoor
end
