/-
  Laws for this claim's walks, contracts of the functions that it reaches.
-/
import Derived.Test.YtcilgihmaaobeaaGreatDoorFnLabelsM10
import Derived.Laws.BitsLemmas
import Derived.Laws.OwnMore
set_option linter.unusedVariables false
set_option linter.unusedSimpArgs false
section
namespace Go.Proofs.YtcilgihmaaobeaaGreatDoor
open Go.RowKit Go.Deep Go.Sd
set_option linter.unusedSimpArgs false
theorem fmtN_dig : ∀ d, d ≤ 9 → fmtN d = ⟨#[UInt8.ofNat (48 + d)]⟩ := by decide
theorem dig_size {d : Nat} (h : d ≤ 9) : (fmtN d).size = 1 := by rw [fmtN_dig d h]; rfl
theorem dig_at {d : Nat} (h : d ≤ 9) (h0 : 0 < (fmtN d).size) : (fmtN d)[0].toNat = 48 + d := by
  have key : ∀ (s : ByteArray) (h0 : 0 < s.size), s = ⟨#[UInt8.ofNat (48 + d)]⟩ → s[0].toNat = 48 + d := by
    rintro s h0 rfl
    show (UInt8.ofNat (48 + d)).toNat = 48 + d
    simp
    omega
  exact key _ h0 (fmtN_dig d h)
set_option maxHeartbeats 2000000 in
set_option maxRecDepth 100000 in
theorem l1Read_one {w : World} {d : Nat} {s : ByteArray} (h9 : d ≤ 9) (hz : s.size = 1) (hb : ∀ h : 0 < s.size, s[0].toNat = 48 + d) (hf : fmtN d = s) :
    Calls Tryz.prog 133 #[.string s, .int .i64 12] w fun e w' => e = .returned (.tuple #[.int .i64 d, .bool true]) ∧ Below w.heap.size w w' := by
  have HFm := Lib.hid (fun w1 => FormatInt_c (w := w1) (m := d) (by omega))
  rw [hf] at HFm
  have h0 : 0 < s.size := by omega
  have hb1 := hb h0
  have hb45 : ((48 + (d : Int)) == 45) = false := by simp; omega
  have dlt : decide (48 + (d : Int) < 48) = false := decide_eq_false (by omega)
  have dgt : decide ((57 : Int) < 48 + (d : Int)) = false := decide_eq_false (by omega)
  clear hf hb
  go_enter Tryz.func133, Tryz.ntmps133
  go_wp2
  go_loopg [8, 9] 1 (fun g nv iv wr => ((g = 1 ∧ nv = .int .i64 0 ∧ iv = .int .i64 0) ∨ (g = 0 ∧ nv = .int .i64 d ∧ iv = .int .i64 1)) ∧ wr = w)
  case atStart => exact ⟨Or.inl ⟨rfl, rfl, rfl⟩, rfl⟩
  case round =>
    obtain ⟨h | h, rfl⟩ := hrel
    · obtain ⟨rfl, rfl, rfl⟩ := h
      go_wp2
      go_roundg 0
      case measure => omega
      case rel => exact ⟨Or.inr ⟨rfl, by go_num, by go_num⟩, rfl⟩
    · obtain ⟨rfl, rfl, rfl⟩ := h
      go_wp2_with fail
      (with_reducible refine (HFm.out _).mono ?_)
      rintro e w2 ⟨rfl, hb2⟩
      have HB := Lib.hid hb2
      clear hb2 HFm
      go_wp2
      go_ret2
      exact ⟨rfl, HB.out⟩
theorem ParseInt_dig {w : World} {d : Nat} (h9 : d ≤ 9) :
    Calls Tryz.prog 120 #[.string (fmtN d)] w fun e w' => e = .returned (.tuple #[.int .i64 d, .bool true]) ∧ Below w.heap.size w w' := by
  have H := Lib.hid (l1Read_one (w := w) h9 (dig_size h9) (dig_at h9) rfl)
  generalize fmtN d = s at *
  go_enter Tryz.func120, Tryz.ntmps120
  go_wp2_with fail
  (with_reducible refine H.out.mono ?_)
  rintro e w2 ⟨rfl, hb2⟩
  have HB := Lib.hid hb2
  clear hb2 H
  go_wp2
  go_ret2
  exact ⟨rfl, HB.out⟩
def intsN (l : List Nat) : List Int := l.map Int.ofNat
def tabN' (m : List (List Nat)) : List (List Int) := m.map intsN
/-- The text is that of a matrix of numbers of one digit. -/
def Texts (t : ByteArray) (m : List (List Nat)) : Prop := t.size ≤ 100 ∧ (splitB t 47).map (fun r => splitB r 44) = m.map (fun l => l.map fmtN) ∧ (∀ r, r ∈ splitB t 47 → r.size ≤ 100) ∧ (∀ l, l ∈ m → l.length ≤ 9 ∧ ∀ x, x ∈ l → x ≤ 9) ∧ m.length ≤ 9 ∧ isMat (tabN' m) = true
end Go.Proofs.YtcilgihmaaobeaaGreatDoor
end

section
namespace Go.Proofs.YtcilgihmaaobeaaGreatDoor
open Go.RowKit Go.Deep Go.Sd

theorem i64_and1 (n : Int) : bits .and .i64 n 1 = n % 2 := by
  have h1 : (BitVec.ofInt 64 1).toNat = 2 ^ 1 - 1 := by decide
  have key : (BitVec.ofInt 64 n &&& BitVec.ofInt 64 1).toNat = (n % ((2 ^ 64 : Nat) : Int)).toNat % 2 ^ 1 := by
    rw [BitVec.toNat_and, BitVec.toNat_ofInt, h1, Nat.and_two_pow_sub_one_eq_mod]
  show IntKind.i64.wrap ((BitVec.ofInt 64 n &&& BitVec.ofInt 64 1).toNat : Nat) = n % 2
  rw [key, IntKind.wrap_i64]
  omega
theorem ofInt_i64 (a : Nat) (ha : a < 9223372036854775808) : (BitVec.ofInt 64 (a : Int)).toNat = a := by
  rw [BitVec.ofInt_natCast, BitVec.toNat_ofNat]; exact Nat.mod_eq_of_lt (by omega)
theorem i64_or (a b : Nat) (ha : a < 9223372036854775808) (hb : b < 9223372036854775808) : bits .or .i64 (a : Int) (b : Int) = ((a ||| b : Nat) : Int) := by
  have hx : a ||| b < 2 ^ 63 := Nat.or_lt_two_pow (by omega) (by omega)
  show IntKind.i64.wrap ((BitVec.ofInt 64 (a : Int) ||| BitVec.ofInt 64 (b : Int)).toNat : Nat) = _
  rw [BitVec.toNat_or, ofInt_i64 a ha, ofInt_i64 b hb, IntKind.wrap_i64]
  omega

/-- An arc leads on from a set, with a letter. -/
def hit (s : Nat) (x : Int) (a : Arc3) : Bool := decide (a.2.2 = x) && s.testBit a.1.toNat
def stepL (s : Nat) (x : Int) : List Arc3 → Nat → Nat
  | [], out => out
  | a :: ys, out => stepL s x ys (if hit s x a = true then out ||| 2 ^ a.2.1.toNat else out)
def stepN (xs : List Arc3) (s : Nat) (x : Int) : Nat := stepL s x xs 0
def okArcs (S : Int) (xs : List Arc3) : Prop := ∀ a, a ∈ xs → 0 ≤ a.1 ∧ a.1 < S ∧ 0 ≤ a.2.1 ∧ a.2.1 < S
theorem allF_at {f : Nat → Bool} : ∀ {m k : Nat}, allF f m k = true → ∀ j, j < m → f (k + j) = true
  | 0, _, _, j, hj => by omega
  | m + 1, k, h, j, hj => by
    have h1 : (if f k = true then allF f m (k + 1) else false) = true := h
    by_cases hk : f k = true
    · rw [if_pos hk] at h1
      cases j with
      | zero => exact hk
      | succ j => rw [show k + (j + 1) = k + 1 + j by omega]; exact allF_at h1 j (by omega)
    · rw [if_neg hk] at h1; cases h1
theorem isLab_ok {l : Lb} (h : isLab l = true) : okArcs l.2.1 l.2.2 ∧ 1 ≤ l.2.1 ∧ l.2.1 ≤ 12 ∧ 1 ≤ l.1 ∧ l.1 ≤ 3 := by
  unfold isLab at h
  rw [Bool.and_eq_true, Bool.and_eq_true, decide_eq_true_eq, decide_eq_true_eq] at h
  refine ⟨fun a ha => ?_, h.2.1.1, h.2.1.2, h.1.1, h.1.2⟩
  obtain ⟨k, hk⟩ := List.getElem?_of_mem ha
  have h1 := allF_at h.2.2 k (List.getElem?_eq_some_iff.1 hk).1
  rw [Nat.zero_add] at h1
  unfold arcB at h1
  rw [Bool.and_eq_true, at3_of hk] at h1
  have h2 := h1.1
  unfold arcOk at h2
  rw [decide_eq_true_eq] at h2
  exact ⟨h2.1, h2.2.1, h2.2.2.1, h2.2.2.2.1⟩
theorem stepL_lt {S : Int} {N : Nat} (hN : S.toNat ≤ N) : ∀ {xs : List Arc3}, okArcs S xs → ∀ (s : Nat) (x : Int) (out : Nat), out < 2 ^ N → stepL s x xs out < 2 ^ N
  | [], _, _, _, _, h => h
  | a :: ys, ha, s, x, out, h => by
    unfold stepL
    refine stepL_lt hN (fun b hb => ha b (List.mem_cons_of_mem _ hb)) s x _ ?_
    split
    · have := ha a (by simp)
      exact Nat.or_lt_two_pow h (Nat.pow_lt_pow_right (by omega) (by omega))
    · exact h
theorem stepN_lt {S : Int} {xs : List Arc3} (h : okArcs S xs) (hS : S ≤ 12) (s : Nat) (x : Int) : stepN xs s x < 4096 :=
  stepL_lt (N := 12) (by omega) h s x 0 (by decide)
theorem okArcs_at {S : Int} {xs : List Arc3} (h : okArcs S xs) {k : Nat} {x : Arc3} (hx : xs[k]? = some x) : 0 ≤ x.1 ∧ x.1 < S ∧ 0 ≤ x.2.1 ∧ x.2.1 < S := h x (List.mem_of_getElem? hx)

end Go.Proofs.YtcilgihmaaobeaaGreatDoor
end

section
namespace Go.Sd
open Go.RowKit Go.Deep
section
variable {P : Program} {α : Type} {lo sz : Nat} {f : α → List Value} {w : World} {v : Value} {e : TypeId} {rs : List Res}
theorem flatMap_take (L : Lay sz f) : ∀ (xs : List α) (k : Nat), k ≤ xs.length → (xs.take k).flatMap f = (xs.flatMap f).take (k * sz)
  | [], k, h => by simp
  | x :: xs, 0, _ => by simp
  | x :: xs, k + 1, h => by
    have ih := flatMap_take L xs k (by simpa using h)
    have e : (k + 1) * sz = (f x).length + k * sz := by rw [L.len, Nat.add_mul]; omega
    rw [List.take_succ_cons, List.flatMap_cons, List.flatMap_cons, ih, e, List.take_length_add_append]
/-- A slice of such elements that is only read. -/
def RowRd (f : α → List Value) (w : World) (v : Value) (ys : List α) : Prop := ∃ a c, v = .slice a ys.length c ∧ (a = none → ys.length = 0 ∧ c = 0) ∧ ∀ ad, a = some ad → ∀ j u, (ys.flatMap f)[j]? = some u → w.cell? (ad.add j) = some u
theorem Sep.preRow (L : Lay sz f) {b n c : Nat} {xs : List α} (h : Sep lo w (Res.row e sz f (.slice (some ⟨b, 0, none⟩) n c) xs :: rs)) {k : Nat} (hk : k ≤ xs.length) : Sep lo w (Res.row e sz f (.slice (some ⟨b, 0, none⟩) k c) (xs.take k) :: rs) := by
  obtain ⟨F, ⟨G, H, rfl, ⟨h1, hG⟩, h2⟩, hn, hl⟩ := h
  obtain ⟨hul, hor⟩ := h1
  refine ⟨G ++ H, ⟨G, H, rfl, ⟨⟨?_, ?_⟩, hG⟩, h2⟩, hn, hl⟩
  · rw [flatMap_len L]
  · rcases hor with ⟨h0, _⟩ | ⟨g, cap, cur, hv, hg, hh, hnc, hcm, hcs, htake⟩
    · cases h0
    · simp only [Value.slice.injEq, Option.some.injEq, Addr.mk.injEq] at hv
      obtain ⟨⟨rfl, -, -⟩, rfl, rfl⟩ := hv
      refine .inr ⟨b, c, cur, by simp; omega, hg, hh, by simp; omega, hcm, hcs, ?_⟩
      rw [flatMap_take L xs k hk, ← htake, List.take_take, List.length_take]
      congr 1
      rw [Nat.min_eq_left hk]
      have := Nat.mul_le_mul_right sz hk
      omega
/-- append of a slice to the first of some own things. -/
theorem Sep.pushRow (L : Lay sz f) (t ty : TypeId) (z : Value) (bytes : Nat) (ht : P.underlying t = some (.slice e)) (hinfo : (P.info? e).map (fun i => (i.zero, i.size, i.bytes)) = some (some z, sz, bytes)) (hz1 : z.cells.size = sz)
    {xs ys : List α} (h : Sep lo w (Res.row e sz f v xs :: rs)) (hlo : lo ≤ w.heap.size) {v2 : Value} (h2 : RowRd f w v2 ys) (hbytes : (xs.length + ys.length) * bytes ≤ 140737488355328) (h63 : xs.length + ys.length ≤ 9223372036854775807) :
    ∃ v' w', (Builtin.append_ #[t, t] ty #[v, v2]).run P w = .ok v' w' ∧ Sep lo w' (Res.row e sz f v' (xs ++ ys) :: rs) ∧ Below lo w w' := by
  obtain ⟨i, hi, hzz⟩ := Option.map_eq_some_iff.1 hinfo
  simp only [Prod.mk.injEq] at hzz
  obtain ⟨hz, hsz, hby⟩ := hzz
  have h0 := h
  obtain ⟨G, hG, hf, hK⟩ := h.head
  have hG1 : RowG e sz f w v xs G := hG
  obtain ⟨how, eG⟩ := hG1
  obtain ⟨a, c, rfl, hnil, hc⟩ := h2
  cases a with
  | none =>
    obtain ⟨hy, rfl⟩ := hnil rfl
    rw [List.length_eq_zero_iff] at hy
    subst hy
    refine ⟨v, w, run_append_owned_none (P := P) w 0 t ty e i sz ht hi v _ _ how, by rw [List.append_nil]; exact h0, Below.refl _ _⟩
  | some ad =>
    obtain ⟨v', w', hrun, how', hg, _, hat⟩ := run_append_own_at (P := P) w 0 t ty e i z sz bytes ht hi hz hsz hby hz1 L.pos v xs.length (xs.flatMap f) how ad ys.length c (ys.flatMap f) (flatMap_len L ys) (hc ad rfl)
      (fun u hu => by
        obtain ⟨y, _, hy⟩ := List.mem_flatMap.1 hu
        exact L.one y u hy) h63 hbytes (Nat.zero_le _)
    refine ⟨v', w', hrun, hK w' (Res.row e sz f v' (xs ++ ys)) v'.ownBlock.toList ⟨by simpa using how', rfl⟩ (by cases v'.ownBlock <;> simp) (fun b hb2 => ?_) hlo fun b hlt hn => ?_, (Below.refl lo w).grown hg (by omega) fun k hk => hf.2 k (by rw [eG]; simp [hk])⟩
    · simp at hb2
      rcases hat with hat | hat
      · rw [hat] at hb2; exact Or.inl (by rw [eG]; simp [hb2])
      · rw [hat] at hb2; simp at hb2; exact Or.inr (by omega)
    · refine hg.block b hlt fun e2 => hn ?_
      rw [eG]; simp [← e2]
theorem RowRd.frame {w' : World} {ys : List α} (h : RowRd f w v ys) (hb : Below w.heap.size w w') (hlt : ∀ ad n c, v = .slice (some ad) n c → ad.block < w.heap.size) : RowRd f w' v ys := by
  obtain ⟨a, c, rfl, h1, h2⟩ := h
  refine ⟨a, c, rfl, h1, fun ad e j u hu => ?_⟩
  have := h2 ad e j u hu
  have hbk : (ad.add j).block = ad.block := by unfold Addr.add; split <;> rfl
  exact (hb.cell (p := ad.add j) (by rw [hbk]; exact hlt ad _ _ (by rw [e]))).trans this
theorem flatMap_drop (L : Lay sz f) : ∀ (xs : List α) (k : Nat), k ≤ xs.length → (xs.drop k).flatMap f = (xs.flatMap f).drop (k * sz)
  | [], k, h => by simp
  | x :: xs, 0, _ => by simp
  | x :: xs, k + 1, h => by
    have ih := flatMap_drop L xs k (by simpa using h)
    have e : (k + 1) * sz = (f x).length + k * sz := by rw [L.len, Nat.add_mul]; omega
    rw [List.drop_succ_cons, ih, List.flatMap_cons, e, List.drop_length_add_append]
theorem flatMap_get (L : Lay sz f) {xs : List α} {j : Nat} {u : Value} (h : (xs.flatMap f)[j]? = some u) : ∃ i r x, j = i * sz + r ∧ xs[i]? = some x ∧ (f x)[r]? = some u := by
  have hp := L.pos
  have hj := (List.getElem?_eq_some_iff.1 h).1
  rw [flatMap_len L] at hj
  have hi : j / sz < xs.length := Nat.div_lt_of_lt_mul (by rw [Nat.mul_comm]; exact hj)
  obtain ⟨x, hx, _⟩ := at_lt hi
  have hr : j % sz < (f x).length := by rw [L.len]; exact Nat.mod_lt _ hp
  have e1 : j / sz * sz + j % sz = j := by rw [Nat.mul_comm]; exact Nat.div_add_mod j sz
  refine ⟨j / sz, j % sz, x, e1.symm, hx, ?_⟩
  have h2 := flatMap_at L hx (List.getElem?_eq_getElem hr)
  rw [e1, h] at h2
  rw [List.getElem?_eq_getElem hr]
  exact h2.symm
/-- The end of an own slice, read. -/
theorem Sep.dropRd (L : Lay sz f) {b n c : Nat} {xs : List α} (h : Sep lo w (Res.row e sz f (.slice (some ⟨b, 0, none⟩) n c) xs :: rs)) {k : Nat} (hk : k ≤ xs.length) (c' : Nat) : RowRd f w (.slice (some ⟨b, k * sz, none⟩) (xs.length - k) c') (xs.drop k) := by
  refine ⟨some ⟨b, k * sz, none⟩, c', by rw [List.length_drop], (fun h => by cases h), fun ad e j u hu => ?_⟩
  cases e
  rw [flatMap_drop L xs k hk, List.getElem?_drop] at hu
  obtain ⟨i, r, x, hj, hx, hr⟩ := flatMap_get L hu
  have h0 : 0 < xs.length := by have := (List.getElem?_eq_some_iff.1 hx).1; omega
  obtain ⟨a', c2, hv, hq⟩ := h.rowAt L
  obtain ⟨b', e', _, _, hcell⟩ := hq h0
  subst e'
  simp at hv
  obtain ⟨rfl, -, -⟩ := hv
  have := hcell i x r u hx hr
  have e2 : (⟨b, k * sz, none⟩ : Addr).add j = ⟨b, i * sz + r, none⟩ := by
    unfold Addr.add
    simp [hj]
    intro h0
    omega
  rw [e2]
  exact this
/-- An own slice, read. -/
theorem Sep.rowRd (L : Lay sz f) {xs : List α} (h : Sep lo w (Res.row e sz f v xs :: rs)) : RowRd f w v xs ∧ ∀ ad n c, v = .slice (some ad) n c → ad.block < w.heap.size := by
  obtain ⟨G, hG, -, -⟩ := h.head
  have hG1 : RowG e sz f w v xs G := hG
  rcases hG1.1.2 with ⟨rfl, h0⟩ | ⟨g, cap, cur, rfl, _, hg, _, _, _, _⟩
  · refine ⟨⟨none, 0, by rw [h0], fun _ => ⟨h0, rfl⟩, fun ad e => by cases e⟩, fun ad n c e => by cases e⟩
  · refine ⟨⟨_, _, rfl, (fun h => by cases h), fun ad e j u hu => ?_⟩, fun ad n c e => ?_⟩
    · cases e
      exact hG1.1.cells (g := g) rfl _ _ hu
    · simp at e
      rw [← e.1]
      exact (hG1.1.lt g rfl).2
end
end Go.Sd
end

section
namespace Go.Proofs.YtcilgihmaaobeaaGreatDoor
open Go.RowKit Go.Deep Go.Sd

theorem allF_of {f : Nat → Bool} : ∀ {m k : Nat}, (∀ j, j < m → f (k + j) = true) → allF f m k = true
  | 0, _, _ => rfl
  | m + 1, k, h => by
    show (if f k = true then allF f m (k + 1) else false) = true
    rw [if_pos (by simpa using h 0 (by omega))]
    exact allF_of (fun j hj => by rw [show k + 1 + j = k + (j + 1) by omega]; exact h (j + 1) (by omega))
end Go.Proofs.YtcilgihmaaobeaaGreatDoor
end

section
namespace Go.Sd
open Go.RowKit Go.Deep
/-- A slice of bytes. -/
abbrev BytR : World → Value → List Int → Prop := SlOf (ValR (Value.int .u8))
theorem BytR.frame : Framed BytR := SlOf.frame fun _ _ _ _ h _ => h
theorem BytR.cellsB {w : World} {v : Value} {xs : List Int} (h : BytR w v xs) : ∃ a c, v = .slice a xs.length c ∧ (0 < xs.length → ∃ b o, a = some ⟨b, o, none⟩ ∧ b < w.heap.size ∧ ∀ i, i < xs.length → w.cell? ⟨b, o + i, none⟩ = some (.int .u8 (xs.getD i 0))) := by
  obtain ⟨a, c, rfl, -, -, hx⟩ := h.shape
  refine ⟨a, c, rfl, fun h0 => ?_⟩
  obtain ⟨b, o, rfl, hb, hc⟩ := hx h0
  refine ⟨b, o, rfl, hb, fun i hi => ?_⟩
  obtain ⟨u, hu, hux⟩ := hc i _ (List.getElem?_eq_getElem hi)
  rw [hu, show u = .int .u8 xs[i] from hux]
  simp [List.getD, hi]
end Go.Sd
namespace Go.Proofs.YtcilgihmaaobeaaGreatDoor
open Go.RowKit Go.Deep Go.Sd
set_option linter.unusedSimpArgs false
theorem i64_and255 (n : Int) : bits .and .i64 n 255 = n % 256 := by
  have h1 : (BitVec.ofInt 64 255).toNat = 2 ^ 8 - 1 := by decide
  have key : (BitVec.ofInt 64 n &&& BitVec.ofInt 64 255).toNat = (n % ((2 ^ 64 : Nat) : Int)).toNat % 2 ^ 8 := by
    rw [BitVec.toNat_and, BitVec.toNat_ofInt, h1, Nat.and_two_pow_sub_one_eq_mod]
  show IntKind.i64.wrap ((BitVec.ofInt 64 n &&& BitVec.ofInt 64 255).toNat : Nat) = n % 256
  rw [key, IntKind.wrap_i64]
  omega
set_option maxHeartbeats 1000000 in
set_option maxRecDepth 100000 in
theorem l1New_c {w : World} {vc : Value} {xs : List Int} (h : BytR w vc xs) :
    Calls Tryz.prog 33 #[vc] w fun e w' => e = .returned (.pointer (some ⟨w.heap.size, 0, none⟩)) ∧ (∃ hh : Int, Sep w.heap.size w' [Res.box w.heap.size [vc, .int .i64 0, .int .i64 hh]]) ∧ Below w.heap.size w w' := by
  have hlen := h.len
  obtain ⟨a, c, rfl, hcell⟩ := h.cellsB
  obtain ⟨n, hn⟩ : ∃ n, n = xs.length := ⟨_, rfl⟩
  rw [← hn] at hcell hlen ⊢
  clear h hn
  obtain ⟨M, hM⟩ : ∃ M, M = min n 4000 := ⟨_, rfl⟩
  have hM1 : M ≤ n := by omega
  have hM2 : M ≤ 4000 := by omega
  have hM3 : M = n ∨ M = 4000 := by omega
  clear hM
  go_enter Tryz.func33, Tryz.ntmps33
  go_wp2
  go_loopg [3, 4] M (fun g v i wr => ∃ (k : Nat) (H : Int), v = .int .i64 H ∧ i = .int .i64 k ∧ k + g = M ∧ wr = w)
  case atStart => exact ⟨0, _, rfl, rfl, by omega, rfl⟩
  case round =>
    obtain ⟨k, H, rfl, rfl, hk, rfl⟩ := hrel
    by_cases hkM : k < M
    · obtain ⟨g, rfl⟩ : ∃ x, gk = x + 1 := ⟨gk - 1, by omega⟩
      have h1 : (k : Int) < (n : Int) := by omega
      have h2 : (k : Int) < 4000 := by omega
      obtain ⟨b, o, rfl, hb, hc⟩ := hcell (by omega)
      have gx := hc k (by omega)
      clear hc hcell
      go_wp2
      go_roundg g
      case measure => omega
      case rel => exact ⟨k + 1, _, rfl, by go_num, by omega, rfl⟩
    · have hend : ¬ ((k : Int) < (n : Int)) ∨ ((k : Int) < (n : Int) ∧ ¬ ((k : Int) < 4000)) := by omega
      have hs := Lib.hid ((Sep.nil wr.heap.size wr).boxNew (Nat.le_refl _) [.slice a n c, .int .i64 0, .int .i64 H] 97)
      have hb := Lib.hid ((Below.refl wr.heap.size wr).alloc (Nat.le_refl _) (.cells #[.slice a n c, .int .i64 0, .int .i64 H] 97))
      clear hcell
      rcases hend with h1 | ⟨h1, h2⟩
      · go_wp2
        go_ret
        exact ⟨rfl, ⟨H, hs.out⟩, hb.out⟩
      · go_wp2
        go_ret
        exact ⟨rfl, ⟨H, hs.out⟩, hb.out⟩
/-- The cursor: its block apart from other own things. -/
def Cur (lo : Nat) (w : World) (cb : Nat) (K : Value) (n : Nat) (rs : List Res) : Prop := ∃ (i : Nat) (h : Int), i ≤ n ∧ Sep lo w (Res.box cb [K, .int .i64 i, .int .i64 h] :: rs)
/-- A call that draws a number. -/
def DrawsN (lo : Nat) (w : World) (cb : Nat) (K : Value) (n : Nat) (rs : List Res) (B : Nat) (e : Ending) (w' : World) : Prop := ∃ x : Nat, e = .returned (.int .i64 x) ∧ x < B ∧ Cur lo w' cb K n rs ∧ Below lo w w' ∧ Off [cb] w w'
set_option maxHeartbeats 1000000 in
set_option maxRecDepth 100000 in
theorem l1Byte_c {lo : Nat} {w : World} {cb : Nat} {K : Value} {xs : List Int} {rs : List Res} (hK : ∀ w', Below lo w w' → BytR w' K xs) (hc : Cur lo w cb K xs.length rs) (hlo : lo ≤ w.heap.size) :
    Calls Tryz.prog 75 #[.pointer (some ⟨cb, 0, none⟩)] w (DrawsN lo w cb K xs.length rs 256) := by
  obtain ⟨i, h, hi, hs⟩ := hc
  have hlen := (hK w (Below.refl _ _)).len
  obtain ⟨hlb, mb, hcb⟩ := hs.headBox
  have c0 := (hcb 0 _ rfl).1
  have c1 := (hcb 1 _ rfl).1
  have c2 := (hcb 2 _ rfl).1
  have f2 := (hcb 2 _ rfl).2
  obtain ⟨a, c, rfl, -⟩ := (hK w (Below.refl _ _)).cellsB
  have HS := Lib.hid hs
  have HK := Lib.hid hK
  clear hs hcb hK
  go_enter Tryz.func75, Tryz.ntmps75
  go_wp2
  obtain ⟨H, hH⟩ : ∃ H : Int, H = wrap64 (wrap64 (h * 6364136223846793005) + 1442695040888963407) := ⟨_, rfl⟩
  rw [← hH]
  clear hH
  have hs1 := HS.out.boxStore hlo (j := 2) rfl (.int .i64 H)
  have hb1 := Lib.hid ((Below.refl lo w).setCell (p := ⟨cb, 2, none⟩) hlb (.int .i64 H))
  have ho1 := Lib.hid (Off.setCell (F := [cb]) (w := w) (p := ⟨cb, 2, none⟩) (by simp) (.int .i64 H))
  obtain ⟨w1, e1⟩ : ∃ x, x = w.setCell ⟨cb, 2, none⟩ (.int .i64 H) := ⟨_, rfl⟩
  rw [← e1] at hs1 hb1 ho1 ⊢
  obtain ⟨-, mb1, hcb⟩ := hs1.headBox
  have g0 : w1.cell? ⟨cb, 0, none⟩ = some (.slice a xs.length c) := (hcb 0 _ rfl).1
  have g1 : w1.cell? ⟨cb, 1, none⟩ = some (.int .i64 i) := (hcb 1 _ rfl).1
  have g2 : w1.cell? ⟨cb, 2, none⟩ = some (.int .i64 H) := (hcb 2 _ rfl).1
  have k1 : w1.frozen? ⟨cb, 1, none⟩ = false := (hcb 1 _ rfl).2
  have HS1 := Lib.hid (show Sep lo w1 (Res.box cb [.slice a xs.length c, .int .i64 i, .int .i64 H] :: rs) from hs1)
  have hlo1 : lo ≤ w1.heap.size := Nat.le_trans hlo hb1.out.size
  have HK1 := Lib.hid (HK.out w1 hb1.out)
  clear hs1 hcb c0 c1 c2 f2 e1 HS mb
  go_quiet (fail)
  go_wp2
  rw [i64_and255]
  generalize bits BinOp.xor IntKind.i64 (H / 8589934592) (H / 35184372088832) = X
  obtain ⟨Y, hY, hY2⟩ : ∃ Y : Nat, X % 256 = (Y : Int) ∧ Y < 256 := ⟨(X % 256).toNat, by omega, by omega⟩
  rw [hY]
  clear hY
  have hlo2 := hlo1
  by_cases hin : i < xs.length
  · have h1 : (i : Int) < (xs.length : Int) := by omega
    obtain ⟨a', c', hv, hcell⟩ := HK1.out.cellsB
    simp only [Value.slice.injEq] at hv
    obtain ⟨rfl, -, rfl⟩ := hv
    obtain ⟨b, o, rfl, hb, hcx⟩ := hcell (by omega)
    have gx := hcx i hin
    generalize xs.getD i 0 = x at gx
    clear hcx hcell
    go_quiet (fail)
    go_wp2
    go_quiet (fail)
    go_wp2
    rw [i64_and255]
    generalize wrap64 ((Y : Int) + wrap64 x) = Z0
    obtain ⟨Z, hZ, hZ2⟩ : ∃ Z : Nat, Z0 % 256 = (Z : Int) ∧ Z < 256 := ⟨(Z0 % 256).toNat, by omega, by omega⟩
    rw [hZ]
    have hd := fun N => below_drewN (Below.refl lo w1) N
    have hst := fun N => (HS1.out.below (below_drewN (Below.refl w1.heap.size w1) N) (Nat.le_refl _)).boxStore (by simpa using hlo1) (j := 1) rfl (.int .i64 ((i : Int) + 1))
    go_ret
    exact ⟨Z, rfl, hZ2, ⟨i + 1, H, by omega, hst _⟩, (hb1.out.trans (hd _)).setCell (p := ⟨cb, 1, none⟩) hlb _, (ho1.out.trans (Off.of_below (below_drewN (Below.refl w1.heap.size w1) _))).trans (Off.setCell (p := ⟨cb, 1, none⟩) (by simp) _)⟩
  · have h1 : ¬ ((i : Int) < (xs.length : Int)) := by omega
    go_quiet (fail)
    go_wp2
    go_ret
    exact ⟨Y, rfl, hY2, ⟨i, H, hi, HS1.out.below (below_drewN (Below.refl w1.heap.size w1) _) (Nat.le_refl _)⟩, hb1.out.trans (below_drewN (Below.refl lo w1) _), ho1.out.trans (Off.of_below (below_drewN (Below.refl w1.heap.size w1) _))⟩
set_option maxHeartbeats 1000000 in
set_option maxRecDepth 100000 in
theorem l1Below_c {lo : Nat} {w : World} {cb : Nat} {K : Value} {xs : List Int} {rs : List Res} {N : Nat} (hK : ∀ w', Below lo w w' → BytR w' K xs) (hc : Cur lo w cb K xs.length rs) (hlo : lo ≤ w.heap.size) (hN : 1 ≤ N) (hN2 : N ≤ 256) :
    Calls Tryz.prog 35 #[.pointer (some ⟨cb, 0, none⟩), .int .i64 N] w (DrawsN lo w cb K xs.length rs N) := by
  have HB := Lib.hid (l1Byte_c hK hc hlo)
  have h0 : ¬ ((N : Int) ≤ 0) := by omega
  have h1 : (N : Int) ≤ 256 := by omega
  have h2 : (0 : Int) < (N : Int) := by omega
  have h3 : ¬ ((N : Int) = 0) := by omega
  clear hK hc
  go_enter Tryz.func35, Tryz.ntmps35
  go_wp2_with fail
  (with_reducible refine HB.out.mono ?_)
  rintro e w1 ⟨x, rfl, hx, hc, hb, ho⟩
  have HO := Lib.hid ho
  clear ho
  have HC := Lib.hid hc
  have HBl := Lib.hid hb
  have hmod : (x : Int) % (N : Int) = ((x % N : Nat) : Int) := by omega
  have hlt : x % N < N := Nat.mod_lt _ (by omega)
  clear hc hb HB
  go_wp2
  go_ret
  exact ⟨x % N, by rw [show ((x % N : Nat) : Int) = (x : Int) % (N : Int) from hmod.symm]; rfl, hlt, HC.out, HBl.out, HO.out⟩
set_option maxHeartbeats 1000000 in
set_option maxRecDepth 100000 in
theorem l1Once_c {lo : Nat} {w : World} {cb : Nat} {K : Value} {xs : List Int} {rs : List Res} {N : Nat} (hK : ∀ w', Below lo w w' → BytR w' K xs) (hc : Cur lo w cb K xs.length rs) (hlo : lo ≤ w.heap.size) (hN : 1 ≤ N) (hN2 : N ≤ 256) :
    Calls Tryz.prog 55 #[.pointer (some ⟨cb, 0, none⟩), .int .i64 N] w fun e w' => ∃ b : Bool, e = .returned (.bool b) ∧ Cur lo w' cb K xs.length rs ∧ Below lo w w' ∧ Off [cb] w w' := by
  have HB := Lib.hid (l1Below_c hK hc hlo hN hN2)
  clear hK hc
  go_enter Tryz.func55, Tryz.ntmps55
  go_wp2_with fail
  (with_reducible refine HB.out.mono ?_)
  rintro e w1 ⟨x, rfl, hx, hc, hb, ho⟩
  have HO := Lib.hid ho
  clear ho
  have HC := Lib.hid hc
  have HBl := Lib.hid hb
  clear hc hb HB
  go_wp2
  go_ret
  exact ⟨_, rfl, HC.out, HBl.out, HO.out⟩
theorem Cur.perm {lo : Nat} {w : World} {cb : Nat} {K : Value} {n : Nat} {rs ss : List Res} (h : Cur lo w cb K n rs) (hp : rs.Perm ss) : Cur lo w cb K n ss := by
  obtain ⟨i, x, hi, hs⟩ := h
  exact ⟨i, x, hi, hs.perm (hp.cons _)⟩
theorem Cur.rest {lo : Nat} {w : World} {cb : Nat} {K : Value} {n : Nat} {r : Res} {rs : List Res} (h : Cur lo w cb K n (r :: rs)) : Cur lo w cb K n rs := by
  obtain ⟨i, x, hi, hs⟩ := h
  exact ⟨i, x, hi, hs.swap.tail⟩
theorem Cur.out {lo : Nat} {w : World} {cb : Nat} {K : Value} {n : Nat} {rs : List Res} (h : Cur lo w cb K n rs) : Sep lo w rs := by
  obtain ⟨i, x, hi, hs⟩ := h
  exact hs.tail
/-- What is made besides. -/
theorem Cur.new {α : Type} {R : OwnRel α} (hR : Held R) {lo : Nat} {w w' : World} {cb : Nat} {K : Value} {n : Nat} {rs : List Res} (h : Cur lo w cb K n rs) (hb : Below w.heap.size w w') (hlo : lo ≤ w.heap.size) {v : Value} {x : α} (hn : New R w.heap.size w' v x) : Cur lo w' cb K n (Res.of R hR v x :: rs) := by
  obtain ⟨i, z, hi, hs⟩ := h
  exact ⟨i, z, hi, (hs.new hR hb hlo hn).swap⟩
theorem Cur.box {lo : Nat} {w : World} {cb : Nat} {K : Value} {n : Nat} {rs : List Res} (h : Cur lo w cb K n rs) (hlo : lo ≤ w.heap.size) (vs : List Value) (ty : TypeId) : Cur lo (w.alloc (.cells vs.toArray ty)) cb K n (Res.box w.heap.size vs :: rs) := by
  obtain ⟨i, z, hi, hs⟩ := h
  exact ⟨i, z, hi, (hs.boxNew hlo vs ty).swap⟩
theorem Cur.below {lo : Nat} {w w' : World} {cb : Nat} {K : Value} {n : Nat} {rs : List Res} (h : Cur lo w cb K n rs) (hb : Below w.heap.size w w') : Cur lo w' cb K n rs := by
  obtain ⟨i, z, hi, hs⟩ := h
  exact ⟨i, z, hi, hs.below hb (Nat.le_refl _)⟩
set_option maxHeartbeats 1000000 in
set_option maxRecDepth 100000 in
theorem l1PickInt_c {lo : Nat} {w : World} {cb bl : Nat} {K : Value} {xs : List Int} {rs : List Res} {ls : List Int} {c : Nat} (hK : ∀ w', Below lo w w' → BytR w' K xs) (hc : Cur lo w cb K xs.length (Res.box bl (ls.map (Value.int .i64)) :: rs)) (hlo : lo ≤ w.heap.size) (hN : 1 ≤ ls.length) (hN2 : ls.length ≤ 256) :
    Calls Tryz.prog 36 #[.pointer (some ⟨cb, 0, none⟩), .slice (some ⟨bl, 0, none⟩) ls.length c] w fun e w' => ∃ x : Int, e = .returned (.int .i64 x) ∧ x ∈ ls ∧ Cur lo w' cb K xs.length (Res.box bl (ls.map (Value.int .i64)) :: rs) ∧ Below lo w w' ∧ Off [cb] w w' := by
  have HB := Lib.hid (l1Below_c hK hc hlo hN hN2)
  obtain ⟨N, hNe⟩ : ∃ N, N = ls.length := ⟨_, rfl⟩
  have HNe := Lib.hid hNe
  rw [← hNe] at HB ⊢
  clear hK hc hN hN2 hNe
  go_enter Tryz.func36, Tryz.ntmps36
  go_wp2_with fail
  (with_reducible refine HB.out.mono ?_)
  rintro e w1 ⟨x, rfl, hx, hc, hb, ho⟩
  have HO := Lib.hid ho
  clear ho
  have hcell := (hc.out.headBox).2.2 x (.int .i64 (ls[x]'(by have := HNe.out; omega))) (by rw [List.getElem?_map, List.getElem?_eq_getElem (by have := HNe.out; omega)]; rfl)
  have g0 := hcell.1
  have Hm := Lib.hid (List.getElem_mem (l := ls) (n := x) (by have := HNe.out; omega))
  generalize ls[x]'(by have := HNe.out; omega) = y at g0 Hm
  have hxi : (x : Int) < (N : Int) := by omega
  have HC := Lib.hid hc
  have HBl := Lib.hid hb
  clear hc hb HB hcell
  go_wp2
  go_ret
  exact ⟨y, rfl, Hm.out, HC.out, HBl.out, HO.out⟩
set_option maxHeartbeats 1000000 in
set_option maxRecDepth 100000 in
theorem l1Pick_c {lo : Nat} {w : World} {cb bl : Nat} {K : Value} {xs : List Int} {rs : List Res} {ls : List ByteArray} {c : Nat} (hK : ∀ w', Below lo w w' → BytR w' K xs) (hc : Cur lo w cb K xs.length (Res.box bl (ls.map Value.string) :: rs)) (hlo : lo ≤ w.heap.size) (hN : 1 ≤ ls.length) (hN2 : ls.length ≤ 256) :
    Calls Tryz.prog 78 #[.pointer (some ⟨cb, 0, none⟩), .slice (some ⟨bl, 0, none⟩) ls.length c] w fun e w' => ∃ x : ByteArray, e = .returned (.string x) ∧ x ∈ ls ∧ Cur lo w' cb K xs.length (Res.box bl (ls.map Value.string) :: rs) ∧ Below lo w w' ∧ Off [cb] w w' := by
  have HB := Lib.hid (l1Below_c hK hc hlo hN hN2)
  obtain ⟨N, hNe⟩ : ∃ N, N = ls.length := ⟨_, rfl⟩
  have HNe := Lib.hid hNe
  rw [← hNe] at HB ⊢
  clear hK hc hN hN2 hNe
  go_enter Tryz.func78, Tryz.ntmps78
  go_wp2_with fail
  (with_reducible refine HB.out.mono ?_)
  rintro e w1 ⟨x, rfl, hx, hc, hb, ho⟩
  have HO := Lib.hid ho
  clear ho
  have hcell := (hc.out.headBox).2.2 x (.string (ls[x]'(by have := HNe.out; omega))) (by rw [List.getElem?_map, List.getElem?_eq_getElem (by have := HNe.out; omega)]; rfl)
  have g0 := hcell.1
  have Hm := Lib.hid (List.getElem_mem (l := ls) (n := x) (by have := HNe.out; omega))
  generalize ls[x]'(by have := HNe.out; omega) = y at g0 Hm
  have hxi : (x : Int) < (N : Int) := by omega
  have HC := Lib.hid hc
  have HBl := Lib.hid hb
  clear hc hb HB hcell
  go_wp2
  go_ret
  exact ⟨y, rfl, Hm.out, HC.out, HBl.out, HO.out⟩
theorem l1Below_i {lo : Nat} {w : World} {cb : Nat} {K : Value} {xs : List Int} {rs : List Res} {z : Int} (hK : ∀ w', Below lo w w' → BytR w' K xs) (hc : Cur lo w cb K xs.length rs) (hlo : lo ≤ w.heap.size) (hN : 1 ≤ z) (hN2 : z ≤ 256) :
    Calls Tryz.prog 35 #[.pointer (some ⟨cb, 0, none⟩), .int .i64 z] w (DrawsN lo w cb K xs.length rs z.toNat) := by
  obtain ⟨N, rfl⟩ := Int.eq_ofNat_of_zero_le (show 0 ≤ z by omega)
  exact l1Below_c hK hc hlo (by omega) (by omega)
theorem l1Once_i {lo : Nat} {w : World} {cb : Nat} {K : Value} {xs : List Int} {rs : List Res} {z : Int} (hK : ∀ w', Below lo w w' → BytR w' K xs) (hc : Cur lo w cb K xs.length rs) (hlo : lo ≤ w.heap.size) (hN : 1 ≤ z) (hN2 : z ≤ 256) :
    Calls Tryz.prog 55 #[.pointer (some ⟨cb, 0, none⟩), .int .i64 z] w fun e w' => ∃ b : Bool, e = .returned (.bool b) ∧ Cur lo w' cb K xs.length rs ∧ Below lo w w' ∧ Off [cb] w w' := by
  obtain ⟨N, rfl⟩ := Int.eq_ofNat_of_zero_le (show 0 ≤ z by omega)
  exact l1Once_c hK hc hlo (by omega) (by omega)
end Go.Proofs.YtcilgihmaaobeaaGreatDoor
end
