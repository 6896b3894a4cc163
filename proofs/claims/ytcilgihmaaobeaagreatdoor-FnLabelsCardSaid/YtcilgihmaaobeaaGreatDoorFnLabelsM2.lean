/-
  Laws for this claim's walks, contracts of the functions that it reaches.
-/
import Derived.Test.YtcilgihmaaobeaaGreatDoorFnLabelsM1
import Derived.Shelf.Lay
import Derived.Shelf.LaysM
import Derived.Shelf.Strings.Builder1
import Derived.Shelf.Strings.Builder2
import Derived.Shelf.Strings.OnBuilder
import Derived.Shelf.Strings.BuilderF
import Derived.Shelf.Strings.Builder2Cap
import Derived.Shelf.Strconv.Itoa0
import Derived.Shelf.Strconv.Itoa1
import Derived.Shelf.Strconv.Itoa2
import Derived.Shelf.Strconv.Itoa3
import Derived.Ground.NamesProg
import Derived.Test.YtcilgihmaaobeaaGreatDoorProg
import Derived.Test.YtcilgihmaaobeaaGreatDoorRows
import Derived.Laws.IdiomStrings
import Derived.IntWalk
import Derived.ProofKit
import Derived.OpenShut
import Derived.Deep.Matrix
set_option linter.unusedVariables false
set_option linter.unusedSimpArgs false
section
namespace Go.Proofs
open Go.Shelf
shelf_lay Lays.n156 Nm 156 at Tryz as Tryz.lays156
theorem Tryz.Builder_Extra_156 : Builder.Extra Tryz.prog Tryz.lays156_ren where
  sizeBuilder := by kernel_rfl
  liesBuilder := by kernel_rfl
  t5 := Tryz.underlying5
  a5 := Tryz.isAgg5
  z5 := Tryz.sizeOf5
  v5 := Tryz.zeroValue5
  infoByte := by kernel_rfl
  cellsByte := by kernel_rfl
  sizeByte := by kernel_rfl
  neB5 := by decide
open Go.RowKit in
theorem Tryz.strings_Join (bk o c : Nat) (xs : List ByteArray) (sep : ByteArray) (w : World) (hcells : ∀ (j : Nat) x, xs[j]? = some x → w.cell? ⟨bk, o + j, none⟩ = some (.string x)) (hbk : bk < w.heap.size) (hN : xs.length ≤ 140737488355328) (hcap : xs.length ≤ c) (hlen : (Lib.join (xs.map (·.data.toList)) sep.data.toList).length ≤ 140737488355328) :
    Calls Tryz.prog 67 #[.slice (some ⟨bk, o, none⟩) xs.length c, .string sep] w fun e w' => e = .returned (.string ⟨(Lib.join (xs.map (·.data.toList)) sep.data.toList).toArray⟩) ∧ Below w.heap.size w w' := Any.strings_Join Tryz.lays156 Tryz.Builder_Extra_156 bk o c xs sep w hcells hbk hN hcap hlen
shelf_lay Lays.n171 Nm 171 at Tryz as Tryz.lays171
open Go.RowKit Go.Sort Go.Lib in
theorem Tryz.strconv_Itoa_small (i : Nat) (hi : i < 100) (w : World) :
    Calls Tryz.prog 90 #[.int .i64 i] w fun e w' => e = .returned (.string ⟨(Lib.decDigits i).toArray⟩) ∧ w' = w := Any.strconv_Itoa_small Tryz.lays171 i hi w
end Go.Proofs
end

section
namespace Go.Proofs.YtcilgihmaaobeaaGreatDoor
open Go.RowKit Go.Deep Go.Sd
/-- All of the next g numbers from k on. -/
def allF (h : Nat → Bool) : Nat → Nat → Bool
  | 0, _ => true
  | g + 1, k => if h k = true then allF h g (k + 1) else false
end Go.Proofs.YtcilgihmaaobeaaGreatDoor
end

section
namespace Go.Sd
open Go.RowKit Go.Deep

/-- 'append(v, u)' by footprints, as a run of the builtin. -/
theorem push_run {P : Program} {w : World} {α : Type} {R : OwnRel α} (hR : Kept R) (t ty e : TypeId) (z : Value) (bytes : Nat) (ht : P.underlying t = some (.slice e)) (hinfo : (P.info? e).map (fun i => (i.zero, i.size, i.bytes)) = some (some z, 1, bytes)) (hz1 : z.cells = #[z])
    {v : Value} {xs : List α} {F : List Nat} (h0 : OwnOf e R w v xs F) (hnd : F.Nodup) {u : Value} {y : α} {G : List Nat} (hG : R w u y G) (hGn : G.Nodup) (hd : ∀ b, b ∈ F → b ∉ G)
    {bb c : Nat} (hcell : w.cell? ⟨bb, 0, none⟩ = some u) (hbytes : (xs.length + 1) * bytes ≤ 140737488355328) (h63 : xs.length + 1 ≤ 9223372036854775807) :
    ∃ v' w' F', (Builtin.append_ #[t, t] ty #[v, .slice (some ⟨bb, 0, none⟩) 1 c]).run P w = .ok v' w' ∧ OwnOf e R w' v' (xs ++ [y]) F' ∧ F'.Nodup ∧ (∀ b, b ∈ F' → b ∈ F ∨ b ∈ G ∨ w.heap.size ≤ b) ∧ w.grownBy w' v.ownBlock ∧ (∀ k, v.ownBlock = some k → k ∈ F) := by
  obtain ⟨i, hi, hzz⟩ := Option.map_eq_some_iff.1 hinfo
  simp only [Prod.mk.injEq] at hzz
  obtain ⟨hz, hsz, hby⟩ := hzz
  have hltF := (OwnOf.kept (e := e) hR).lt _ _ _ _ h0
  obtain ⟨us, Fs, how, hl, hr, rfl⟩ := h0
  have hul : us.length = xs.length := by simpa using how.1
  have hvF : ∀ k, v.ownBlock = some k → k ∈ v.ownBlock.toList ++ Fs.flatten := fun k hk => by simp [hk]
  obtain ⟨v', w', hrun, how', hg, _, hat⟩ := run_append_own_at (P := P) w 0 t ty e i z 1 bytes ht hi hz hsz hby (by rw [hz1]; rfl) (by decide) v xs.length us how ⟨bb, 0, none⟩ 1 c [u] (by simp)
    (by
      intro j u' hj
      match j, hj with
      | 0, hj =>
        simp at hj
        subst hj
        simpa [Addr.add] using hcell)
    (by
      intro u' hu'
      simp at hu'
      subst hu'
      exact hR.one _ _ _ _ hG) h63 hbytes (Nat.zero_le _)
  have hGlt : ∀ b, b ∈ G → b < w.heap.size := hR.lt _ _ _ _ hG
  have hnd' := List.nodup_append.1 hnd
  have hnv : ∀ k, v.ownBlock = some k → k ∉ Fs.flatten := fun k hk hm => hnd'.2.2 k (by simp [hk]) k hm rfl
  have hat' : ∀ k, v'.ownBlock = some k → v.ownBlock = some k ∨ w.heap.size ≤ k := by
    intro k hk
    rcases hat with hat | hat
    · rw [hat] at hk; exact Or.inl hk
    · rw [hat] at hk; simp at hk; exact Or.inr (by omega)
  refine ⟨v', w', v'.ownBlock.toList ++ (Fs ++ [G]).flatten, hrun, ⟨us ++ [u], Fs ++ [G], by simpa using how', by simp [hl], ?_, rfl⟩, ?_, ?_, hg, hvF⟩
  · intro j u' x' G' hu' hx' hG'
    by_cases hj : j < xs.length
    · rw [List.getElem?_append_left (by omega)] at hu' hx' hG'
      refine hR.keep _ _ _ _ _ (hr j u' x' G' hu' hx' hG') fun b hb' => ?_
      have hm : b ∈ Fs.flatten := List.mem_flatten_of_mem (List.mem_of_getElem? hG') hb'
      exact hg.block b (hltF b (List.mem_append_right _ hm)) (fun e => hnv b e.symm hm)
    · have hj2 : j = xs.length := by
        have := (List.getElem?_eq_some_iff.1 hx').1
        simp at this; omega
      subst hj2
      rw [List.getElem?_append_right (by omega)] at hu' hx' hG'
      simp [hul, hl] at hu' hx' hG'
      subst hu' hx' hG'
      exact hR.keep _ _ _ _ _ hG fun b hb' => hg.block b (hGlt b hb') fun e => hd b (hvF b e.symm) hb'
  · simp only [List.flatten_append, List.flatten_cons, List.flatten_nil, List.append_nil]
    refine List.nodup_append.2 ⟨by cases v'.ownBlock <;> simp, List.nodup_append.2 ⟨hnd'.2.1, hGn, ?_⟩, ?_⟩
    · intro p hp q hq e
      subst e
      exact hd p (List.mem_append_right _ hp) hq
    · intro p hp q hq e
      subst e
      simp at hp
      rcases hat' p hp with hk | hk
      · rcases List.mem_append.1 hq with hq | hq
        · exact hnv p hk hq
        · exact hd p (hvF p hk) hq
      · rcases List.mem_append.1 hq with hq | hq
        · have := hltF p (List.mem_append_right _ hq); omega
        · have := hGlt p hq; omega
  · intro b hb'
    rcases List.mem_append.1 hb' with hb' | hb'
    · simp at hb'
      rcases hat' b hb' with hk | hk
      · exact Or.inl (hvF b hk)
      · exact Or.inr (Or.inr hk)
    · simp at hb'
      rcases hb' with ⟨H, hH, hb'⟩ | hb'
      · exact Or.inl (List.mem_append_right _ (List.mem_flatten_of_mem hH hb'))
      · exact Or.inr (Or.inl hb')

section
variable {α β : Type} {R : OwnRel α} {S : OwnRel β} {lo : Nat} {w : World} {v u : Value} {x : α} {y : β}
end

section
variable {P : Program} {α β : Type} {R : OwnRel α} {S : OwnRel β} {lo : Nat} {w : World} {v u : Value} {e : TypeId}

end

end Go.Sd
end

section
namespace Go.Sd
def pairsR (R : Nat → Nat → Bool) (n : Nat) : Nat := (List.range n).foldr (fun p s => ((List.range n).countP fun q => R p q) + s) 0
section
variable {L n : Nat} {tg : Nat → Nat → Option Nat} {R R' : Nat → Nat → Bool}
/-! Least members. -/
/-! What is alike on the first n has the same members and numbers. -/
def Same (n : Nat) (R R' : Nat → Nat → Bool) : Prop := ∀ p q, p < n → q < n → R p q = R' p q
/-! Rounds end. -/
theorem countP_le' {f g : Nat → Bool} : ∀ (l : List Nat), (∀ q, q ∈ l → g q = true → f q = true) → l.countP g ≤ l.countP f ∧ (l.countP g = l.countP f → ∀ q, q ∈ l → g q = f q)
  | [], _ => ⟨Nat.le_refl _, fun _ q hq => by cases hq⟩
  | q :: l, h => by
    have ih := countP_le' l (fun q' hq' => h q' (by simp [hq']))
    have h0 := h q (by simp)
    simp only [List.countP_cons]
    cases hg : g q <;> cases hf : f q
    · simp only [Bool.false_eq_true, if_false]
      exact ⟨by omega, fun e q' hq' => by rcases List.mem_cons.1 hq' with rfl | hq'; exact hg.trans hf.symm; exact ih.2 (by omega) q' hq'⟩
    · simp only [Bool.false_eq_true, if_false, if_true]
      exact ⟨by omega, fun e => by omega⟩
    · exact absurd (h0 hg) (by rw [hf]; simp)
    · simp only [if_true]
      exact ⟨by omega, fun e q' hq' => by rcases List.mem_cons.1 hq' with rfl | hq'; exact hg.trans hf.symm; exact ih.2 (by omega) q' hq'⟩
theorem pairs_sub (h : ∀ p q, R' p q = true → R p q = true) : pairsR R' n ≤ pairsR R n ∧ (pairsR R' n = pairsR R n → Same n R R') := by
  have key : ∀ (l : List Nat), (l.foldr (fun p s => ((List.range n).countP fun q => R' p q) + s) 0) ≤ (l.foldr (fun p s => ((List.range n).countP fun q => R p q) + s) 0) ∧
      ((l.foldr (fun p s => ((List.range n).countP fun q => R' p q) + s) 0) = (l.foldr (fun p s => ((List.range n).countP fun q => R p q) + s) 0) → ∀ p, p ∈ l → ∀ q, q < n → R p q = R' p q) := by
    intro l
    induction l with
    | nil => exact ⟨Nat.le_refl _, fun _ p hp => by cases hp⟩
    | cons a l ih =>
      have h1 := countP_le' (f := fun q => R a q) (g := fun q => R' a q) (List.range n) (fun q _ => h a q)
      simp only [List.foldr_cons]
      refine ⟨by omega, fun e p hp q hq => ?_⟩
      rcases List.mem_cons.1 hp with rfl | hp
      · exact (h1.2 (by omega) q (by simpa using hq)).symm
      · exact ih.2 (by omega) p hp q hq
  have := key (List.range n)
  exact ⟨this.1, fun e p q hp hq => this.2 e p (by simpa using hp) q hq⟩
/-! Lists. -/
end
end Go.Sd
end

section
namespace Go.Proofs.YtcilgihmaaobeaaGreatDoor
open Go.RowKit Go.Deep Go.Sd
set_option linter.unusedSimpArgs false
theorem bs_size (a b : ByteArray) : (a ++ b).size = a.size + b.size := by simp
def fmtL : Nat → Nat → ByteArray → ByteArray
  | 0, _, u => u
  | g + 1, m, u => if m = 0 then u else fmtL g (m / 10) ((⟨#[48 + UInt8.ofNat (m % 10)]⟩ : ByteArray) ++ u)
def fmtN (m : Nat) : ByteArray := if m = 0 then ⟨#[48]⟩ else fmtL 18 m ⟨#[]⟩
set_option maxHeartbeats 2000000 in
set_option maxRecDepth 100000 in
theorem FormatInt_c {w : World} {m : Nat} (hm : m < 1000000000000000000) :
    Calls Tryz.prog 68 #[.int .i64 m] w fun e w' => e = .returned (.string (fmtN m)) ∧ Below w.heap.size w w' := by
  by_cases h0 : m = 0
  · subst h0
    have HF := Lib.hid (show fmtN 0 = ⟨#[48]⟩ from rfl)
    go_enter Tryz.func68, Tryz.ntmps68
    go_wp2
    go_ret
    exact ⟨by rw [HF.out]; rfl, Below.refl _ _⟩
  have HF := Lib.hid (show fmtN m = fmtL 18 m ⟨#[]⟩ from by unfold fmtN; rw [if_neg h0])
  generalize fmtN m = T at HF ⊢
  have e0 : ((m : Int) == 0) = false := by simp; omega
  have e1 : ¬ ((m : Int) < 0) := by omega
  have d1 : decide ((m : Int) < 0) = false := decide_eq_false (by omega)
  have HP0 := Lib.hid (show m < 10 ^ 18 from hm)
  have HZ0 := Lib.hid (show (⟨#[]⟩ : ByteArray).size + 18 = 18 from rfl)
  clear h0 hm
  go_enter Tryz.func68, Tryz.ntmps68
  go_wp2
  go_loopg [0, 4, 5] 18 (fun g nv tv rv wr => ∃ (m : Nat) (u : ByteArray), nv = .int .i64 m ∧ tv = .string u ∧ u.size ≤ 18 ∧ Hid (u.size + g = 18) ∧ Hid (m < 10 ^ g) ∧ Hid (T = fmtL g m u) ∧ Hid (Below w.heap.size w wr))
  case atStart => exact ⟨m, ⟨#[]⟩, rfl, rfl, by decide, HZ0, HP0, HF, Lib.hid (Below.refl _ _)⟩
  case round =>
    clear HF HP0 HZ0 e0 e1 d1
    obtain ⟨m, u, rfl, rfl, hu, HZ, HP, HT, HB⟩ := hrel
    obtain ⟨wk, rfl⟩ : ∃ x, x = wr := ⟨_, rfl⟩
    by_cases hz : m = 0
    · have t0 : ((m : Int) != 0) = false := by simp [hz]
      have HF := Lib.hid (show T = u from by rw [HT.out]; cases gk with | zero => rfl | succ g => (unfold fmtL; rw [if_pos hz]))
      clear HT HP HZ hz
      go_wp2
      go_ret
      exact ⟨by rw [HF.out]; rfl, HB.out⟩
    · cases gk with
      | zero => exact absurd HP.out (by simp; omega)
      | succ g =>
        have t0 : ((m : Int) != 0) = true := by simp [hz]
        have HT2 := Lib.hid (show T = fmtL g (m / 10) ((⟨#[48 + UInt8.ofNat (m % 10)]⟩ : ByteArray) ++ u) from by rw [HT.out]; exact if_neg hz)
        have hr : m % 10 < 10 := Nat.mod_lt _ (by omega)
        have hq : m / 10 ≤ m := Nat.div_le_self _ _
        have HP2 := Lib.hid (show m / 10 < 10 ^ g from by have h := HP.out; rw [Nat.pow_succ] at h; omega)
        have hm1 : (m : Int) % 10 = ((m % 10 : Nat) : Int) := by omega
        have hm2 : (m : Int) / 10 = ((m / 10 : Nat) : Int) := by omega
        have hm0' : (0 : Int) ≤ (m : Int) := by omega
        have hmb : m < 1000000000000000000 := by
          have h := HP.out
          have hz := HZ.out
          have h2 : 10 ^ (g + 1) ≤ 10 ^ 18 := Nat.pow_le_pow_right (by decide) (by omega)
          omega
        generalize m % 10 = r at HT2 hr hm1
        generalize m / 10 = q at HT2 hq HP2 hm2
        have hu8 : IntKind.u8.wrap (48 + (r : Int)) = 48 + (r : Int) := IntWalk.u8_in _ (by omega)
        have hcv : (convert 22 9 (.slice (some ⟨wk.heap.size, 0, none⟩) 1 1)).run Tryz.prog (wk.alloc (.cells #[.int .u8 (48 + (r : Int))] 5)) = .ok (.string ⟨#[48 + UInt8.ofNat r]⟩) (wk.alloc (.cells #[.int .u8 (48 + (r : Int))] 5)) := by
          have h := run_convert_bytes_back (P := Tryz.prog) (wk.alloc (.cells #[.int .u8 (48 + (r : Int))] 5)) 22 9 5 ⟨wk.heap.size, 0, none⟩ 1 [48 + UInt8.ofNat r] Tryz.underlying22 Tryz.underlying5 Tryz.underlying9 (fun j hj => by
            have hj0 : j = 0 := by simpa using hj
            subst hj0
            have e4 : (48 + UInt8.ofNat r).toNat = 48 + r := by simp; omega
            have e2 : (⟨wk.heap.size, 0, none⟩ : Addr).add 0 = ⟨wk.heap.size, 0, none⟩ := by unfold Addr.add; split <;> simp_all
            rw [e2, World.cell?_alloc_at _ _ _ 0 rfl]
            simp only [List.getElem_cons_zero, e4]
            rfl)
          exact h
        have hs1 : (⟨#[48 + UInt8.ofNat r]⟩ : ByteArray).size = 1 := rfl
        have hsz : ¬ (9223372036854775807 < 1 + u.size) := by omega
        have hwq : IntKind.i64.wrap (q : Int) = (q : Int) := IntWalk.i64_in _ (by omega)
        have hwr : IntKind.i64.wrap (r : Int) = (r : Int) := IntWalk.i64_in _ (by omega)
        have hr0 : ¬ ((r : Int) < 0) := by omega
        have dr : decide ((r : Int) < 0) = false := decide_eq_false (by omega)
        have hw48 : IntKind.i64.wrap (48 + (r : Int)) = 48 + (r : Int) := IntWalk.i64_in _ (by omega)
        have hsz2 := Lib.hid (show ((⟨#[48 + UInt8.ofNat r]⟩ : ByteArray) ++ u).size + g = 18 from by have := HZ.out; rw [bs_size, hs1]; omega)
        have hz1 := HB.out.size
        have HB2 := Lib.hid (HB.out.alloc hz1 (.cells #[.int .u8 (48 + (r : Int))] 5))
        obtain ⟨u2, hu2⟩ : ∃ x, x = (⟨#[48 + UInt8.ofNat r]⟩ : ByteArray) ++ u := ⟨_, rfl⟩
        rw [← hu2] at HT2 hsz2
        have hu2s := hu2.symm
        have hu2z : u2.size ≤ 18 := by have := hsz2.out; omega
        clear HT HP HB hu2 hmb hz HZ
        go_wp2
        go_roundg g
        case measure => omega
        case rel => exact ⟨q, u2, rfl, rfl, hu2z, hsz2, HP2, HT2, HB2⟩
end Go.Proofs.YtcilgihmaaobeaaGreatDoor
end

section
namespace Go.Proofs.YtcilgihmaaobeaaGreatDoor
open Go.RowKit Go.Deep Go.Sd

theorem infoI : (Tryz.prog.info? 3).map (fun i => (i.zero, i.size, i.bytes)) = some (some (.int .i64 0), 1, 8) := by kernel_rfl
theorem infoR : (Tryz.prog.info? 61).map (fun i => (i.zero, i.size, i.bytes)) = some (some (.slice none 0 0), 1, 24) := by kernel_rfl

/-! ### equality -/

def eqLoop : List Int → List Int → Bool
  | x :: xs, y :: ys => if x = y then eqLoop xs ys else false
  | _, _ => true

theorem eqLoop_iff (xs ys : List Int) (h : xs.length = ys.length) : eqLoop xs ys = decide (xs = ys) := by
  induction xs generalizing ys with
  | nil => cases ys <;> simp_all [eqLoop]
  | cons a l ih =>
    cases ys with
    | nil => simp at h
    | cons b bs =>
      unfold eqLoop
      rw [ih bs (by simpa using h)]
      by_cases e : a = b <;> simp [e]


def eqLoopT : List (List Int) → List (List Int) → Bool
  | x :: xs, y :: ys => if x = y then eqLoopT xs ys else false
  | _, _ => true

theorem eqLoopT_iff (xs ys : List (List Int)) (h : xs.length = ys.length) : eqLoopT xs ys = decide (xs = ys) := by
  induction xs generalizing ys with
  | nil => cases ys <;> simp_all [eqLoopT]
  | cons a l ih =>
    cases ys with
    | nil => simp at h
    | cons b bs =>
      unfold eqLoopT
      rw [ih bs (by simpa using h)]
      by_cases e : a = b <;> simp [e]


/-! ### copies -/

/-! ### marks -/

/-! ### held -/


end Go.Proofs.YtcilgihmaaobeaaGreatDoor
end

section
namespace Go.Sd
open Go.RowKit Go.Deep
def Clos (E : Nat → Nat → Prop) (n : Nat) (S : Nat → Prop) : Prop := ∀ i, S i → i < n ∧ (∃ j, S j ∧ E i j) ∧ ∃ j, S j ∧ E j i
def Gr (E : Nat → Nat → Prop) (n : Nat) (i : Nat) : Prop := ∃ S, Clos E n S ∧ S i
open Classical in
noncomputable def liveL (E : Nat → Nat → Prop) (n : Nat) : List Bool := (List.range n).map fun i => decide (Gr E n i)
def On (l : List Bool) (i : Nat) : Prop := l[i]? = some true
def Sup (E : Nat → Nat → Prop) (n : Nat) (l : List Bool) : Prop := l.length = n ∧ ∀ i, Gr E n i → On l i
def Both (E : Nat → Nat → Prop) (l : List Bool) (i : Nat) : Prop := (∃ j, On l j ∧ E i j) ∧ ∃ j, On l j ∧ E j i
def cntT (l : List Bool) : Nat := l.countP id
section
variable {E : Nat → Nat → Prop} {n : Nat} {l l' : List Bool}
theorem On.lt {i : Nat} (h : On l i) : i < l.length := (List.getElem?_eq_some_iff.1 h).1
theorem Gr.both {i : Nat} (h : Gr E n i) : i < n ∧ (∃ j, Gr E n j ∧ E i j) ∧ ∃ j, Gr E n j ∧ E j i := by
  obtain ⟨S, hS, hi⟩ := h
  obtain ⟨h1, ⟨j, hj, he⟩, k, hk, hf⟩ := hS i hi
  exact ⟨h1, ⟨j, ⟨S, hS, hj⟩, he⟩, k, ⟨S, hS, hk⟩, hf⟩
theorem liveL_len : (liveL E n).length = n := by simp [liveL]
theorem live_of (h : Sup E n l) (hc : Clos E n (On l)) : l = liveL E n := by
  apply List.ext_getElem?
  intro i
  by_cases hi : i < n
  · have h1 : (liveL E n)[i]? = some (@decide (Gr E n i) (Classical.propDecidable _)) := by simp [liveL, hi]
    rw [h1]
    by_cases hg : Gr E n i
    · rw [h.2 i hg]; simp [hg]
    · have hl : i < l.length := by rw [h.1]; exact hi
      rw [List.getElem?_eq_getElem hl]
      cases hb : l[i] with
      | false => simp [hg]
      | true =>
        exact absurd ⟨On l, hc, by unfold On; rw [List.getElem?_eq_getElem hl, hb]⟩ hg
  · rw [List.getElem?_eq_none (by rw [h.1]; omega), List.getElem?_eq_none (by rw [liveL_len]; omega)]
theorem Sup.start : Sup E n (List.replicate n true) := by
  refine ⟨by simp, fun i hi => ?_⟩
  unfold On
  rw [List.getElem?_replicate, if_pos hi.both.1]
theorem Sup.both (h : Sup E n l) {i : Nat} (hi : Gr E n i) : Both E l i := by
  obtain ⟨_, ⟨j, hj, he⟩, k, hk, hf⟩ := hi.both
  exact ⟨⟨j, h.2 j hj, he⟩, k, h.2 k hk, hf⟩
theorem Sup.unset (h : Sup E n l) {i : Nat} (hi : ¬ Both E l i) : Sup E n (l.set i false) := by
  refine ⟨by rw [List.length_set]; exact h.1, fun j hj => ?_⟩
  have hne : i ≠ j := fun e => hi (e ▸ h.both hj)
  unfold On
  rw [List.getElem?_set_ne hne]
  exact h.2 j hj
theorem cntT_replicate : cntT (List.replicate n true) = n := by
  unfold cntT; simp [List.countP_replicate]
theorem cntT_le : cntT l ≤ l.length := List.countP_le_length
theorem cntT_unset : ∀ {l : List Bool} {i : Nat}, On l i → cntT (l.set i false) + 1 = cntT l
  | [], i, h => by simp [On] at h
  | b :: l, 0, h => by
    simp [On] at h
    subst h
    simp [cntT]
  | b :: l, i + 1, h => by
    have h2 : On l i := by simpa [On] using h
    have := cntT_unset (l := l) (i := i) h2
    unfold cntT at this ⊢
    simp only [List.set_cons_succ, List.countP_cons]
    omega
/-- A smaller set has fewer. -/
theorem cntT_mono : ∀ {l l' : List Bool}, l'.length = l.length → (∀ i, On l' i → On l i) → cntT l' ≤ cntT l ∧ (cntT l' = cntT l → l' = l)
  | [], [], _, _ => ⟨Nat.le_refl _, fun _ => rfl⟩
  | [], _ :: _, h, _ => by simp at h
  | _ :: _, [], h, _ => by simp at h
  | b :: l, b' :: l', h, hs => by
    have ih := cntT_mono (l := l) (l' := l') (by simpa using h) (fun i hi => by simpa [On] using hs (i + 1) (by simpa [On] using hi))
    have h0 : b' = true → b = true := fun e => by have := hs 0 (by simp [On, e]); simpa [On] using this
    unfold cntT at ih ⊢
    simp only [List.countP_cons, id]
    cases b <;> cases b'
    · simp only [Bool.false_eq_true, if_false]
      exact ⟨by omega, fun e => by rw [ih.2 (by omega)]⟩
    · exact absurd (h0 rfl) (by simp)
    · simp only [Bool.false_eq_true, if_false, if_true]
      exact ⟨by omega, fun e => by omega⟩
    · simp only [if_true]
      exact ⟨by omega, fun e => by rw [ih.2 (by omega)]⟩
/-- All at once: who lacks an arc goes. -/
def Rnd (E : Nat → Nat → Prop) (l l' : List Bool) : Prop := l'.length = l.length ∧ ∀ i, On l' i ↔ On l i ∧ Both E l i
/-- After k rounds: it is found, or k are gone. -/
def Inv (E : Nat → Nat → Prop) (n k : Nat) (l : List Bool) : Prop := Sup E n l ∧ (Clos E n (On l) ∨ cntT l + k ≤ n)
theorem Inv.start : Inv E n 0 (List.replicate n true) := ⟨Sup.start, .inr (by rw [cntT_replicate]; omega)⟩
theorem Inv.step {k : Nat} (h : Inv E n k l) (hr : Rnd E l l') : Inv E n (k + 1) l' := by
  obtain ⟨hs, hc⟩ := h
  have hs' : Sup E n l' := ⟨hr.1.trans hs.1, fun i hi => (hr.2 i).2 ⟨hs.2 i hi, hs.both hi⟩⟩
  have hm := cntT_mono hr.1 (fun i hi => ((hr.2 i).1 hi).1)
  refine ⟨hs', ?_⟩
  by_cases e : l' = l
  · refine .inl fun i hi => ?_
    have hb := ((hr.2 i).1 hi).2
    rw [← e] at hb
    exact ⟨by rw [← hs'.1]; exact hi.lt, hb.1, hb.2⟩
  · rcases hc with hc | hc
    · exact absurd (hm.2 (by
        have h2 : l' = l := by
          apply List.ext_getElem?
          intro i
          by_cases hi : i < l.length
          · have h1 : On l i → On l' i := fun h => (hr.2 i).2 ⟨h, (hc i h).2⟩
            have h2 : On l' i → On l i := fun h => ((hr.2 i).1 h).1
            unfold On at h1 h2
            rw [List.getElem?_eq_getElem hi, List.getElem?_eq_getElem (by rw [hr.1]; exact hi)] at h1 h2 ⊢
            cases hb : l[i] <;> cases hb' : l'[i]'(by rw [hr.1]; exact hi) <;> simp_all
          · rw [List.getElem?_eq_none (by rw [hr.1]; omega), List.getElem?_eq_none (by omega)]
        rw [h2])) e
    · right
      have : cntT l' ≠ cntT l := fun h => e (hm.2 h)
      omega
theorem Inv.end (h : Inv E n n l) : l = liveL E n := by
  refine live_of h.1 ?_
  rcases h.2 with hc | hc
  · exact hc
  · intro i hi
    have h0 := cntT_unset (l := l) (i := i) hi
    omega
/-- One after the other: a pass over the first i. -/
def Pas (E : Nat → Nat → Prop) (n : Nat) (l0 : List Bool) (i : Nat) (l : List Bool) (ch : Bool) : Prop :=
  Sup E n l ∧ (ch = false → l = l0 ∧ ∀ j, j < i → On l0 j → Both E l0 j) ∧ (ch = true → cntT l < cntT l0)
theorem Pas.start {l0 : List Bool} (h : Sup E n l0) : Pas E n l0 0 l0 false := ⟨h, fun _ => ⟨rfl, fun j hj => absurd hj (Nat.not_lt_zero _)⟩, fun h => by cases h⟩
theorem Pas.keep {l0 : List Bool} {i : Nat} {ch : Bool} (h : Pas E n l0 i l ch) (hi : On l i → Both E l i) : Pas E n l0 (i + 1) l ch := by
  refine ⟨h.1, fun hc => ?_, h.2.2⟩
  obtain ⟨e, hb⟩ := h.2.1 hc
  refine ⟨e, fun j hj hon => ?_⟩
  by_cases hji : j < i
  · exact hb j hji hon
  · obtain rfl : j = i := by omega
    rw [← e] at hon ⊢
    exact hi hon
theorem Pas.unset {l0 : List Bool} {i : Nat} {ch : Bool} (h : Pas E n l0 i l ch) (hi : On l i) (hb : ¬ Both E l i) : Pas E n l0 (i + 1) (l.set i false) true := by
  refine ⟨h.1.unset hb, (fun hc => by cases hc), fun _ => ?_⟩
  have h1 := cntT_unset hi
  cases ch with
  | false => rw [(h.2.1 rfl).1] at h1 ⊢; omega
  | true => have := h.2.2 rfl; omega
theorem Pas.end {l0 : List Bool} (h : Pas E n l0 n l false) : l = liveL E n := by
  obtain ⟨rfl, hb⟩ := h.2.1 rfl
  refine live_of h.1 fun i hi => ?_
  have hlt : i < n := by rw [← h.1.1]; exact hi.lt
  exact ⟨hlt, (hb i hlt hi).1, (hb i hlt hi).2⟩
theorem Pas.less {l0 : List Bool} (h : Pas E n l0 n l true) : Sup E n l ∧ cntT l < cntT l0 := ⟨h.1, h.2.2 rfl⟩
end
end Go.Sd
end

section
namespace Go.Proofs.YtcilgihmaaobeaaGreatDoor
open Go.RowKit Go.Deep Go.Sd

theorem l1In_c (a b c : Int) (w : World) :
    Calls Tryz.prog 57 #[.int .i64 a, .int .i64 b, .int .i64 c] w fun e w' => e = .returned (.bool (decide (b ≤ a) && decide (a ≤ c))) ∧ w = w' := by
  by_cases h1 : b ≤ a <;> by_cases h2 : a ≤ c
  all_goals
    go_enter Tryz.func57, Tryz.ntmps57
    go_wp2
    go_ret
    exact ⟨by simp [*], rfl⟩
theorem l1In_yes {a b c : Int} (w : World) (h1 : b ≤ a) (h2 : a ≤ c) : Calls Tryz.prog 57 #[.int .i64 a, .int .i64 b, .int .i64 c] w fun e w' => e = .returned (.bool true) ∧ w = w' := by
  have := l1In_c a b c w
  simpa [h1, h2] using this
theorem l1In_no {a b c : Int} (w : World) (h : a < b ∨ c < a) : Calls Tryz.prog 57 #[.int .i64 a, .int .i64 b, .int .i64 c] w fun e w' => e = .returned (.bool false) ∧ w = w' := by
  have e : (decide (b ≤ a) && decide (a ≤ c)) = false := by
    rcases h with h | h
    · simp; omega
    · simp; omega
  have := l1In_c a b c w
  rw [e] at this
  exact this



end Go.Proofs.YtcilgihmaaobeaaGreatDoor
end

section
namespace Go.Sd
open Go.ChangeShapes Go.WideShapes Go.ChangeAt Go.RowKit Go.Deep

def I64 (x : Int) : Prop := -9223372036854775808 ≤ x ∧ x ≤ 9223372036854775807
section
variable {H : Type} {enc : TypeId × Value → H} {P : Program} {W : World} {base : Nat}

theorem Sl.mk' {w : World} {a : Option Addr} {len cap : Nat} {us : List Value} (hu : us.length = len) (hl : len ≤ cap) (hm : cap ≤ 9223372036854775807) (hc : ∀ a', a = some a' → ∀ (i : Nat) (u : Value), us[i]? = some u → w.cell? (a'.add i) = some u) (hn0 : a = none → cap = 0) : Sl w (.slice a len cap) us := by
  subst hu
  refine ⟨by omega, a, cap, rfl, hl, hm, hn0, ?_⟩
  by_cases h0 : us.length = 0
  · exact Or.inl (List.eq_nil_of_length_eq_zero h0)
  · right
    cases a with
    | none => have := hn0 rfl; omega
    | some a' =>
      obtain ⟨b, o, sp⟩ := a'
      have h1 := hc _ rfl 0 us[0] (List.getElem?_eq_getElem (by omega))
      have hs : sp = none := by simpa [Addr.add] using World.cell?_spot h1
      subst hs
      refine ⟨b, o, rfl, World.block_lt_of_cell? w ⟨b, o, none⟩ (by simpa [Addr.add] using h1), fun i u hi => ?_⟩
      have := hc _ rfl i u hi
      cases i <;> simpa [Addr.add] using this

end
end Go.Sd
end

section
namespace Go.Sd

abbrev Tbl := List (List Int)
def exts (l : List Int) (x : Int) : Tbl := (List.range (x.toNat + 1)).map fun (y : Nat) => l ++ [(y : Int)]
def ext (cur : Tbl) (x : Int) : Tbl := cur.flatMap fun l => exts l x
def isum : List Int → Int
  | [] => 0
  | x :: r => x + isum r
def keepI (row l : List Int) : Bool := !(decide (isum l = 0) || decide (isum l = isum row))
end Go.Sd
end

section
namespace Go.Sd
open Go.RowKit Go.Deep
section
variable {P : Program} {w : World} {ops : Array Oper} {rest : List Oper} {o : Oper} {a : Act} {Q : Exit → Act → World → Prop}
end
/-- What has grown out of F. -/
def Out (F : List Nat) (w : World) (F' : List Nat) : Prop := ∀ b, b ∈ F' → b ∈ F ∨ w.heap.size ≤ b
theorem Off.of_below {F : List Nat} {w w1 : World} (h : Below w.heap.size w w1) : Off F w w1 := ⟨h.os, h.tape, h.output, h.size, fun b hb _ => h.block b hb⟩
end Go.Sd
end
