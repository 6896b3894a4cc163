/-
  Texts of this claim joined: laws for its walks, contracts of the functions that the law reaches.
-/
import Derived.Test.YtcilgihmaaobeaaRows
import Derived.Test.YtcilgihmaaobeaaLabelsOfM1
import Derived.Test.YtcilgihmaaobeaaLabelsOfM12
import Derived.Deep.DeepMust
import Derived.Test.YtcilgihmaaobeaaLabelsOfM6
import Derived.Test.YtcilgihmaaobeaaLabelsOfM11
import Derived.StillTailTactics
import Derived.Test.YtcilgihmaaobeaaLabelsOfM2
import Derived.Test.YtcilgihmaaobeaaLabelsOfM3
import Derived.Test.YtcilgihmaaobeaaLabelsOfM4
import Derived.Test.YtcilgihmaaobeaaLabelsOfM5
import Derived.IntWalk
import Derived.Test.YtcilgihmaaobeaaLabelsOfM8
import Derived.RegionTactic
import Derived.ChangeAlike
section
/-
  Two matrices that are alike: the program's search for places and the reference's answer alike.
-/
namespace Go.Proofs.Ytcilgihmaaobeaa
open Go.RowKit Go.Deep Go.Sd

/-- The places that are given fit with p as the next one. -/
def okL (a b : List (List Int)) (k p : Nat) : List Nat → Nat → Bool
  | [], _ => true
  | q :: qs, i => (decide (q ≠ p) && decide (ent a k i = ent b p q) && decide (ent a i k = ent b q p)) && okL a b k p qs (i + 1)
def okAt (a b : List (List Int)) (ps : List Nat) (p : Nat) : Bool := decide (ent a ps.length ps.length = ent b p p) && okL a b ps.length p ps 0

/-- Some number from p on, of the next g ones. -/
def anyF (h : Nat → Bool) : Nat → Nat → Bool
  | 0, _ => false
  | g + 1, p => if h p then true else anyF h g (p + 1)

def fitM (a b : List (List Int)) (n : Nat) : Nat → List Nat → Bool
  | 0, _ => true
  | f + 1, ps => anyF (fun p => okAt a b ps p && fitM a b n f (ps ++ [p])) n 0

def alikeM (a b : List (List Int)) : Bool := isMat a && isMat b && decide (a.length = b.length) && decide (a.length ≤ 6) && fitM a b a.length a.length []

def nats (ps : List Nat) : List Int := ps.map fun (q : Nat) => (q : Int)
theorem nats_at {ps : List Nat} {i q : Nat} (h : ps[i]? = some q) : (nats ps)[i]? = some (q : Int) := by simp [nats, h]

theorem isMat_sq {m : List (List Int)} (h : isMat m = true) : Sq m.length m ∧ 1 ≤ m.length ∧ m.length ≤ 9 := by
  unfold isMat at h
  simp only [Bool.and_eq_true, decide_eq_true_eq, List.all_eq_true] at h
  refine ⟨⟨rfl, fun r hr => ?_⟩, h.1.1, h.1.2⟩
  have := h.2 r hr
  unfold rowOk at this
  simp at this
  exact this.1


end Go.Proofs.Ytcilgihmaaobeaa
end

section
/-
  RenameGraph, the program's and the reference's.
-/
namespace Go.Proofs.Ytcilgihmaaobeaa
open Go.RowKit Go.Deep Go.Sd

theorem infoB : (Try.prog.info? 4).map (fun i => (i.zero, i.size, i.bytes)) = some (some (.bool false), 1, 1) := by kernel_rfl



def renOk (m : List (List Int)) (xs : List Int) : Bool := isMat m && (namesL m.length xs [] && decide (xs.length = m.length))
def renV (m : List (List Int)) (xs : List Int) : List (List Int) := if renOk m xs = true then renI m (xs.map Int.toNat) m.length m.length else []

theorem nats_toNat {xs : List Int} {n : Nat} (h : ∀ x, x ∈ xs → 0 ≤ x ∧ x < n) : xs = nats (xs.map Int.toNat) ∧ ∀ i, i < xs.length → (xs.map Int.toNat).getD i 0 < n := by
  constructor
  · unfold nats
    rw [List.map_map]
    refine (List.map_id xs).symm.trans (List.map_congr_left fun x hx => ?_)
    have := h x hx
    simp; omega
  · intro i hi
    have := h xs[i] (List.getElem_mem hi)
    simp [List.getD, hi]; omega


end Go.Proofs.Ytcilgihmaaobeaa
end

section
/-
  MatrixOf, both sides.
-/
namespace Go.Proofs.Ytcilgihmaaobeaa
open Go.RowKit Go.Deep Go.Sd

def bump (m : List (List Int)) (a : Arc3) : List (List Int) := m.set a.1.toNat ((m.getD a.1.toNat []).set a.2.1.toNat (ent m a.1.toNat a.2.1.toNat + 1))
def bumps : List Arc3 → List (List Int) → List (List Int)
  | [], m => m
  | a :: l, m => bumps l (bump m a)
def matOk (l : Lb) : Bool := isLab l && decide (l.2.1 ≤ 9)
def matV (l : Lb) : List (List Int) := if matOk l = true then bumps l.2.2 (List.replicate l.2.1.toNat (List.replicate l.2.1.toNat 0)) else []
def EB (B : Int) (m : List (List Int)) : Prop := ∀ i j, 0 ≤ ent m i j ∧ ent m i j ≤ B
theorem EB.set {B : Int} {m : List (List Int)} (h : EB B m) (a b : Nat) {y : Int} (h0 : 0 ≤ y) (h1 : y ≤ B + 1) : EB (B + 1) (m.set a ((m.getD a []).set b y)) := by
  intro i j
  have hij := h i j
  have haj := h a j
  unfold ent at hij haj ⊢
  simp only [List.getD_eq_getElem?_getD, List.getElem?_set] at hij haj ⊢
  by_cases e : a = i
  · subst e
    rw [if_pos rfl]
    by_cases hl : a < m.length
    · rw [if_pos hl]
      simp only [Option.getD_some, List.getElem?_set]
      by_cases e2 : b = j
      · subst e2
        rw [if_pos rfl]
        split
        · simp; omega
        · simp; omega
      · rw [if_neg e2]; omega
    · rw [if_neg hl]
      simp
      omega
  · rw [if_neg e]
    omega
theorem EB.zeros (n : Nat) : EB 0 (List.replicate n (List.replicate n 0)) := by
  intro i j
  have h : ent (List.replicate n (List.replicate n 0)) i j = 0 := by
    unfold ent
    simp only [List.getD_eq_getElem?_getD, List.getElem?_replicate]
    split
    · simp only [Option.getD_some, List.getElem?_replicate]; split <;> rfl
    · rfl
  rw [h]; omega
theorem bump_sq {n : Nat} {m : List (List Int)} (h : Sq n m) {a : Arc3} (ha : a.1.toNat < n) : Sq n (bump m a) := h.set ha _ _
theorem bumps_sq {n : Nat} : ∀ {xs : List Arc3} {m : List (List Int)}, Sq n m → (∀ a, a ∈ xs → a.1.toNat < n) → Sq n (bumps xs m)
  | [], _, h, _ => h
  | a :: l, m, h, ha => bumps_sq (xs := l) (bump_sq h (ha a (by simp))) fun b hb => ha b (List.mem_cons_of_mem _ hb)
theorem matV_bd (l : Lb) : (matV l).length ≤ 9 ∧ ∀ r, r ∈ matV l → r.length ≤ 9 := by
  unfold matV
  by_cases h : matOk l = true
  · rw [if_pos h]
    unfold matOk at h
    rw [Bool.and_eq_true, decide_eq_true_eq] at h
    obtain ⟨ho, h1, h2, _⟩ := isLab_ok h.1
    have hs := bumps_sq (n := l.2.1.toNat) (xs := l.2.2) (Sq.zeros l.2.1.toNat) fun a ha => by have := ho a ha; omega
    have h9 : l.2.1.toNat ≤ 9 := by omega
    exact ⟨by rw [hs.1]; exact h9, fun r hr => by rw [hs.2 r hr]; exact h9⟩
  · rw [if_neg h]; simp
end Go.Proofs.Ytcilgihmaaobeaa
end

section
/-
  The reference's live places of a matrix.
-/
namespace Go.Proofs.Ytcilgihmaaobeaa
open Go.RowKit Go.Deep Go.Sd

def fillT (n k : Nat) : List Bool := List.replicate k true ++ List.replicate (n - k) false
theorem fillT_len {n k : Nat} (h : k ≤ n) : (fillT n k).length = n := by simp [fillT]; omega
theorem fillT_at {n k : Nat} (h : k < n) : (fillT n k)[k]? = some false := by
  unfold fillT
  rw [List.getElem?_append_right (by simp), List.getElem?_replicate, if_pos (by simp; omega)]
theorem fillT_set {n k : Nat} (h : k < n) : (fillT n k).set k true = fillT n (k + 1) := by
  unfold fillT
  rw [List.set_append_right _ _ (by simp), show n - k = (n - (k + 1)) + 1 from by omega, List.replicate_succ, List.replicate_succ']
  simp
/-- One of the first k places of l has it. -/
def anyN (l : List Bool) (f : Nat → Bool) : Nat → Bool
  | 0 => false
  | k + 1 => anyN l f k || (l.getD k false && f k)
theorem anyN_iff {l : List Bool} {f : Nat → Bool} : ∀ {k : Nat}, anyN l f k = true ↔ ∃ j, j < k ∧ On l j ∧ f j = true
  | 0 => by simp [anyN]
  | k + 1 => by
    unfold anyN
    rw [Bool.or_eq_true, Bool.and_eq_true, anyN_iff (k := k)]
    have hg : l.getD k false = true ↔ On l k := by
      unfold On
      rw [List.getD_eq_getElem?_getD]
      cases h : l[k]? <;> simp
    rw [hg]
    constructor
    · rintro (⟨j, hj, h⟩ | h)
      · exact ⟨j, by omega, h⟩
      · exact ⟨k, by omega, h⟩
    · rintro ⟨j, hj, h⟩
      by_cases e : j = k
      · subst e; exact .inr h
      · exact .inl ⟨j, by omega, h⟩
def entP (m : List (List Int)) (i j : Nat) : Bool := decide (0 < ent m i j)
def EntP (m : List (List Int)) (i j : Nat) : Prop := entP m i j = true
theorem both_iff {m : List (List Int)} {l : List Bool} {n i : Nat} (hl : l.length = n) : Both (EntP m) l i ↔ anyN l (entP m i) n = true ∧ anyN l (fun j => entP m j i) n = true := by
  rw [anyN_iff, anyN_iff]
  constructor
  · rintro ⟨⟨j, hj, he⟩, k, hk, hf⟩
    exact ⟨⟨j, by rw [← hl]; exact hj.lt, hj, he⟩, k, by rw [← hl]; exact hk.lt, hk, hf⟩
  · rintro ⟨⟨j, _, hj, he⟩, k, _, hk, hf⟩
    exact ⟨⟨j, hj, he⟩, k, hk, hf⟩
set_option maxHeartbeats 4000000 in
set_option maxRecDepth 10000 in
theorem l5Live_c {w : World} {v : Value} {m : List (List Int)} {n : Nat} (h : Tab w v m) (hsq : Sq n m) (hn0 : 0 < n) (hn : n ≤ 16) :
    Calls Try.prog 86 #[v] w (Makes (OwnOf 4 (OValR Value.bool)) w (liveL (EntP m) n)) := by
  obtain ⟨ab, ao, ac, rfl, hab, hae⟩ := h.entAt hsq.1 hsq.2 hn0
  clear h hsq
  have hmk := run_make_row' (P := Try.prog) 81 4 (.bool false) 1 Try.underlying81 infoB rfl .i64 .i64 n (by omega) (by omega)
  go_enter Try.func86, Try.ntmps86
  go_wp2
  go_loopg [4] n (fun g i wr => ∃ (k : Nat), i = .int .i64 k ∧ k + g = n ∧ Hid (New (OwnOf 4 (OValR Value.bool)) w.heap.size wr (.slice (some ⟨w.heap.size, 0, none⟩) n n) (fillT n k)) ∧ Hid (Below w.heap.size w wr))
  case atStart => exact ⟨0, rfl, by omega, Lib.hid (New.made 4 w (.bool false) false n (Nat.le_refl _) (by omega) (fun _ => ⟨rfl, rfl⟩)), Lib.hid ((Below.refl _ _).alloc (Nat.le_refl _) _)⟩
  case round =>
    obtain ⟨k, rfl, hk, hnew, hbel⟩ := hrel
    clear hmk
    by_cases hlt : k < n
    · obtain ⟨b', c', hv, _, _, hblt, hcl, hfr, hst⟩ := hnew.out.val_at (fun _ => rfl) (fillT_at hlt)
      obtain rfl : b' = w.heap.size := by simp at hv; exact hv.1.symm
      have Hst := Lib.hid (by have := hst true; rw [fillT_set hlt] at this; exact this)
      have Hb := Lib.hid (hbel.out.setCell (p := ⟨w.heap.size, k, none⟩) (Nat.le_refl _) (.bool true))
      have hkI : (k : Int) < (n : Int) := Int.ofNat_lt.2 hlt
      clear hv hst hnew hbel hae
      go_wp2
      go_roundg (n - (k + 1))
      case measure => omega
      case rel => exact ⟨k + 1, by go_num, by omega, Hst, Hb⟩
    · obtain rfl : k = n := by omega
      have HL0 := Lib.hid (show New (OwnOf 4 (OValR Value.bool)) w.heap.size wr (.slice (some ⟨w.heap.size, 0, none⟩) k k) (List.replicate k true) from by have h := hnew.out; unfold fillT at h; simpa using h)
      have HS0 := Lib.hid (Sup.start (E := EntP m) (n := k))
      clear hnew
      go_wp2
      go_loopg [5] (k + 1) (fun g c wr => ∃ (l : List Bool) (ch : Bool) (q : Nat), c = .bool ch ∧ q = g ∧ q = (if ch = true then cntT l + 1 else 0) ∧ Hid (Sup (EntP m) k l) ∧ Hid (ch = false → l = liveL (EntP m) k) ∧ Hid (New (OwnOf 4 (OValR Value.bool)) w.heap.size wr (.slice (some ⟨w.heap.size, 0, none⟩) k k) l) ∧ Hid (Below w.heap.size w wr))
      case atStart => exact ⟨List.replicate k true, true, k + 1, rfl, rfl, by rw [cntT_replicate]; rfl, HS0, Lib.hid (fun h => by cases h), HL0, hbel⟩
      case round =>
        clear HS0 HL0 hbel
        obtain ⟨l0, ch, q, rfl, rfl, hg, hsup, hend, hnew, hbel⟩ := hrel
        cases ch with
        | false =>
          have HF := Lib.hid (show New (OwnOf 4 (OValR Value.bool)) w.heap.size wr (.slice (some ⟨w.heap.size, 0, none⟩) k k) (liveL (EntP m) k) from by have h := hnew.out; rw [hend.out rfl] at h; exact h)
          clear hg hnew hend
          go_wp2
          go_ret
          exact ⟨_, rfl, HF.out, hbel.out⟩
        | true =>
          have hg' : q = cntT l0 + 1 := hg
          have HP0 := Lib.hid (Pas.start (E := EntP m) (n := k) hsup.out)
          clear hg hend
          go_wp2
          go_loopg [5, 6] k (fun g2 c i wr => ∃ (i' : Nat) (l : List Bool) (ch : Bool), c = .bool ch ∧ i = .int .i64 i' ∧ i' + g2 = k ∧ Hid (Pas (EntP m) k l0 i' l ch) ∧ Hid (New (OwnOf 4 (OValR Value.bool)) w.heap.size wr (.slice (some ⟨w.heap.size, 0, none⟩) k k) l) ∧ Hid (Below w.heap.size w wr))
          case atStart => exact ⟨0, l0, false, rfl, rfl, by omega, HP0, hnew, hbel⟩
          case round =>
            clear HP0 hnew hbel
            obtain ⟨i, l, ch, rfl, rfl, hi, hpas, hnew, hbel⟩ := hrel
            by_cases hlti : i < k
            · have hiI : (i : Int) < (k : Int) := Int.ofNat_lt.2 hlti
              have hll : l.length = k := hpas.out.1.1
              obtain ⟨wi, rfl⟩ : ∃ x, x = wr := ⟨_, rfl⟩
              have HA0 := Lib.hid (show anyN l (entP m i) 0 = false ∧ anyN l (fun j => entP m j i) 0 = false from ⟨rfl, rfl⟩)
              go_wp2
              go_loopg [7, 8, 9] k (fun g3 fv tv j wr => ∃ (j' : Nat) (f t : Bool), fv = .bool f ∧ tv = .bool t ∧ j = .int .i64 j' ∧ j' + g3 = k ∧ Hid (anyN l (entP m i) j' = f ∧ anyN l (fun j => entP m j i) j' = t) ∧ wi = wr)
              case atStart => exact ⟨0, false, false, rfl, rfl, rfl, by omega, HA0, rfl⟩
              case round =>
                clear HA0
                obtain ⟨j, f, t, rfl, rfl, rfl, hj, HA, rfl⟩ := hrel
                by_cases hltj : j < k
                · have hjI : (j : Int) < (k : Int) := Int.ofNat_lt.2 hltj
                  have hae1 := hae.frame hab hbel.out
                  obtain ⟨rb, ro, rc, hA1, _, _, hA2⟩ := hae1.at hlti hn0
                  obtain ⟨zb, zo, zc, hB1, _, _, hB2⟩ := hae1.at hltj hn0
                  have hA3 := hA2 j hltj
                  have hB3 := hB2 i hlti
                  have hlj : l[j]? = some (l[j]'(by omega)) := List.getElem?_eq_getElem (by omega)
                  obtain ⟨b', c', hv, _, _, hblt, hcl, hfr, _⟩ := hnew.out.val_at (fun _ => rfl) hlj
                  obtain rfl : b' = w.heap.size := by simp at hv; exact hv.1.symm
                  have HA1 := Lib.hid (show anyN l (entP m i) (j + 1) = (f || (l[j]'(by omega) && decide (0 < ent m i j))) ∧ anyN l (fun j => entP m j i) (j + 1) = (t || (l[j]'(by omega) && decide (0 < ent m j i))) from by
                    unfold anyN
                    rw [HA.out.1, HA.out.2, List.getD_eq_getElem?_getD, hlj]
                    exact ⟨rfl, rfl⟩)
                  generalize l[j]'(by omega) = lj at *
                  generalize ent m i j = X at *
                  generalize ent m j i = Y at *
                  generalize hda : decide (0 < X) = da at *
                  generalize hdb : decide (0 < Y) = db at *
                  clear hae1 hA2 hB2 hv hlj HA
                  cases f <;> cases t <;> cases lj <;> cases da <;> cases db <;> (go_wp2; go_roundg (k - (j + 1)); (case measure => omega); (case rel => exact ⟨j + 1, _, _, rfl, rfl, by go_num, by omega, HA1, rfl⟩))
                · obtain rfl : j = k := by omega
                  have hbi := both_iff (m := m) (i := i) hll
                  rw [HA.out.1, HA.out.2] at hbi
                  have hli : l[i]? = some (l[i]'(by omega)) := List.getElem?_eq_getElem (by omega)
                  obtain ⟨b', c', hv, _, _, hblt, hcl, hfr, hst⟩ := hnew.out.val_at (fun _ => rfl) hli
                  obtain rfl : b' = w.heap.size := by simp at hv; exact hv.1.symm
                  have Hst := Lib.hid (hst false)
                  have Hbs := Lib.hid (hbel.out.setCell (p := ⟨w.heap.size, i, none⟩) (Nat.le_refl _) (.bool false))
                  have hon : On l i ↔ l[i]'(by omega) = true := by unfold On; rw [hli]; simp
                  generalize l[i]'(by omega) = li at *
                  have HK := Lib.hid (fun (hk : li = true → f = true ∧ t = true) => hpas.out.keep (fun h => hbi.2 (hk (hon.1 h))))
                  have HU := Lib.hid (fun (h1 : li = true) (h2 : ¬ (f = true ∧ t = true)) => hpas.out.unset (hon.2 h1) (fun h => h2 (hbi.1 h)))
                  clear hbi hli hv hst hon HA hae hpas
                  cases li with
                  | false =>
                    have R := Lib.hid (HK.out (fun h => by cases h))
                    clear HK HU Hst Hbs
                    go_wp2
                    go_roundg (j - (i + 1))
                    case measure => omega
                    case rel => exact ⟨i + 1, l, ch, rfl, by go_num, by omega, R, hnew, hbel⟩
                  | true =>
                    by_cases hft : f = true ∧ t = true
                    · obtain ⟨rfl, rfl⟩ := hft
                      have R := Lib.hid (HK.out (fun _ => ⟨rfl, rfl⟩))
                      clear HK HU Hst Hbs
                      go_wp2
                      go_roundg (j - (i + 1))
                      case measure => omega
                      case rel => exact ⟨i + 1, l, ch, rfl, by go_num, by omega, R, hnew, hbel⟩
                    · have R := Lib.hid (HU.out rfl hft)
                      clear HK HU
                      cases f with
                      | false =>
                        clear hft
                        go_wp2
                        go_roundg (j - (i + 1))
                        case measure => omega
                        case rel => exact ⟨i + 1, l.set i false, true, rfl, by go_num, by omega, R, Hst, Hbs⟩
                      | true =>
                        cases t with
                        | true => exact absurd ⟨rfl, rfl⟩ hft
                        | false =>
                          clear hft
                          go_wp2
                          go_roundg (j - (i + 1))
                          case measure => omega
                          case rel => exact ⟨i + 1, l.set i false, true, rfl, by go_num, by omega, R, Hst, Hbs⟩
            · obtain rfl : i = k := by omega
              have HS := Lib.hid hpas.out.1
              cases ch with
              | false =>
                have HE := Lib.hid (show l = liveL (EntP m) i from hpas.out.end)
                clear hpas
                go_wp2
                go_roundg 0
                case measure => omega
                case rel => exact ⟨l, false, 0, rfl, rfl, rfl, HS, Lib.hid (fun _ => HE.out), hnew, hbel⟩
              | true =>
                have hless := hpas.out.less.2
                clear hpas
                go_wp2
                go_roundg (cntT l + 1)
                case measure => omega
                case rel => exact ⟨l, true, cntT l + 1, rfl, rfl, rfl, HS, Lib.hid (fun h => by cases h), hnew, hbel⟩
end Go.Proofs.Ytcilgihmaaobeaa
end

section
/-
  The reference's live states of a labelled graph.
-/
namespace Go.Sd
open Go.RowKit Go.Deep
theorem Clos.congr {E E' : Nat → Nat → Prop} {n : Nat} (h : ∀ i j, i < n → j < n → (E i j ↔ E' i j)) {S : Nat → Prop} (hc : Clos E n S) : Clos E' n S := fun i hi => by
  obtain ⟨h1, ⟨j, hj, he⟩, k, hk, hf⟩ := hc i hi
  exact ⟨h1, ⟨j, hj, (h i j h1 (hc j hj).1).1 he⟩, k, hk, (h k i (hc k hk).1 h1).1 hf⟩
theorem liveL_congr {E E' : Nat → Nat → Prop} {n : Nat} (h : ∀ i j, i < n → j < n → (E i j ↔ E' i j)) : liveL E n = liveL E' n := by
  have hg : ∀ i, Gr E n i ↔ Gr E' n i := fun i => ⟨fun ⟨S, hS, hi⟩ => ⟨S, hS.congr h, hi⟩, fun ⟨S, hS, hi⟩ => ⟨S, hS.congr (fun i j a b => (h i j a b).symm), hi⟩⟩
  unfold liveL
  exact List.map_congr_left fun i _ => decide_eq_decide.2 (hg i)
end Go.Sd
namespace Go.Proofs.Ytcilgihmaaobeaa
open Go.RowKit Go.Deep Go.Sd
/-- Some arc leads from i to j. -/
def ArcP (xs : List Arc3) (i j : Nat) : Prop := ∃ a, a ∈ xs ∧ a.1 = (i : Int) ∧ a.2.1 = (j : Int)
def MatA (p : Nat) (m : List (List Int)) (xs : List Arc3) : Prop := Sq p m ∧ ∀ i j, i < p → j < p → (0 < ent m i j ↔ ArcP xs i j)
theorem MatA.start (p : Nat) : MatA p (List.replicate p (List.replicate p 0)) [] := by
  refine ⟨Sq.zeros p, fun i j hi hj => ?_⟩
  have := EB.zeros p i j
  constructor
  · intro h; omega
  · rintro ⟨a, ha, _⟩; simp at ha
theorem ent_set1 {p : Nat} {m : List (List Int)} (h : Sq p m) {p0 p1 : Nat} (h0 : p0 < p) (h1 : p1 < p) (i j : Nat) : ent (m.set p0 ((m.getD p0 []).set p1 1)) i j = if i = p0 ∧ j = p1 then 1 else ent m i j := by
  have hr := h.row h0
  unfold ent
  simp only [List.getD_eq_getElem?_getD, List.getElem?_set] at hr ⊢
  by_cases e : p0 = i
  · subst e
    have hl : p0 < m.length := by rw [h.1]; exact h0
    rw [if_pos rfl, if_pos hl]
    simp only [Option.getD_some, List.getElem?_set]
    by_cases e2 : p1 = j
    · subst e2
      simp [hr.2, h1]
    · rw [if_neg e2, if_neg (fun h => e2 h.2.symm)]
  · rw [if_neg e, if_neg (fun h => e h.1.symm)]
theorem MatA.step {p : Nat} {m : List (List Int)} {xs : List Arc3} (h : MatA p m xs) {p0 p1 : Nat} {y2 : Int} (h0 : p0 < p) (h1 : p1 < p) : MatA p (m.set p0 ((m.getD p0 []).set p1 1)) (xs ++ [((p0 : Int), (p1 : Int), y2)]) := by
  refine ⟨h.1.set h0 _ _, fun i j hi hj => ?_⟩
  rw [ent_set1 h.1 h0 h1]
  by_cases e : i = p0 ∧ j = p1
  · rw [if_pos e]
    obtain ⟨rfl, rfl⟩ := e
    exact ⟨fun _ => ⟨((i : Int), (j : Int), y2), by simp, rfl, rfl⟩, fun _ => by omega⟩
  · rw [if_neg e, h.2 i j hi hj]
    constructor
    · rintro ⟨a, ha, b⟩; exact ⟨a, by simp [ha], b⟩
    · rintro ⟨a, ha, b1, b2⟩
      rcases List.mem_append.1 ha with ha | ha
      · exact ⟨a, ha, b1, b2⟩
      · simp at ha
        subst ha
        simp at b1 b2
        exact absurd ⟨by omega, by omega⟩ e
theorem MatA.live {p : Nat} {m : List (List Int)} {xs : List Arc3} (h : MatA p m xs) : liveL (EntP m) p = liveL (ArcP xs) p :=
  liveL_congr fun i j hi hj => by rw [← h.2 i j hi hj]; unfold EntP entP; simp
set_option maxHeartbeats 4000000 in
set_option maxRecDepth 100000 in
theorem l14Live_c {w : World} {v : Value} {l : Lb} (h : LabR w v l) (hok : isLab l = true) :
    Calls Try.prog 60 #[v] w (Makes (OwnOf 4 (OValR Value.bool)) w (liveL (ArcP l.2.2) l.2.1.toNat)) := by
  obtain ⟨ho, hS1, hS2, _, _⟩ := isLab_ok hok
  clear hok
  obtain ⟨L, S, xs⟩ := l
  obtain ⟨va, rfl, hlen, a, c, rfl, _, _, _, hcell⟩ := h
  simp only at *
  obtain ⟨p, rfl⟩ := Int.eq_ofNat_of_zero_le (show 0 ≤ S by omega)
  generalize hn : xs.length = n at *
  have Hn := Lib.hid hn.symm
  clear hn
  have hp12 : p ≤ 12 := by omega
  have hp0 : 0 < p := by omega
  have Hz := Lib.hid (fun w1 => l4Zero_c (w := w1) (p := p) (r := p) (by omega) (by omega))
  have Ho := Lib.hid ho
  rw [show ((p : Int)).toNat = p from rfl]
  clear ho hS1 hS2
  go_enter Try.func60, Try.ntmps60
  go_wp2_with fail
  obtain ⟨w1, ex, A0, c0, c1, c2, m1⟩ := boxA3_ex w 26 (.int .i64 L) (.int .i64 p) (.slice a n c)
  change Calls Try.prog _ _ (w.alloc (.cells #[.int .i64 L, .int .i64 p, .slice a n c] 26)) _
  rw [ex]
  clear ex
  (with_reducible refine (Hz.out _).mono ?_)
  rintro e w3 ⟨tv, rfl, hnew, hb⟩
  obtain ⟨gb, gc, _, _, rfl, _, hgb, hgb2, _⟩ := hnew.tab_at (i := 0) (j := 0) ((Sq.zeros p).row hp0).1 ((Sq.zeros p).entry hp0 hp0)
  rw [(Sq.zeros p).1] at hnew ⊢
  replace hnew := hnew.mono (Nat.succ_le_of_lt m1)
  replace hgb := Nat.le_trans A0.size hgb
  replace c2 := (hb.cell (p := ⟨w.heap.size, 2, none⟩) m1).trans c2
  replace m1 := Nat.lt_of_lt_of_le m1 hb.size
  replace A0 := A0.trans (hb.mono A0.size)
  clear hb c0 c1
  have Hnew := Lib.hid hnew
  have HA0 := Lib.hid A0
  have HM0 := Lib.hid (show MatA p (List.replicate p (List.replicate p 0)) (xs.take 0) from MatA.start p)
  clear hnew A0 Hz
  go_wp2
  go_loopg [4] n (fun g i wr => ∃ (k : Nat) (m : List (List Int)), i = .int .i64 k ∧ k + g = n ∧ Hid (MatA p m (xs.take k)) ∧ Hid (New (OTab 3 54) (w.heap.size + 1) wr (.slice (some ⟨gb, 0, none⟩) p gc) m) ∧ wr.cell? ⟨w.heap.size, 2, none⟩ = some (.slice a n c) ∧ w.heap.size < wr.heap.size ∧ gb < wr.heap.size ∧ Hid (Below w.heap.size w wr))
  case atStart => exact ⟨0, _, rfl, by omega, HM0, Hnew, c2, m1, hgb2, HA0⟩
  case round =>
    obtain ⟨k, m, rfl, hk, hma, hnew, r2, hwr, hgb3, hbel⟩ := hrel
    clear HM0 Hnew HA0
    by_cases hlt : k < n
    · obtain ⟨b, o, rfl, hb, hx0⟩ := hcell (by omega)
      obtain ⟨y, hy, _⟩ := at_lt (xs := xs) (k := k) (by have := Hn.out; omega)
      obtain ⟨f0, f1, f2⟩ := hx0 k y hy
      obtain ⟨i0, i1, i2, i3⟩ := okArcs_at Ho.out hy
      have g0 : wr.cell? ⟨b, o + k * 3, none⟩ = some (.int .i64 y.1) := (hbel.out.cell (p := ⟨b, o + k * 3, none⟩) hb).trans f0
      have g1 : wr.cell? ⟨b, o + k * 3 + 1, none⟩ = some (.int .i64 y.2.1) := (hbel.out.cell (p := ⟨b, o + k * 3 + 1, none⟩) hb).trans f1
      have HT := Lib.hid (show xs.take (k + 1) = xs.take k ++ [y] from (take_snoc' hy).symm)
      obtain ⟨y0, y1, y2⟩ := y
      simp only at g0 g1 i0 i1 i2 i3
      obtain ⟨p0, rfl⟩ := Int.eq_ofNat_of_zero_le i0
      obtain ⟨p1, rfl⟩ := Int.eq_ofNat_of_zero_le i2
      have hq0 : p0 < p := by omega
      have hq1 : p1 < p := by omega
      obtain ⟨b', c'', sb, sc, hv, _, _, _, hcl1, _, hsb, hsb2, hcl2, hfr, hst⟩ := hnew.out.tab_at (hma.out.1.row hq0).1 (hma.out.1.entry hq0 hq1)
      obtain rfl : b' = gb := by simp at hv; exact hv.1.symm
      rw [(hma.out.1.row hq0).2] at hcl1
      have HM := Lib.hid (show MatA p (m.set p0 ((m.getD p0 []).set p1 1)) (xs.take (k + 1)) from by rw [HT.out]; exact hma.out.step hq0 hq1)
      have Hst := Lib.hid (hst 1)
      have Hb3 := Lib.hid (hbel.out.setCell (p := ⟨sb, p1, none⟩) (Nat.le_of_succ_le hsb) (.int .i64 1))
      have Hc2 := Lib.hid ((World.cell?_setCell_other wr ⟨sb, p1, none⟩ ⟨w.heap.size, 2, none⟩ (.int .i64 1) (by simp <;> omega)).trans r2)
      have hj0 : (p0 : Int) < (p : Int) := by omega
      have hj1 : (p1 : Int) < (p : Int) := by omega
      have hkn : (k : Int) < (n : Int) := by omega
      have Hlt := Lib.hid (show w.heap.size < wr.heap.size ∧ b' < wr.heap.size from ⟨hwr, hgb3⟩)
      generalize m.set p0 ((m.getD p0 []).set p1 1) = m' at *
      generalize ent m p0 p1 = X at *
      clear hx0 hcell hy f0 f1 f2 hv hst hnew hbel hma HT
      go_wp2
      go_still_tail 16, (by kernel_rfl)
      go_wp2
      go_roundg (n - (k + 1))
      case measure => omega
      case rel => exact ⟨k + 1, m', by go_num, by omega, HM, Lib.hid (New.heap (OTab.kept _ _) Hst.out rfl), Hc2.out, by simp; exact Hlt.out.1, by simp; exact Hlt.out.2, Lib.hid Hb3.out.drew⟩
    · have HF := Lib.hid (show liveL (EntP m) p = liveL (ArcP xs) p from by have h := hma.out; rw [List.take_of_length_le (by have := Hn.out; omega)] at h; exact h.live)
      have H5 := Lib.hid (l5Live_c hnew.out.tab hma.out.1 hp0 (by omega))
      rw [HF.out] at H5
      clear hcell hma hnew
      go_wp2_with fail
      refine H5.out.mono ?_
      rintro e w5 ⟨r, rfl, hn5, hb5⟩
      have HN := Lib.hid (hn5.mono (Nat.le_of_lt hwr))
      have HB := Lib.hid (hbel.out.trans (hb5.mono (Nat.le_of_lt hwr)))
      clear hn5 hb5 H5
      go_wp2
      go_ret
      exact ⟨_, rfl, HN.out, HB.out⟩
end Go.Proofs.Ytcilgihmaaobeaa
end

section
/-
  The program's live places: one round, in plain Lean; slices of bools by their cells.
-/
namespace Go.Sd
open Go.RowKit Go.Deep
/-- j stands in row i. -/
def EntN (next : List (List Int)) (i j : Nat) : Prop := (j : Int) ∈ next.getD i []
/-- The arcs of the rows before i, and the first c of row i. -/
def Pr (next : List (List Int)) (i c x y : Nat) : Prop := (x < i ∧ EntN next x y) ∨ (x = i ∧ (y : Int) ∈ (next.getD i []).take c)
def FrOk (next : List (List Int)) (l0 : List Bool) (i c : Nat) (fr : List Bool) : Prop := fr.length = l0.length ∧ ∀ x, On fr x ↔ On l0 x ∧ ∃ y, Pr next i c x y ∧ On l0 y
def ToOk (next : List (List Int)) (l0 : List Bool) (i c : Nat) (t : List Bool) : Prop := t.length = l0.length ∧ ∀ y, On t y ↔ On l0 y ∧ ∃ x, Pr next i c x y ∧ On l0 x
section
variable {next : List (List Int)} {l0 fr t l : List Bool} {i c x y n : Nat}
theorem Pr.zero : ¬ Pr next 0 0 x y := by rintro (⟨h, _⟩ | ⟨_, h⟩) <;> simp at h
theorem Pr.succ (hy : (next.getD i [])[c]? = some (y : Int)) {x' y' : Nat} : Pr next i (c + 1) x' y' ↔ Pr next i c x' y' ∨ (x' = i ∧ y' = y) := by
  unfold Pr
  rw [List.take_add_one, hy]
  simp only [Option.toList_some, List.mem_append, List.mem_singleton, Int.ofNat_inj]
  constructor
  · rintro (h | ⟨h1, h | h⟩)
    · exact .inl (.inl h)
    · exact .inl (.inr ⟨h1, h⟩)
    · exact .inr ⟨h1, h⟩
  · rintro ((h | ⟨h1, h⟩) | ⟨h1, h⟩)
    · exact .inl h
    · exact .inr ⟨h1, .inl h⟩
    · exact .inr ⟨h1, .inr h⟩
theorem Pr.row (hc : (next.getD i []).length ≤ c) : Pr next i c x y ↔ Pr next (i + 1) 0 x y := by
  unfold Pr
  rw [List.take_of_length_le hc]
  constructor
  · rintro (⟨h, e⟩ | ⟨rfl, e⟩)
    · exact .inl ⟨by omega, e⟩
    · exact .inl ⟨by omega, e⟩
  · rintro (⟨h, e⟩ | ⟨_, e⟩)
    · by_cases hx : x < i
      · exact .inl ⟨hx, e⟩
      · obtain rfl : x = i := by omega
        exact .inr ⟨rfl, e⟩
    · simp at e
theorem Pr.all (hn : next.length ≤ n) : Pr next n 0 x y ↔ EntN next x y := by
  unfold Pr
  constructor
  · rintro (⟨_, e⟩ | ⟨_, e⟩)
    · exact e
    · simp at e
  · intro e
    by_cases hx : x < n
    · exact .inl ⟨hx, e⟩
    · unfold EntN at e
      rw [List.getD_eq_getElem?_getD, List.getElem?_eq_none (by omega)] at e
      simp at e
theorem On.set_iff {b : Bool} (hi : i < l.length) : On (l.set i b) x ↔ if x = i then b = true else On l x := by
  unfold On
  by_cases e : x = i
  · subst e
    rw [List.getElem?_set_self hi, if_pos rfl]; simp
  · rw [List.getElem?_set_ne (fun h => e h.symm), if_neg e]
theorem FrOk.start : FrOk next l0 0 0 (List.replicate l0.length false) := by
  refine ⟨by simp, fun x => ⟨fun h => ?_, fun ⟨_, y, h, _⟩ => absurd h Pr.zero⟩⟩
  unfold On at h
  rw [List.getElem?_replicate] at h
  split at h <;> simp at h
theorem ToOk.start : ToOk next l0 0 0 (List.replicate l0.length false) := by
  refine ⟨by simp, fun x => ⟨fun h => ?_, fun ⟨_, y, h, _⟩ => absurd h Pr.zero⟩⟩
  unfold On at h
  rw [List.getElem?_replicate] at h
  split at h <;> simp at h
theorem FrOk.skip (h : FrOk next l0 i c fr) (hy : (next.getD i [])[c]? = some (y : Int)) (hn : ¬ (On l0 i ∧ On l0 y)) : FrOk next l0 i (c + 1) fr := by
  refine ⟨h.1, fun x' => (h.2 x').trans ⟨fun ⟨h1, y', h2, h3⟩ => ⟨h1, y', (Pr.succ hy).2 (.inl h2), h3⟩, fun ⟨h1, y', h2, h3⟩ => ?_⟩⟩
  rcases (Pr.succ hy).1 h2 with h2 | ⟨rfl, rfl⟩
  · exact ⟨h1, y', h2, h3⟩
  · exact absurd ⟨h1, h3⟩ hn
theorem ToOk.skip (h : ToOk next l0 i c t) (hy : (next.getD i [])[c]? = some (y : Int)) (hn : ¬ (On l0 i ∧ On l0 y)) : ToOk next l0 i (c + 1) t := by
  refine ⟨h.1, fun x' => (h.2 x').trans ⟨fun ⟨h1, y', h2, h3⟩ => ⟨h1, y', (Pr.succ hy).2 (.inl h2), h3⟩, fun ⟨h1, y', h2, h3⟩ => ?_⟩⟩
  rcases (Pr.succ hy).1 h2 with h2 | ⟨rfl, rfl⟩
  · exact ⟨h1, y', h2, h3⟩
  · exact absurd ⟨h3, h1⟩ hn
theorem FrOk.take (h : FrOk next l0 i c fr) (hy : (next.getD i [])[c]? = some (y : Int)) (h1 : On l0 i) (h2 : On l0 y) : FrOk next l0 i (c + 1) (fr.set i true) := by
  refine ⟨by rw [List.length_set]; exact h.1, fun x' => ?_⟩
  rw [On.set_iff (by rw [h.1]; exact h1.lt)]
  by_cases e : x' = i
  · subst e
    rw [if_pos rfl]
    exact ⟨fun _ => ⟨h1, y, (Pr.succ hy).2 (.inr ⟨rfl, rfl⟩), h2⟩, fun _ => rfl⟩
  · rw [if_neg e, h.2 x']
    refine ⟨fun ⟨h3, y', h4, h5⟩ => ⟨h3, y', (Pr.succ hy).2 (.inl h4), h5⟩, fun ⟨h3, y', h4, h5⟩ => ⟨h3, y', ?_, h5⟩⟩
    rcases (Pr.succ hy).1 h4 with h4 | ⟨e2, _⟩
    · exact h4
    · exact absurd e2 e
theorem ToOk.take (h : ToOk next l0 i c t) (hy : (next.getD i [])[c]? = some (y : Int)) (h1 : On l0 i) (h2 : On l0 y) : ToOk next l0 i (c + 1) (t.set y true) := by
  refine ⟨by rw [List.length_set]; exact h.1, fun x' => ?_⟩
  rw [On.set_iff (by rw [h.1]; exact h2.lt)]
  by_cases e : x' = y
  · subst e
    rw [if_pos rfl]
    exact ⟨fun _ => ⟨h2, i, (Pr.succ hy).2 (.inr ⟨rfl, rfl⟩), h1⟩, fun _ => rfl⟩
  · rw [if_neg e, h.2 x']
    refine ⟨fun ⟨h3, y', h4, h5⟩ => ⟨h3, y', (Pr.succ hy).2 (.inl h4), h5⟩, fun ⟨h3, y', h4, h5⟩ => ⟨h3, y', ?_, h5⟩⟩
    rcases (Pr.succ hy).1 h4 with h4 | ⟨_, e2⟩
    · exact h4
    · exact absurd e2 e
theorem FrOk.row (h : FrOk next l0 i c fr) (hc : (next.getD i []).length ≤ c) : FrOk next l0 (i + 1) 0 fr :=
  ⟨h.1, fun x => (h.2 x).trans ⟨fun ⟨a, y, b, d⟩ => ⟨a, y, (Pr.row hc).1 b, d⟩, fun ⟨a, y, b, d⟩ => ⟨a, y, (Pr.row hc).2 b, d⟩⟩⟩
theorem ToOk.row (h : ToOk next l0 i c t) (hc : (next.getD i []).length ≤ c) : ToOk next l0 (i + 1) 0 t :=
  ⟨h.1, fun x => (h.2 x).trans ⟨fun ⟨a, y, b, d⟩ => ⟨a, y, (Pr.row hc).1 b, d⟩, fun ⟨a, y, b, d⟩ => ⟨a, y, (Pr.row hc).2 b, d⟩⟩⟩
/-- The set with the first k places renewed. -/
def Ren (l0 fr t : List Bool) (k : Nat) (l : List Bool) : Prop := l.length = l0.length ∧ ∀ x, On l x ↔ On l0 x ∧ (x < k → On fr x ∧ On t x)
theorem Ren.start : Ren l0 fr t 0 l0 := ⟨rfl, fun _ => ⟨fun h => ⟨h, fun h2 => absurd h2 (Nat.not_lt_zero _)⟩, fun h => h.1⟩⟩
theorem Ren.step {k : Nat} {b p q : Bool} (h : Ren l0 fr t k l) (hb : l[k]? = some b) (hp : fr[k]? = some p) (hq : t[k]? = some q) : Ren l0 fr t (k + 1) (l.set k (b && p && q)) := by
  have hk : k < l.length := (List.getElem?_eq_some_iff.1 hb).1
  refine ⟨by rw [List.length_set]; exact h.1, fun x => ?_⟩
  rw [On.set_iff hk]
  by_cases e : x = k
  · subst e
    have hx := h.2 x
    rw [if_pos rfl]
    have h1 : On l x ↔ b = true := by unfold On; rw [hb]; simp
    have h2 : On fr x ↔ p = true := by unfold On; rw [hp]; simp
    have h3 : On t x ↔ q = true := by unfold On; rw [hq]; simp
    rw [h1] at hx
    rw [Bool.and_eq_true, Bool.and_eq_true, hx, h2, h3]
    constructor
    · rintro ⟨⟨⟨a, _⟩, b⟩, c⟩; exact ⟨a, fun _ => ⟨b, c⟩⟩
    · rintro ⟨a, b⟩
      obtain ⟨c, d⟩ := b (by omega)
      exact ⟨⟨⟨a, fun h => absurd h (by omega)⟩, c⟩, d⟩
  · rw [if_neg e, h.2 x]
    constructor
    · rintro ⟨a, b⟩; exact ⟨a, fun hx => b (by omega)⟩
    · rintro ⟨a, b⟩; exact ⟨a, fun hx => b (by omega)⟩
theorem Ren.rnd (h : Ren l0 fr t n l) (hl : l0.length = n) (hn : next.length ≤ n) (hf : FrOk next l0 n 0 fr) (ht : ToOk next l0 n 0 t) : Rnd (EntN next) l0 l := by
  refine ⟨h.1, fun x => ?_⟩
  rw [h.2 x]
  constructor
  · rintro ⟨a, b⟩
    obtain ⟨c, d⟩ := b (by rw [← hl]; exact a.lt)
    obtain ⟨_, y, hy, hy2⟩ := (hf.2 x).1 c
    obtain ⟨_, z, hz, hz2⟩ := (ht.2 x).1 d
    exact ⟨a, ⟨y, hy2, (Pr.all hn).1 hy⟩, z, hz2, (Pr.all hn).1 hz⟩
  · rintro ⟨a, ⟨y, hy, hy2⟩, z, hz, hz2⟩
    exact ⟨a, fun _ => ⟨(hf.2 x).2 ⟨a, y, (Pr.all hn).2 hy2, hy⟩, (ht.2 x).2 ⟨a, z, (Pr.all hn).2 hz2, hz⟩⟩⟩
end
/-- A slice of bools of the call's own, by its cells. -/
def Bl (w : World) (b : Nat) (l : List Bool) : Prop := b < w.heap.size ∧ ∀ i x, l[i]? = some x → w.cell? ⟨b, i, none⟩ = some (.bool x) ∧ w.frozen? ⟨b, i, none⟩ = false
theorem Bl.set {w : World} {b i : Nat} {l : List Bool} (h : Bl w b l) (hi : i < l.length) (y : Bool) : Bl (w.setCell ⟨b, i, none⟩ (.bool y)) b (l.set i y) := by
  refine ⟨by simpa using h.1, fun j x hx => ?_⟩
  by_cases e : i = j
  · subst e
    rw [List.getElem?_set_self hi] at hx
    cases hx
    have h1 := h.2 i _ (List.getElem?_eq_getElem hi)
    exact ⟨World.cell?_setCell_same _ _ _ h1.1, by rw [World.frozen?_setCell]; exact h1.2⟩
  · rw [List.getElem?_set_ne e] at hx
    have h1 := h.2 j x hx
    exact ⟨by rw [World.cell?_setCell_other _ _ _ _ (by simp)]; exact h1.1, by rw [World.frozen?_setCell]; exact h1.2⟩
theorem Bl.other {w : World} {b b' i : Nat} {l : List Bool} (h : Bl w b l) (hb : b' ≠ b) (u : Value) : Bl (w.setCell ⟨b', i, none⟩ u) b l :=
  ⟨by simpa using h.1, fun j x hx => ⟨by rw [World.cell?_setCell_other _ _ _ _ (by intro h2; injection h2 with h3; exact hb h3)]; exact (h.2 j x hx).1, by rw [World.frozen?_setCell]; exact (h.2 j x hx).2⟩⟩
end Go.Sd
end

section
/-
  The program's live places.
-/
namespace Go.Proofs.Ytcilgihmaaobeaa
open Go.RowKit Go.Deep Go.Sd

set_option maxHeartbeats 4000000 in
set_option maxRecDepth 10000 in
theorem lively_c {w : World} {v : Value} {next : List (List Int)} {n : Nat} (h : Tab w v next) (hnx : next.length = n) (hin : ∀ r, r ∈ next → ∀ x, x ∈ r → 0 ≤ x ∧ x < (n : Int)) (hn0 : 0 < n) (hn : n ≤ 16) :
    Calls Try.prog 78 #[v] w (Makes (OwnOf 4 (OValR Value.bool)) w (liveL (EntN next) n)) := by
  obtain ⟨a, c, rfl, _, _, hcell⟩ := h.shape
  obtain ⟨ab, ao, rfl, hab, hx0⟩ := hcell (by omega)
  rw [hnx]
  have Hnx := Lib.hid hnx
  have Hin := Lib.hid hin
  clear h hcell hin hnx
  have hmk := fun w => run_make_row' (P := Try.prog) 81 4 (.bool false) 1 Try.underlying81 infoB rfl .i64 .i64 n (by omega) (by omega) (w := w)
  go_enter Try.func78, Try.ntmps78
  go_wp2
  go_loopg [17] n (fun g i wr => ∃ (k : Nat), i = .int .i64 k ∧ k + g = n ∧ Hid (New (OwnOf 4 (OValR Value.bool)) w.heap.size wr (.slice (some ⟨w.heap.size, 0, none⟩) n n) (fillT n k)) ∧ Hid (Below w.heap.size w wr))
  case atStart => exact ⟨0, rfl, by omega, Lib.hid (New.made 4 w (.bool false) false n (Nat.le_refl _) (by omega) (fun _ => ⟨rfl, rfl⟩)), Lib.hid ((Below.refl _ _).alloc (Nat.le_refl _) _)⟩
  case round =>
    obtain ⟨k, rfl, hk, hnew, hbel⟩ := hrel
    by_cases hlt : k < n
    · obtain ⟨b', c', hv, _, _, hblt, hcl, hfr, hst⟩ := hnew.out.val_at (fun _ => rfl) (fillT_at hlt)
      obtain rfl : b' = w.heap.size := by simp at hv; exact hv.1.symm
      have Hst := Lib.hid (by have := hst true; rw [fillT_set hlt] at this; exact this)
      have Hb := Lib.hid (hbel.out.setCell (p := ⟨w.heap.size, k, none⟩) (Nat.le_refl _) (.bool true))
      have hkI : (k : Int) < (n : Int) := Int.ofNat_lt.2 hlt
      clear hv hst hnew hbel hx0 hmk
      go_wp2
      go_roundg (n - (k + 1))
      case measure => omega
      case rel => exact ⟨k + 1, by go_num, by omega, Hst, Hb⟩
    · obtain rfl : k = n := by omega
      have HL0 := Lib.hid (show New (OwnOf 4 (OValR Value.bool)) w.heap.size wr (.slice (some ⟨w.heap.size, 0, none⟩) k k) (List.replicate k true) from by have h := hnew.out; unfold fillT at h; simpa using h)
      have HS0 := Lib.hid (Inv.start (E := EntN next) (n := k))
      clear hnew
      go_wp2
      go_loopg [26] k (fun g i wr => ∃ (r : Nat) (l : List Bool), i = .int .i64 r ∧ r + g = k ∧ Hid (Inv (EntN next) k r l) ∧ Hid (New (OwnOf 4 (OValR Value.bool)) w.heap.size wr (.slice (some ⟨w.heap.size, 0, none⟩) k k) l) ∧ Hid (Below w.heap.size w wr))
      case atStart => exact ⟨0, List.replicate k true, rfl, by omega, HS0, HL0, hbel⟩
      case round =>
        clear HS0 HL0 hbel
        obtain ⟨r, l0, rfl, hr, hinv, hnew, hbel⟩ := hrel
        obtain ⟨w0, rfl⟩ : ∃ x, x = wr := ⟨_, rfl⟩
        by_cases hltr : r < k
        · have hrI : (r : Int) < (k : Int) := Int.ofNat_lt.2 hltr
          have hbig : ∀ (bf : Nat), w0.heap.size ≤ bf → bf < w0.heap.size + 2 → Bl (((w0.alloc (.cells (madeCells #[.bool false] k) 4)).alloc (.cells (madeCells #[.bool false] k) 4)).drew) bf (List.replicate l0.length false) := by
            intro bf h1 h2
            have hl0 : l0.length = k := hinv.out.1.1
            have hm : ∀ (w1 : World), w1.heap.size ≤ w0.heap.size + 1 → Bl (w1.alloc (.cells (madeCells #[.bool false] k) 4)) w1.heap.size (List.replicate k false) := by
              intro w1 _
              have hnw := New.made (R := OValR Value.bool) 4 w1 (.bool false) false k (Nat.le_refl _) (by omega) (fun _ => ⟨rfl, rfl⟩)
              refine ⟨by simp, fun i x hx => ?_⟩
              obtain ⟨b', c', hv, _, _, _, hcl, hfr, _⟩ := hnw.val_at (fun _ => rfl) hx
              obtain rfl : b' = w1.heap.size := by simp at hv; exact hv.1.symm
              exact ⟨hcl, hfr⟩
            rw [hl0]
            by_cases e : bf = w0.heap.size
            · subst e
              have h3 := hm w0 (by omega)
              have hbb : Below (w0.heap.size + 1) (w0.alloc (.cells (madeCells #[.bool false] k) 4)) (((w0.alloc (.cells (madeCells #[.bool false] k) 4)).alloc (.cells (madeCells #[.bool false] k) 4)).drew) := ((Below.refl _ _).alloc (by simp) _).drew
              exact ⟨by simp [World.drew]; omega, fun i x hx => ⟨(hbb.cell (p := ⟨w0.heap.size, i, none⟩) (by simp)).trans (h3.2 i x hx).1, (hbb.frozen (p := ⟨w0.heap.size, i, none⟩) (by simp)).trans (h3.2 i x hx).2⟩⟩
            · obtain rfl : bf = w0.heap.size + 1 := by omega
              have h3 := hm (w0.alloc (.cells (madeCells #[.bool false] k) 4)) (by simp)
              have e2 : (w0.alloc (.cells (madeCells #[.bool false] k) 4)).heap.size = w0.heap.size + 1 := by simp
              rw [e2] at h3
              have hbb : Below (w0.heap.size + 2) ((w0.alloc (.cells (madeCells #[.bool false] k) 4)).alloc (.cells (madeCells #[.bool false] k) 4)) (((w0.alloc (.cells (madeCells #[.bool false] k) 4)).alloc (.cells (madeCells #[.bool false] k) 4)).drew) := (Below.refl _ _).drew
              exact ⟨by simp [World.drew], fun i x hx => ⟨(hbb.cell (p := ⟨w0.heap.size + 1, i, none⟩) (by simp)).trans (h3.2 i x hx).1, (hbb.frozen (p := ⟨w0.heap.size + 1, i, none⟩) (by simp)).trans (h3.2 i x hx).2⟩⟩
          have hB9 : Below w0.heap.size w0 (((w0.alloc (.cells (madeCells #[.bool false] k) 4)).alloc (.cells (madeCells #[.bool false] k) 4)).drew) := (((Below.refl _ _).alloc (Nat.le_refl _) _).alloc (by simp) _).drew
          have HB0 := Lib.hid (hbig w0.heap.size (Nat.le_refl _) (by omega))
          have HB1 := Lib.hid (hbig (w0.heap.size + 1) (by omega) (by omega))
          have HB9 := Lib.hid hB9
          clear hbig hB9
          have HN0 := Lib.hid hnew.out
          have Hl0 := Lib.hid hinv.out.1.1
          go_wp2
          go_region
          · clear hmk
            obtain ⟨bf, ebf⟩ : ∃ x, x = w0.heap.size := ⟨_, rfl⟩
            obtain ⟨bt, ebt⟩ : ∃ x, x = w0.heap.size + 1 := ⟨_, rfl⟩
            have hbf : w0.heap.size ≤ bf := by omega
            have hbt : w0.heap.size ≤ bt := by omega
            have hne : bf ≠ bt := by omega
            have hne2 : bt ≠ bf := by omega
            rw [← ebf] at HB0
            rw [← ebt] at HB1
            generalize ((w0.alloc (.cells (madeCells #[.bool false] k) 4)).alloc (.cells (madeCells #[.bool false] k) 4)).drew = w9 at *
            have HF0 := Lib.hid (show FrOk next l0 0 0 (List.replicate l0.length false) ∧ Bl w9 bf (List.replicate l0.length false) from ⟨FrOk.start, HB0.out⟩)
            have HT0 := Lib.hid (show ToOk next l0 0 0 (List.replicate l0.length false) ∧ Bl w9 bt (List.replicate l0.length false) from ⟨ToOk.start, HB1.out⟩)
            try rw [← ebt]
            try rw [← ebf]
            clear ebf ebt HB0 HB1
            go_wp2
            go_loopg [36] k (fun g iv wr => ∃ (i : Nat) (fr t : List Bool), iv = .int .i64 i ∧ i + g = k ∧ Hid (FrOk next l0 i 0 fr ∧ Bl wr bf fr) ∧ Hid (ToOk next l0 i 0 t ∧ Bl wr bt t) ∧ Hid (Below w0.heap.size w0 wr))
            case atStart => exact ⟨0, _, _, rfl, by omega, HF0, HT0, HB9⟩
            case round =>
              clear HF0 HT0 HB9
              obtain ⟨i, fr, t, rfl, hi, hfo, hto, hb0⟩ := hrel
              by_cases hlti : i < k
              · obtain ⟨row, hrow, _⟩ := at_lt (xs := next) (k := i) (by have := Hnx.out; omega)
                obtain ⟨u, hu, hru⟩ := hx0 i row hrow
                have hgd : next.getD i [] = row := by rw [List.getD_eq_getElem?_getD, hrow]; rfl
                have Hgd := Lib.hid hgd
                have Hrow := Lib.hid (Hin.out row (List.mem_of_getElem? hrow))
                have hu1 := ((hbel.out.trans (hb0.out.mono hbel.out.size)).cell (p := ⟨ab, ao + i, none⟩) hab).trans hu
                obtain ⟨ra, rc, rfl, _, _, hrc⟩ := hru.shape
                obtain ⟨m, hm⟩ : ∃ m, m = row.length := ⟨_, rfl⟩
                have Hm := Lib.hid hm
                have hm63 : m ≤ 9223372036854775807 := by omega
                rw [← hm] at hrc hu1
                have hiI : (i : Int) < (k : Int) := Int.ofNat_lt.2 hlti
                clear hu hru hrow hgd hm
                go_wp2
                go_loopg [43] m (fun g cv wr => ∃ (c : Nat) (fr t : List Bool), cv = .int .i64 c ∧ c + g = m ∧ Hid (FrOk next l0 i c fr ∧ Bl wr bf fr) ∧ Hid (ToOk next l0 i c t ∧ Bl wr bt t) ∧ Hid (Below w0.heap.size w0 wr))
                case atStart => exact ⟨0, fr, t, rfl, by omega, hfo, hto, hb0⟩
                case round =>
                  clear hfo hto hb0 hu1
                  obtain ⟨c, fr, t, rfl, hc, hfo, hto, hb0⟩ := hrel
                  by_cases hltc : c < m
                  · obtain ⟨b, o, rfl, hb, hr0⟩ := hrc (by omega)
                    obtain ⟨y, hy, _⟩ := at_lt (xs := row) (k := c) (by have := Hm.out; omega)
                    obtain ⟨u, hu2, hux⟩ := hr0 c y hy
                    obtain rfl : u = .int .i64 y := hux
                    obtain ⟨hy0, hy1⟩ := Hrow.out y (List.mem_of_getElem? hy)
                    obtain ⟨yn, rfl⟩ := Int.eq_ofNat_of_zero_le hy0
                    have hyn : yn < k := by omega
                    have Hy := Lib.hid (show (next.getD i [])[c]? = some (yn : Int) from by rw [Hgd.out]; exact hy)
                    have hc1 := ((hbel.out.trans (hb0.out.mono hbel.out.size)).cell (p := ⟨b, o + c, none⟩) hb).trans hu2
                    have hll := Hl0.out
                    have hli : l0[i]? = some (l0[i]'(by omega)) := List.getElem?_eq_getElem (by omega)
                    have hly : l0[yn]? = some (l0[yn]'(by omega)) := List.getElem?_eq_getElem (by omega)
                    obtain ⟨b1, _, hv, _, _, hbl1, hcl1, _, _⟩ := HN0.out.val_at (fun _ => rfl) hli
                    obtain rfl : b1 = w.heap.size := by simp at hv; exact hv.1.symm
                    obtain ⟨b2, _, hv2, _, _, _, hcl2, _, _⟩ := HN0.out.val_at (fun _ => rfl) hly
                    obtain rfl : b2 = w.heap.size := by simp at hv2; exact hv2.1.symm
                    replace hcl1 := (hb0.out.cell (p := ⟨w.heap.size, i, none⟩) hbl1).trans hcl1
                    replace hcl2 := (hb0.out.cell (p := ⟨w.heap.size, yn, none⟩) hbl1).trans hcl2
                    have hoi : On l0 i ↔ l0[i]'(by omega) = true := by unfold On; rw [hli]; simp
                    have hoy : On l0 yn ↔ l0[yn]'(by omega) = true := by unfold On; rw [hly]; simp
                    generalize l0[i]'(by omega) = li at *
                    generalize l0[yn]'(by omega) = ly at *
                    have hcm : (c : Int) < (m : Int) := Int.ofNat_lt.2 hltc
                    have hiF : i < fr.length := by rw [hfo.out.1.1]; omega
                    have hyT : yn < t.length := by rw [hto.out.1.1]; omega
                    have HSK := Lib.hid (fun (h : ¬ (li = true ∧ ly = true)) => And.intro (hfo.out.1.skip Hy.out (fun ⟨p1, p2⟩ => h ⟨hoi.1 p1, hoy.1 p2⟩)) (hto.out.1.skip Hy.out (fun ⟨p1, p2⟩ => h ⟨hoi.1 p1, hoy.1 p2⟩)))
                    have HTK := Lib.hid (fun (h1 : li = true) (h2 : ly = true) => And.intro (hfo.out.1.take Hy.out (hoi.2 h1) (hoy.2 h2)) (hto.out.1.take Hy.out (hoi.2 h1) (hoy.2 h2)))
                    have fA := hfo.out.2.2 i _ (List.getElem?_eq_getElem hiF)
                    have tA := hto.out.2.2 yn _ (List.getElem?_eq_getElem hyT)
                    have HBF := Lib.hid (((hfo.out.2.set hiF true).other (i := yn) hne2 (.bool true)))
                    have HBT := Lib.hid ((hto.out.2.other (i := i) hne (.bool true)).set hyT true)
                    have HBW := Lib.hid ((hb0.out.setCell (p := ⟨bf, i, none⟩) hbf (.bool true)).setCell (p := ⟨bt, yn, none⟩) hbt (.bool true))
                    obtain ⟨fA1, fA2⟩ := fA
                    obtain ⟨tA1, tA2⟩ := tA
                    have hiF' : bf < wr.heap.size := hfo.out.2.1
                    have hbF := Lib.hid hfo.out.2
                    have hbT := Lib.hid hto.out.2
                    generalize fr[i] = x1 at *
                    generalize t[yn] = x2 at *
                    clear hy hr0 hu2 hli hly hv hv2 hoi hoy hy0 hy1 Hy hfo hto hx0
                    cases li with
                    | false =>
                      have R := Lib.hid (HSK.out (by simp))
                      clear HSK HTK HBF HBT HBW fA1 fA2 tA1 tA2
                      go_wp2
                      go_roundg (m - (c + 1))
                      case measure => omega
                      case rel => exact ⟨c + 1, fr, t, by go_num, by omega, Lib.hid ⟨R.out.1, hbF.out⟩, Lib.hid ⟨R.out.2, hbT.out⟩, hb0⟩
                    | true =>
                      cases ly with
                      | false =>
                        have R := Lib.hid (HSK.out (by simp))
                        clear HSK HTK HBF HBT HBW fA1 fA2 tA1 tA2
                        go_wp2
                        go_roundg (m - (c + 1))
                        case measure => omega
                        case rel => exact ⟨c + 1, fr, t, by go_num, by omega, Lib.hid ⟨R.out.1, hbF.out⟩, Lib.hid ⟨R.out.2, hbT.out⟩, hb0⟩
                      | true =>
                        have R := Lib.hid (HTK.out rfl rfl)
                        clear HSK HTK hbF hbT
                        go_wp2
                        go_roundg (m - (c + 1))
                        case measure => omega
                        case rel => exact ⟨c + 1, fr.set i true, t.set yn true, by go_num, by omega, Lib.hid ⟨R.out.1, HBF.out⟩, Lib.hid ⟨R.out.2, HBT.out⟩, HBW⟩
                  · have R1 := Lib.hid (And.intro (hfo.out.1.row (by rw [Hgd.out, ← Hm.out]; omega)) hfo.out.2)
                    have R2 := Lib.hid (And.intro (hto.out.1.row (by rw [Hgd.out, ← Hm.out]; omega)) hto.out.2)
                    clear hfo hto hrc
                    go_wp2
                    go_roundg (k - (i + 1))
                    case measure => omega
                    case rel => exact ⟨i + 1, fr, t, by go_num, by omega, R1, R2, hb0⟩
              · obtain rfl : i = k := by omega
                have HBF := Lib.hid hfo.out.2
                have HBT := Lib.hid hto.out.2
                have HFO := Lib.hid hfo.out.1
                have HTO := Lib.hid hto.out.1
                have HR0 := Lib.hid (Ren.start (l0 := l0) (fr := fr) (t := t))
                have HNr := Lib.hid (New.keep (OwnOf.kept (OVal.kept (fun _ => rfl))) HN0.out hb0.out (Nat.le_refl _))
                have HBr := Lib.hid (hbel.out.trans (hb0.out.mono hbel.out.size))
                have hz0 := hb0.out.size
                have hwlt : w.heap.size < w0.heap.size := by
                  have hli : l0[0]? = some (l0[0]'(by have := Hl0.out; omega)) := List.getElem?_eq_getElem (by have := Hl0.out; omega)
                  obtain ⟨b1, _, hv, _, _, hbl1, _⟩ := HN0.out.val_at (fun _ => rfl) hli
                  obtain rfl : b1 = w.heap.size := by simp at hv; exact hv.1.symm
                  exact hbl1
                have hwf : w.heap.size ≠ bf := by omega
                have hwt : w.heap.size ≠ bt := by omega
                clear hfo hto hnew hbel hb0 HN0
                go_wp2
                go_loopg [67] i (fun g jv wr => ∃ (j : Nat) (l : List Bool), jv = .int .i64 j ∧ j + g = i ∧ Hid (Ren l0 fr t j l) ∧ Hid (New (OwnOf 4 (OValR Value.bool)) w.heap.size wr (.slice (some ⟨w.heap.size, 0, none⟩) i i) l) ∧ Hid (Bl wr bf fr) ∧ Hid (Bl wr bt t) ∧ Hid (Below w.heap.size w wr))
                case atStart => exact ⟨0, l0, rfl, by omega, HR0, HNr, HBF, HBT, HBr⟩
                case round =>
                  clear HR0 HNr HBF HBT HBr
                  obtain ⟨j, l, rfl, hj, hren, hnl, hbf2, hbt2, hbr⟩ := hrel
                  by_cases hltj : j < i
                  · have hjI : (j : Int) < (i : Int) := Int.ofNat_lt.2 hltj
                    have hll := Hl0.out
                    have e1 := hren.out.1
                    have e2 := HFO.out.1
                    have e3 := HTO.out.1
                    have hlj : l[j]? = some (l[j]'(by omega)) := List.getElem?_eq_getElem (by omega)
                    have hfj : fr[j]? = some (fr[j]'(by omega)) := List.getElem?_eq_getElem (by omega)
                    have htj : t[j]? = some (t[j]'(by omega)) := List.getElem?_eq_getElem (by omega)
                    obtain ⟨b1, _, hv, _, _, hbl1, hcl1, hfr1, hst⟩ := hnl.out.val_at (fun _ => rfl) hlj
                    obtain rfl : b1 = w.heap.size := by simp at hv; exact hv.1.symm
                    obtain ⟨fA1, fA2⟩ := hbf2.out.2 j _ hfj
                    obtain ⟨tA1, tA2⟩ := hbt2.out.2 j _ htj
                    have R1 := Lib.hid (hren.out.step hlj hfj htj)
                    generalize l[j]'(by omega) = x1 at *
                    generalize fr[j]'(by omega) = x2 at *
                    generalize t[j]'(by omega) = x3 at *
                    have R2 := Lib.hid (hst (x1 && x2 && x3))
                    have R3 := Lib.hid (hbf2.out.other (i := j) hwf (.bool (x1 && x2 && x3)))
                    have R4 := Lib.hid (hbt2.out.other (i := j) hwt (.bool (x1 && x2 && x3)))
                    have R5 := Lib.hid (hbr.out.setCell (p := ⟨w.heap.size, j, none⟩) (Nat.le_refl _) (.bool (x1 && x2 && x3)))
                    clear hlj hfj htj hv hst hren hnl hbf2 hbt2 hbr e1 e2 e3
                    cases x1 <;> cases x2 <;> cases x3 <;> (go_wp2; go_roundg (i - (j + 1)); (case measure => omega); (case rel => exact ⟨j + 1, _, by go_num, by omega, R1, R2, R3, R4, R5⟩))
                  · obtain rfl : j = i := by omega
                    have R1 := Lib.hid (hinv.out.step (hren.out.rnd Hl0.out (by rw [Hnx.out]; exact Nat.le_refl _) HFO.out HTO.out))
                    clear hren hinv hbf2 hbt2 HFO HTO
                    go_wp2
                    go_roundg (j - (r + 1))
                    case measure => omega
                    case rel => exact ⟨r + 1, l, by go_num, by omega, R1, hnl, hbr⟩
          · clear hmk
            obtain ⟨bf, ebf⟩ : ∃ x, x = w0.heap.size + 1 := ⟨_, rfl⟩
            obtain ⟨bt, ebt⟩ : ∃ x, x = w0.heap.size := ⟨_, rfl⟩
            have hbf : w0.heap.size ≤ bf := by omega
            have hbt : w0.heap.size ≤ bt := by omega
            have hne : bf ≠ bt := by omega
            have hne2 : bt ≠ bf := by omega
            rw [← ebf] at HB1
            rw [← ebt] at HB0
            generalize ((w0.alloc (.cells (madeCells #[.bool false] k) 4)).alloc (.cells (madeCells #[.bool false] k) 4)).drew = w9 at *
            have HF0 := Lib.hid (show FrOk next l0 0 0 (List.replicate l0.length false) ∧ Bl w9 bf (List.replicate l0.length false) from ⟨FrOk.start, HB1.out⟩)
            have HT0 := Lib.hid (show ToOk next l0 0 0 (List.replicate l0.length false) ∧ Bl w9 bt (List.replicate l0.length false) from ⟨ToOk.start, HB0.out⟩)
            try rw [← ebf]
            try rw [← ebt]
            clear ebf ebt HB0 HB1
            go_wp2
            go_loopg [36] k (fun g iv wr => ∃ (i : Nat) (fr t : List Bool), iv = .int .i64 i ∧ i + g = k ∧ Hid (FrOk next l0 i 0 fr ∧ Bl wr bf fr) ∧ Hid (ToOk next l0 i 0 t ∧ Bl wr bt t) ∧ Hid (Below w0.heap.size w0 wr))
            case atStart => exact ⟨0, _, _, rfl, by omega, HF0, HT0, HB9⟩
            case round =>
              clear HF0 HT0 HB9
              obtain ⟨i, fr, t, rfl, hi, hfo, hto, hb0⟩ := hrel
              by_cases hlti : i < k
              · obtain ⟨row, hrow, _⟩ := at_lt (xs := next) (k := i) (by have := Hnx.out; omega)
                obtain ⟨u, hu, hru⟩ := hx0 i row hrow
                have hgd : next.getD i [] = row := by rw [List.getD_eq_getElem?_getD, hrow]; rfl
                have Hgd := Lib.hid hgd
                have Hrow := Lib.hid (Hin.out row (List.mem_of_getElem? hrow))
                have hu1 := ((hbel.out.trans (hb0.out.mono hbel.out.size)).cell (p := ⟨ab, ao + i, none⟩) hab).trans hu
                obtain ⟨ra, rc, rfl, _, _, hrc⟩ := hru.shape
                obtain ⟨m, hm⟩ : ∃ m, m = row.length := ⟨_, rfl⟩
                have Hm := Lib.hid hm
                have hm63 : m ≤ 9223372036854775807 := by omega
                rw [← hm] at hrc hu1
                have hiI : (i : Int) < (k : Int) := Int.ofNat_lt.2 hlti
                clear hu hru hrow hgd hm
                go_wp2
                go_loopg [43] m (fun g cv wr => ∃ (c : Nat) (fr t : List Bool), cv = .int .i64 c ∧ c + g = m ∧ Hid (FrOk next l0 i c fr ∧ Bl wr bf fr) ∧ Hid (ToOk next l0 i c t ∧ Bl wr bt t) ∧ Hid (Below w0.heap.size w0 wr))
                case atStart => exact ⟨0, fr, t, rfl, by omega, hfo, hto, hb0⟩
                case round =>
                  clear hfo hto hb0 hu1
                  obtain ⟨c, fr, t, rfl, hc, hfo, hto, hb0⟩ := hrel
                  by_cases hltc : c < m
                  · obtain ⟨b, o, rfl, hb, hr0⟩ := hrc (by omega)
                    obtain ⟨y, hy, _⟩ := at_lt (xs := row) (k := c) (by have := Hm.out; omega)
                    obtain ⟨u, hu2, hux⟩ := hr0 c y hy
                    obtain rfl : u = .int .i64 y := hux
                    obtain ⟨hy0, hy1⟩ := Hrow.out y (List.mem_of_getElem? hy)
                    obtain ⟨yn, rfl⟩ := Int.eq_ofNat_of_zero_le hy0
                    have hyn : yn < k := by omega
                    have Hy := Lib.hid (show (next.getD i [])[c]? = some (yn : Int) from by rw [Hgd.out]; exact hy)
                    have hc1 := ((hbel.out.trans (hb0.out.mono hbel.out.size)).cell (p := ⟨b, o + c, none⟩) hb).trans hu2
                    have hll := Hl0.out
                    have hli : l0[i]? = some (l0[i]'(by omega)) := List.getElem?_eq_getElem (by omega)
                    have hly : l0[yn]? = some (l0[yn]'(by omega)) := List.getElem?_eq_getElem (by omega)
                    obtain ⟨b1, _, hv, _, _, hbl1, hcl1, _, _⟩ := HN0.out.val_at (fun _ => rfl) hli
                    obtain rfl : b1 = w.heap.size := by simp at hv; exact hv.1.symm
                    obtain ⟨b2, _, hv2, _, _, _, hcl2, _, _⟩ := HN0.out.val_at (fun _ => rfl) hly
                    obtain rfl : b2 = w.heap.size := by simp at hv2; exact hv2.1.symm
                    replace hcl1 := (hb0.out.cell (p := ⟨w.heap.size, i, none⟩) hbl1).trans hcl1
                    replace hcl2 := (hb0.out.cell (p := ⟨w.heap.size, yn, none⟩) hbl1).trans hcl2
                    have hoi : On l0 i ↔ l0[i]'(by omega) = true := by unfold On; rw [hli]; simp
                    have hoy : On l0 yn ↔ l0[yn]'(by omega) = true := by unfold On; rw [hly]; simp
                    generalize l0[i]'(by omega) = li at *
                    generalize l0[yn]'(by omega) = ly at *
                    have hcm : (c : Int) < (m : Int) := Int.ofNat_lt.2 hltc
                    have hiF : i < fr.length := by rw [hfo.out.1.1]; omega
                    have hyT : yn < t.length := by rw [hto.out.1.1]; omega
                    have HSK := Lib.hid (fun (h : ¬ (li = true ∧ ly = true)) => And.intro (hfo.out.1.skip Hy.out (fun ⟨p1, p2⟩ => h ⟨hoi.1 p1, hoy.1 p2⟩)) (hto.out.1.skip Hy.out (fun ⟨p1, p2⟩ => h ⟨hoi.1 p1, hoy.1 p2⟩)))
                    have HTK := Lib.hid (fun (h1 : li = true) (h2 : ly = true) => And.intro (hfo.out.1.take Hy.out (hoi.2 h1) (hoy.2 h2)) (hto.out.1.take Hy.out (hoi.2 h1) (hoy.2 h2)))
                    have fA := hfo.out.2.2 i _ (List.getElem?_eq_getElem hiF)
                    have tA := hto.out.2.2 yn _ (List.getElem?_eq_getElem hyT)
                    have HBF := Lib.hid (((hfo.out.2.set hiF true).other (i := yn) hne2 (.bool true)))
                    have HBT := Lib.hid ((hto.out.2.other (i := i) hne (.bool true)).set hyT true)
                    have HBW := Lib.hid ((hb0.out.setCell (p := ⟨bf, i, none⟩) hbf (.bool true)).setCell (p := ⟨bt, yn, none⟩) hbt (.bool true))
                    obtain ⟨fA1, fA2⟩ := fA
                    obtain ⟨tA1, tA2⟩ := tA
                    have hiF' : bf < wr.heap.size := hfo.out.2.1
                    have hbF := Lib.hid hfo.out.2
                    have hbT := Lib.hid hto.out.2
                    generalize fr[i] = x1 at *
                    generalize t[yn] = x2 at *
                    clear hy hr0 hu2 hli hly hv hv2 hoi hoy hy0 hy1 Hy hfo hto hx0
                    cases li with
                    | false =>
                      have R := Lib.hid (HSK.out (by simp))
                      clear HSK HTK HBF HBT HBW fA1 fA2 tA1 tA2
                      go_wp2
                      go_roundg (m - (c + 1))
                      case measure => omega
                      case rel => exact ⟨c + 1, fr, t, by go_num, by omega, Lib.hid ⟨R.out.1, hbF.out⟩, Lib.hid ⟨R.out.2, hbT.out⟩, hb0⟩
                    | true =>
                      cases ly with
                      | false =>
                        have R := Lib.hid (HSK.out (by simp))
                        clear HSK HTK HBF HBT HBW fA1 fA2 tA1 tA2
                        go_wp2
                        go_roundg (m - (c + 1))
                        case measure => omega
                        case rel => exact ⟨c + 1, fr, t, by go_num, by omega, Lib.hid ⟨R.out.1, hbF.out⟩, Lib.hid ⟨R.out.2, hbT.out⟩, hb0⟩
                      | true =>
                        have R := Lib.hid (HTK.out rfl rfl)
                        clear HSK HTK hbF hbT
                        go_wp2
                        go_roundg (m - (c + 1))
                        case measure => omega
                        case rel => exact ⟨c + 1, fr.set i true, t.set yn true, by go_num, by omega, Lib.hid ⟨R.out.1, HBF.out⟩, Lib.hid ⟨R.out.2, HBT.out⟩, HBW⟩
                  · have R1 := Lib.hid (And.intro (hfo.out.1.row (by rw [Hgd.out, ← Hm.out]; omega)) hfo.out.2)
                    have R2 := Lib.hid (And.intro (hto.out.1.row (by rw [Hgd.out, ← Hm.out]; omega)) hto.out.2)
                    clear hfo hto hrc
                    go_wp2
                    go_roundg (k - (i + 1))
                    case measure => omega
                    case rel => exact ⟨i + 1, fr, t, by go_num, by omega, R1, R2, hb0⟩
              · obtain rfl : i = k := by omega
                have HBF := Lib.hid hfo.out.2
                have HBT := Lib.hid hto.out.2
                have HFO := Lib.hid hfo.out.1
                have HTO := Lib.hid hto.out.1
                have HR0 := Lib.hid (Ren.start (l0 := l0) (fr := fr) (t := t))
                have HNr := Lib.hid (New.keep (OwnOf.kept (OVal.kept (fun _ => rfl))) HN0.out hb0.out (Nat.le_refl _))
                have HBr := Lib.hid (hbel.out.trans (hb0.out.mono hbel.out.size))
                have hz0 := hb0.out.size
                have hwlt : w.heap.size < w0.heap.size := by
                  have hli : l0[0]? = some (l0[0]'(by have := Hl0.out; omega)) := List.getElem?_eq_getElem (by have := Hl0.out; omega)
                  obtain ⟨b1, _, hv, _, _, hbl1, _⟩ := HN0.out.val_at (fun _ => rfl) hli
                  obtain rfl : b1 = w.heap.size := by simp at hv; exact hv.1.symm
                  exact hbl1
                have hwf : w.heap.size ≠ bf := by omega
                have hwt : w.heap.size ≠ bt := by omega
                clear hfo hto hnew hbel hb0 HN0
                go_wp2
                go_loopg [67] i (fun g jv wr => ∃ (j : Nat) (l : List Bool), jv = .int .i64 j ∧ j + g = i ∧ Hid (Ren l0 fr t j l) ∧ Hid (New (OwnOf 4 (OValR Value.bool)) w.heap.size wr (.slice (some ⟨w.heap.size, 0, none⟩) i i) l) ∧ Hid (Bl wr bf fr) ∧ Hid (Bl wr bt t) ∧ Hid (Below w.heap.size w wr))
                case atStart => exact ⟨0, l0, rfl, by omega, HR0, HNr, HBF, HBT, HBr⟩
                case round =>
                  clear HR0 HNr HBF HBT HBr
                  obtain ⟨j, l, rfl, hj, hren, hnl, hbf2, hbt2, hbr⟩ := hrel
                  by_cases hltj : j < i
                  · have hjI : (j : Int) < (i : Int) := Int.ofNat_lt.2 hltj
                    have hll := Hl0.out
                    have e1 := hren.out.1
                    have e2 := HFO.out.1
                    have e3 := HTO.out.1
                    have hlj : l[j]? = some (l[j]'(by omega)) := List.getElem?_eq_getElem (by omega)
                    have hfj : fr[j]? = some (fr[j]'(by omega)) := List.getElem?_eq_getElem (by omega)
                    have htj : t[j]? = some (t[j]'(by omega)) := List.getElem?_eq_getElem (by omega)
                    obtain ⟨b1, _, hv, _, _, hbl1, hcl1, hfr1, hst⟩ := hnl.out.val_at (fun _ => rfl) hlj
                    obtain rfl : b1 = w.heap.size := by simp at hv; exact hv.1.symm
                    obtain ⟨fA1, fA2⟩ := hbf2.out.2 j _ hfj
                    obtain ⟨tA1, tA2⟩ := hbt2.out.2 j _ htj
                    have R1 := Lib.hid (hren.out.step hlj hfj htj)
                    generalize l[j]'(by omega) = x1 at *
                    generalize fr[j]'(by omega) = x2 at *
                    generalize t[j]'(by omega) = x3 at *
                    have R2 := Lib.hid (hst (x1 && x2 && x3))
                    have R3 := Lib.hid (hbf2.out.other (i := j) hwf (.bool (x1 && x2 && x3)))
                    have R4 := Lib.hid (hbt2.out.other (i := j) hwt (.bool (x1 && x2 && x3)))
                    have R5 := Lib.hid (hbr.out.setCell (p := ⟨w.heap.size, j, none⟩) (Nat.le_refl _) (.bool (x1 && x2 && x3)))
                    clear hlj hfj htj hv hst hren hnl hbf2 hbt2 hbr e1 e2 e3
                    cases x1 <;> cases x2 <;> cases x3 <;> (go_wp2; go_roundg (i - (j + 1)); (case measure => omega); (case rel => exact ⟨j + 1, _, by go_num, by omega, R1, R2, R3, R4, R5⟩))
                  · obtain rfl : j = i := by omega
                    have R1 := Lib.hid (hinv.out.step (hren.out.rnd Hl0.out (by rw [Hnx.out]; exact Nat.le_refl _) HFO.out HTO.out))
                    clear hren hinv hbf2 hbt2 HFO HTO
                    go_wp2
                    go_roundg (j - (r + 1))
                    case measure => omega
                    case rel => exact ⟨r + 1, l, by go_num, by omega, R1, hnl, hbr⟩
        · obtain rfl : r = k := by omega
          have HF := Lib.hid (show New (OwnOf 4 (OValR Value.bool)) w.heap.size w0 (.slice (some ⟨w.heap.size, 0, none⟩) r r) (liveL (EntN next) r) from by have h := hnew.out; rw [hinv.out.end] at h; exact h)
          clear hnew hinv
          go_wp2
          go_ret
          exact ⟨_, rfl, HF.out, hbel.out⟩
end Go.Proofs.Ytcilgihmaaobeaa
end
