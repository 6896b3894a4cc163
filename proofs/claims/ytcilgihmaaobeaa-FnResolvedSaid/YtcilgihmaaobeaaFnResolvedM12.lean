/-
  Texts of this claim joined: laws for its walks, contracts of the functions that the law reaches.
-/
import Derived.Test.YtcilgihmaaobeaaRows
import Derived.Test.YtcilgihmaaobeaaFnResolvedM1
import Derived.Test.YtcilgihmaaobeaaFnResolvedM4
import Derived.Test.YtcilgihmaaobeaaFnResolvedM11
import Derived.Test.YtcilgihmaaobeaaFnResolvedM6
import Derived.IntWalk
import Derived.Test.YtcilgihmaaobeaaFnResolvedM5
import Derived.StillTailTactics
import Derived.Test.YtcilgihmaaobeaaFnResolvedM2
import Derived.Test.YtcilgihmaaobeaaFnResolvedM7
import Derived.Deep.RegionLaw
set_option linter.unusedVariables false
set_option linter.unusedSimpArgs false
section
namespace Go.Proofs.Ytcilgihmaaobeaa
open Go.RowKit Go.Deep Go.Sd

def fillT (n k : Nat) : List Bool := List.replicate k true ++ List.replicate (n - k) false
theorem fillT_at {n k : Nat} (h : k < n) : (fillT n k)[k]? = some false := by
  unfold fillT
  rw [List.getElem?_append_right (by simp), List.getElem?_replicate, if_pos (by simp; omega)]
theorem fillT_set {n k : Nat} (h : k < n) : (fillT n k).set k true = fillT n (k + 1) := by
  unfold fillT
  rw [List.set_append_right _ _ (by simp), show n - k = (n - (k + 1)) + 1 from by omega, List.replicate_succ, List.replicate_succ']
  simp
/-- One of the first k places of l has it. -/
def anyN (l : List Bool) (f : Nat → Bool) : Nat → Bool
  | 0 => false
  | k + 1 => anyN l f k || (l.getD k false && f k)
theorem anyN_iff {l : List Bool} {f : Nat → Bool} : ∀ {k : Nat}, anyN l f k = true ↔ ∃ j, j < k ∧ On l j ∧ f j = true
  | 0 => by simp [anyN]
  | k + 1 => by
    unfold anyN
    rw [Bool.or_eq_true, Bool.and_eq_true, anyN_iff (k := k)]
    have hg : l.getD k false = true ↔ On l k := by
      unfold On
      rw [List.getD_eq_getElem?_getD]
      cases h : l[k]? <;> simp
    rw [hg]
    constructor
    · rintro (⟨j, hj, h⟩ | h)
      · exact ⟨j, by omega, h⟩
      · exact ⟨k, by omega, h⟩
    · rintro ⟨j, hj, h⟩
      by_cases e : j = k
      · subst e; exact .inr h
      · exact .inl ⟨j, by omega, h⟩
def entP (m : List (List Int)) (i j : Nat) : Bool := decide (0 < ent m i j)
def EntP (m : List (List Int)) (i j : Nat) : Prop := entP m i j = true
theorem both_iff {m : List (List Int)} {l : List Bool} {n i : Nat} (hl : l.length = n) : Both (EntP m) l i ↔ anyN l (entP m i) n = true ∧ anyN l (fun j => entP m j i) n = true := by
  rw [anyN_iff, anyN_iff]
  constructor
  · rintro ⟨⟨j, hj, he⟩, k, hk, hf⟩
    exact ⟨⟨j, by rw [← hl]; exact hj.lt, hj, he⟩, k, by rw [← hl]; exact hk.lt, hk, hf⟩
  · rintro ⟨⟨j, _, hj, he⟩, k, _, hk, hf⟩
    exact ⟨⟨j, hj, he⟩, k, hk, hf⟩
set_option maxHeartbeats 4000000 in
set_option maxRecDepth 10000 in
theorem l5Live_c {w : World} {v : Value} {m : List (List Int)} {n : Nat} (h : Tab w v m) (hsq : Sq n m) (hn0 : 0 < n) (hn : n ≤ 16) :
    Calls Try.prog 86 #[v] w (Makes (OwnOf 4 (OValR Value.bool)) w (liveL (EntP m) n)) := by
  obtain ⟨ab, ao, ac, rfl, hab, hae⟩ := h.entAt hsq.1 hsq.2 hn0
  clear h hsq
  have hmk := run_make_row' (P := Try.prog) 81 4 (.bool false) 1 Try.underlying81 infoB rfl .i64 .i64 n (by omega) (by omega)
  go_enter Try.func86, Try.ntmps86
  go_wp2
  go_loopg [4] n (fun g i wr => ∃ (k : Nat), i = .int .i64 k ∧ k + g = n ∧ Hid (New (OwnOf 4 (OValR Value.bool)) w.heap.size wr (.slice (some ⟨w.heap.size, 0, none⟩) n n) (fillT n k)) ∧ Hid (Below w.heap.size w wr))
  case atStart => exact ⟨0, rfl, by omega, Lib.hid (New.made 4 w (.bool false) false n (Nat.le_refl _) (by omega) (fun _ => ⟨rfl, rfl⟩)), Lib.hid ((Below.refl _ _).alloc (Nat.le_refl _) _)⟩
  case round =>
    obtain ⟨k, rfl, hk, hnew, hbel⟩ := hrel
    clear hmk
    by_cases hlt : k < n
    · obtain ⟨b', c', hv, _, _, hblt, hcl, hfr, hst⟩ := hnew.out.val_at (fun _ => rfl) (fillT_at hlt)
      obtain rfl : b' = w.heap.size := by simp at hv; exact hv.1.symm
      have Hst := Lib.hid (by have := hst true; rw [fillT_set hlt] at this; exact this)
      have Hb := Lib.hid (hbel.out.setCell (p := ⟨w.heap.size, k, none⟩) (Nat.le_refl _) (.bool true))
      have hkI : (k : Int) < (n : Int) := Int.ofNat_lt.2 hlt
      clear hv hst hnew hbel hae
      go_wp2
      go_roundg (n - (k + 1))
      case measure => omega
      case rel => exact ⟨k + 1, by go_num, by omega, Hst, Hb⟩
    · obtain rfl : k = n := by omega
      have HL0 := Lib.hid (show New (OwnOf 4 (OValR Value.bool)) w.heap.size wr (.slice (some ⟨w.heap.size, 0, none⟩) k k) (List.replicate k true) from by have h := hnew.out; unfold fillT at h; simpa using h)
      have HS0 := Lib.hid (Sup.start (E := EntP m) (n := k))
      clear hnew
      go_wp2
      go_loopg [5] (k + 1) (fun g c wr => ∃ (l : List Bool) (ch : Bool) (q : Nat), c = .bool ch ∧ q = g ∧ q = (if ch = true then cntT l + 1 else 0) ∧ Hid (Sup (EntP m) k l) ∧ Hid (ch = false → l = liveL (EntP m) k) ∧ Hid (New (OwnOf 4 (OValR Value.bool)) w.heap.size wr (.slice (some ⟨w.heap.size, 0, none⟩) k k) l) ∧ Hid (Below w.heap.size w wr))
      case atStart => exact ⟨List.replicate k true, true, k + 1, rfl, rfl, by rw [cntT_replicate]; rfl, HS0, Lib.hid (fun h => by cases h), HL0, hbel⟩
      case round =>
        clear HS0 HL0 hbel
        obtain ⟨l0, ch, q, rfl, rfl, hg, hsup, hend, hnew, hbel⟩ := hrel
        cases ch with
        | false =>
          have HF := Lib.hid (show New (OwnOf 4 (OValR Value.bool)) w.heap.size wr (.slice (some ⟨w.heap.size, 0, none⟩) k k) (liveL (EntP m) k) from by have h := hnew.out; rw [hend.out rfl] at h; exact h)
          clear hg hnew hend
          go_wp2
          go_ret
          exact ⟨_, rfl, HF.out, hbel.out⟩
        | true =>
          have hg' : q = cntT l0 + 1 := hg
          have HP0 := Lib.hid (Pas.start (E := EntP m) (n := k) hsup.out)
          clear hg hend
          go_wp2
          go_loopg [5, 6] k (fun g2 c i wr => ∃ (i' : Nat) (l : List Bool) (ch : Bool), c = .bool ch ∧ i = .int .i64 i' ∧ i' + g2 = k ∧ Hid (Pas (EntP m) k l0 i' l ch) ∧ Hid (New (OwnOf 4 (OValR Value.bool)) w.heap.size wr (.slice (some ⟨w.heap.size, 0, none⟩) k k) l) ∧ Hid (Below w.heap.size w wr))
          case atStart => exact ⟨0, l0, false, rfl, rfl, by omega, HP0, hnew, hbel⟩
          case round =>
            clear HP0 hnew hbel
            obtain ⟨i, l, ch, rfl, rfl, hi, hpas, hnew, hbel⟩ := hrel
            by_cases hlti : i < k
            · have hiI : (i : Int) < (k : Int) := Int.ofNat_lt.2 hlti
              have hll : l.length = k := hpas.out.1.1
              obtain ⟨wi, rfl⟩ : ∃ x, x = wr := ⟨_, rfl⟩
              have HA0 := Lib.hid (show anyN l (entP m i) 0 = false ∧ anyN l (fun j => entP m j i) 0 = false from ⟨rfl, rfl⟩)
              go_wp2
              go_loopg [7, 8, 9] k (fun g3 fv tv j wr => ∃ (j' : Nat) (f t : Bool), fv = .bool f ∧ tv = .bool t ∧ j = .int .i64 j' ∧ j' + g3 = k ∧ Hid (anyN l (entP m i) j' = f ∧ anyN l (fun j => entP m j i) j' = t) ∧ wi = wr)
              case atStart => exact ⟨0, false, false, rfl, rfl, rfl, by omega, HA0, rfl⟩
              case round =>
                clear HA0
                obtain ⟨j, f, t, rfl, rfl, rfl, hj, HA, rfl⟩ := hrel
                by_cases hltj : j < k
                · have hjI : (j : Int) < (k : Int) := Int.ofNat_lt.2 hltj
                  have hae1 := hae.frame hab hbel.out
                  obtain ⟨rb, ro, rc, hA1, _, _, hA2⟩ := hae1.at hlti hn0
                  obtain ⟨zb, zo, zc, hB1, _, _, hB2⟩ := hae1.at hltj hn0
                  have hA3 := hA2 j hltj
                  have hB3 := hB2 i hlti
                  have hlj : l[j]? = some (l[j]'(by omega)) := List.getElem?_eq_getElem (by omega)
                  obtain ⟨b', c', hv, _, _, hblt, hcl, hfr, _⟩ := hnew.out.val_at (fun _ => rfl) hlj
                  obtain rfl : b' = w.heap.size := by simp at hv; exact hv.1.symm
                  have HA1 := Lib.hid (show anyN l (entP m i) (j + 1) = (f || (l[j]'(by omega) && decide (0 < ent m i j))) ∧ anyN l (fun j => entP m j i) (j + 1) = (t || (l[j]'(by omega) && decide (0 < ent m j i))) from by
                    unfold anyN
                    rw [HA.out.1, HA.out.2, List.getD_eq_getElem?_getD, hlj]
                    exact ⟨rfl, rfl⟩)
                  generalize l[j]'(by omega) = lj at *
                  generalize ent m i j = X at *
                  generalize ent m j i = Y at *
                  generalize hda : decide (0 < X) = da at *
                  generalize hdb : decide (0 < Y) = db at *
                  clear hae1 hA2 hB2 hv hlj HA
                  cases f <;> cases t <;> cases lj <;> cases da <;> cases db <;> (go_wp2; go_roundg (k - (j + 1)); (case measure => omega); (case rel => exact ⟨j + 1, _, _, rfl, rfl, by go_num, by omega, HA1, rfl⟩))
                · obtain rfl : j = k := by omega
                  have hbi := both_iff (m := m) (i := i) hll
                  rw [HA.out.1, HA.out.2] at hbi
                  have hli : l[i]? = some (l[i]'(by omega)) := List.getElem?_eq_getElem (by omega)
                  obtain ⟨b', c', hv, _, _, hblt, hcl, hfr, hst⟩ := hnew.out.val_at (fun _ => rfl) hli
                  obtain rfl : b' = w.heap.size := by simp at hv; exact hv.1.symm
                  have Hst := Lib.hid (hst false)
                  have Hbs := Lib.hid (hbel.out.setCell (p := ⟨w.heap.size, i, none⟩) (Nat.le_refl _) (.bool false))
                  have hon : On l i ↔ l[i]'(by omega) = true := by unfold On; rw [hli]; simp
                  generalize l[i]'(by omega) = li at *
                  have HK := Lib.hid (fun (hk : li = true → f = true ∧ t = true) => hpas.out.keep (fun h => hbi.2 (hk (hon.1 h))))
                  have HU := Lib.hid (fun (h1 : li = true) (h2 : ¬ (f = true ∧ t = true)) => hpas.out.unset (hon.2 h1) (fun h => h2 (hbi.1 h)))
                  clear hbi hli hv hst hon HA hae hpas
                  cases li with
                  | false =>
                    have R := Lib.hid (HK.out (fun h => by cases h))
                    clear HK HU Hst Hbs
                    go_wp2
                    go_roundg (j - (i + 1))
                    case measure => omega
                    case rel => exact ⟨i + 1, l, ch, rfl, by go_num, by omega, R, hnew, hbel⟩
                  | true =>
                    by_cases hft : f = true ∧ t = true
                    · obtain ⟨rfl, rfl⟩ := hft
                      have R := Lib.hid (HK.out (fun _ => ⟨rfl, rfl⟩))
                      clear HK HU Hst Hbs
                      go_wp2
                      go_roundg (j - (i + 1))
                      case measure => omega
                      case rel => exact ⟨i + 1, l, ch, rfl, by go_num, by omega, R, hnew, hbel⟩
                    · have R := Lib.hid (HU.out rfl hft)
                      clear HK HU
                      cases f with
                      | false =>
                        clear hft
                        go_wp2
                        go_roundg (j - (i + 1))
                        case measure => omega
                        case rel => exact ⟨i + 1, l.set i false, true, rfl, by go_num, by omega, R, Hst, Hbs⟩
                      | true =>
                        cases t with
                        | true => exact absurd ⟨rfl, rfl⟩ hft
                        | false =>
                          clear hft
                          go_wp2
                          go_roundg (j - (i + 1))
                          case measure => omega
                          case rel => exact ⟨i + 1, l.set i false, true, rfl, by go_num, by omega, R, Hst, Hbs⟩
            · obtain rfl : i = k := by omega
              have HS := Lib.hid hpas.out.1
              cases ch with
              | false =>
                have HE := Lib.hid (show l = liveL (EntP m) i from hpas.out.end)
                clear hpas
                go_wp2
                go_roundg 0
                case measure => omega
                case rel => exact ⟨l, false, 0, rfl, rfl, rfl, HS, Lib.hid (fun _ => HE.out), hnew, hbel⟩
              | true =>
                have hless := hpas.out.less.2
                clear hpas
                go_wp2
                go_roundg (cntT l + 1)
                case measure => omega
                case rel => exact ⟨l, true, cntT l + 1, rfl, rfl, rfl, HS, Lib.hid (fun h => by cases h), hnew, hbel⟩
end Go.Proofs.Ytcilgihmaaobeaa
end

section
namespace Go.Sd
open Go.RowKit Go.Deep
theorem Clos.congr {E E' : Nat → Nat → Prop} {n : Nat} (h : ∀ i j, i < n → j < n → (E i j ↔ E' i j)) {S : Nat → Prop} (hc : Clos E n S) : Clos E' n S := fun i hi => by
  obtain ⟨h1, ⟨j, hj, he⟩, k, hk, hf⟩ := hc i hi
  exact ⟨h1, ⟨j, hj, (h i j h1 (hc j hj).1).1 he⟩, k, hk, (h k i (hc k hk).1 h1).1 hf⟩
theorem liveL_congr {E E' : Nat → Nat → Prop} {n : Nat} (h : ∀ i j, i < n → j < n → (E i j ↔ E' i j)) : liveL E n = liveL E' n := by
  have hg : ∀ i, Gr E n i ↔ Gr E' n i := fun i => ⟨fun ⟨S, hS, hi⟩ => ⟨S, hS.congr h, hi⟩, fun ⟨S, hS, hi⟩ => ⟨S, hS.congr (fun i j a b => (h i j a b).symm), hi⟩⟩
  unfold liveL
  exact List.map_congr_left fun i _ => decide_eq_decide.2 (hg i)
end Go.Sd
namespace Go.Proofs.Ytcilgihmaaobeaa
open Go.RowKit Go.Deep Go.Sd
/-- Some arc leads from i to j. -/
def ArcP (xs : List Arc3) (i j : Nat) : Prop := ∃ a, a ∈ xs ∧ a.1 = (i : Int) ∧ a.2.1 = (j : Int)
def MatA (p : Nat) (m : List (List Int)) (xs : List Arc3) : Prop := Sq p m ∧ ∀ i j, i < p → j < p → (0 < ent m i j ↔ ArcP xs i j)
theorem MatA.start (p : Nat) : MatA p (List.replicate p (List.replicate p 0)) [] := by
  refine ⟨Sq.zeros p, fun i j hi hj => ?_⟩
  have := EB.zeros p i j
  constructor
  · intro h; omega
  · rintro ⟨a, ha, _⟩; simp at ha
theorem ent_set1 {p : Nat} {m : List (List Int)} (h : Sq p m) {p0 p1 : Nat} (h0 : p0 < p) (h1 : p1 < p) (i j : Nat) : ent (m.set p0 ((m.getD p0 []).set p1 1)) i j = if i = p0 ∧ j = p1 then 1 else ent m i j := by
  have hr := h.row h0
  unfold ent
  simp only [List.getD_eq_getElem?_getD, List.getElem?_set] at hr ⊢
  by_cases e : p0 = i
  · subst e
    have hl : p0 < m.length := by rw [h.1]; exact h0
    rw [if_pos rfl, if_pos hl]
    simp only [Option.getD_some, List.getElem?_set]
    by_cases e2 : p1 = j
    · subst e2
      simp [hr.2, h1]
    · rw [if_neg e2, if_neg (fun h => e2 h.2.symm)]
  · rw [if_neg e, if_neg (fun h => e h.1.symm)]
theorem MatA.step {p : Nat} {m : List (List Int)} {xs : List Arc3} (h : MatA p m xs) {p0 p1 : Nat} {y2 : Int} (h0 : p0 < p) (h1 : p1 < p) : MatA p (m.set p0 ((m.getD p0 []).set p1 1)) (xs ++ [((p0 : Int), (p1 : Int), y2)]) := by
  refine ⟨h.1.set h0 _ _, fun i j hi hj => ?_⟩
  rw [ent_set1 h.1 h0 h1]
  by_cases e : i = p0 ∧ j = p1
  · rw [if_pos e]
    obtain ⟨rfl, rfl⟩ := e
    exact ⟨fun _ => ⟨((i : Int), (j : Int), y2), by simp, rfl, rfl⟩, fun _ => by omega⟩
  · rw [if_neg e, h.2 i j hi hj]
    constructor
    · rintro ⟨a, ha, b⟩; exact ⟨a, by simp [ha], b⟩
    · rintro ⟨a, ha, b1, b2⟩
      rcases List.mem_append.1 ha with ha | ha
      · exact ⟨a, ha, b1, b2⟩
      · simp at ha
        subst ha
        simp at b1 b2
        exact absurd ⟨by omega, by omega⟩ e
theorem MatA.live {p : Nat} {m : List (List Int)} {xs : List Arc3} (h : MatA p m xs) : liveL (EntP m) p = liveL (ArcP xs) p :=
  liveL_congr fun i j hi hj => by rw [← h.2 i j hi hj]; unfold EntP entP; simp
set_option maxHeartbeats 4000000 in
set_option maxRecDepth 100000 in
theorem l14Live_c {w : World} {v : Value} {l : Lb} (h : LabR w v l) (hok : isLab l = true) :
    Calls Try.prog 60 #[v] w (Makes (OwnOf 4 (OValR Value.bool)) w (liveL (ArcP l.2.2) l.2.1.toNat)) := by
  obtain ⟨ho, hS1, hS2, _, _⟩ := isLab_ok hok
  clear hok
  obtain ⟨L, S, xs⟩ := l
  obtain ⟨va, rfl, hlen, a, c, rfl, _, _, _, hcell⟩ := h
  simp only at *
  obtain ⟨p, rfl⟩ := Int.eq_ofNat_of_zero_le (show 0 ≤ S by omega)
  generalize hn : xs.length = n at *
  have Hn := Lib.hid hn.symm
  clear hn
  have hp12 : p ≤ 12 := by omega
  have hp0 : 0 < p := by omega
  have Hz := Lib.hid (fun w1 => l4Zero_c (w := w1) (p := p) (r := p) (by omega) (by omega))
  have Ho := Lib.hid ho
  rw [show ((p : Int)).toNat = p from rfl]
  clear ho hS1 hS2
  go_enter Try.func60, Try.ntmps60
  go_wp2_with fail
  obtain ⟨w1, ex, A0, c0, c1, c2, m1⟩ := boxA3_ex w 26 (.int .i64 L) (.int .i64 p) (.slice a n c)
  change Calls Try.prog _ _ (w.alloc (.cells #[.int .i64 L, .int .i64 p, .slice a n c] 26)) _
  rw [ex]
  clear ex
  (with_reducible refine (Hz.out _).mono ?_)
  rintro e w3 ⟨tv, rfl, hnew, hb⟩
  obtain ⟨gb, gc, _, _, rfl, _, hgb, hgb2, _⟩ := hnew.tab_at (i := 0) (j := 0) ((Sq.zeros p).row hp0).1 ((Sq.zeros p).entry hp0 hp0)
  rw [(Sq.zeros p).1] at hnew ⊢
  replace hnew := hnew.mono (Nat.succ_le_of_lt m1)
  replace hgb := Nat.le_trans A0.size hgb
  replace c2 := (hb.cell (p := ⟨w.heap.size, 2, none⟩) m1).trans c2
  replace m1 := Nat.lt_of_lt_of_le m1 hb.size
  replace A0 := A0.trans (hb.mono A0.size)
  clear hb c0 c1
  have Hnew := Lib.hid hnew
  have HA0 := Lib.hid A0
  have HM0 := Lib.hid (show MatA p (List.replicate p (List.replicate p 0)) (xs.take 0) from MatA.start p)
  clear hnew A0 Hz
  go_wp2
  go_loopg [4] n (fun g i wr => ∃ (k : Nat) (m : List (List Int)), i = .int .i64 k ∧ k + g = n ∧ Hid (MatA p m (xs.take k)) ∧ Hid (New (OTab 3 54) (w.heap.size + 1) wr (.slice (some ⟨gb, 0, none⟩) p gc) m) ∧ wr.cell? ⟨w.heap.size, 2, none⟩ = some (.slice a n c) ∧ w.heap.size < wr.heap.size ∧ gb < wr.heap.size ∧ Hid (Below w.heap.size w wr))
  case atStart => exact ⟨0, _, rfl, by omega, HM0, Hnew, c2, m1, hgb2, HA0⟩
  case round =>
    obtain ⟨k, m, rfl, hk, hma, hnew, r2, hwr, hgb3, hbel⟩ := hrel
    clear HM0 Hnew HA0
    by_cases hlt : k < n
    · obtain ⟨b, o, rfl, hb, hx0⟩ := hcell (by omega)
      obtain ⟨y, hy, _⟩ := at_lt (xs := xs) (k := k) (by have := Hn.out; omega)
      obtain ⟨f0, f1, f2⟩ := hx0 k y hy
      obtain ⟨i0, i1, i2, i3⟩ := okArcs_at Ho.out hy
      have g0 : wr.cell? ⟨b, o + k * 3, none⟩ = some (.int .i64 y.1) := (hbel.out.cell (p := ⟨b, o + k * 3, none⟩) hb).trans f0
      have g1 : wr.cell? ⟨b, o + k * 3 + 1, none⟩ = some (.int .i64 y.2.1) := (hbel.out.cell (p := ⟨b, o + k * 3 + 1, none⟩) hb).trans f1
      have HT := Lib.hid (show xs.take (k + 1) = xs.take k ++ [y] from (take_snoc' hy).symm)
      obtain ⟨y0, y1, y2⟩ := y
      simp only at g0 g1 i0 i1 i2 i3
      obtain ⟨p0, rfl⟩ := Int.eq_ofNat_of_zero_le i0
      obtain ⟨p1, rfl⟩ := Int.eq_ofNat_of_zero_le i2
      have hq0 : p0 < p := by omega
      have hq1 : p1 < p := by omega
      obtain ⟨b', c'', sb, sc, hv, _, _, _, hcl1, _, hsb, hsb2, hcl2, hfr, hst⟩ := hnew.out.tab_at (hma.out.1.row hq0).1 (hma.out.1.entry hq0 hq1)
      obtain rfl : b' = gb := by simp at hv; exact hv.1.symm
      rw [(hma.out.1.row hq0).2] at hcl1
      have HM := Lib.hid (show MatA p (m.set p0 ((m.getD p0 []).set p1 1)) (xs.take (k + 1)) from by rw [HT.out]; exact hma.out.step hq0 hq1)
      have Hst := Lib.hid (hst 1)
      have Hb3 := Lib.hid (hbel.out.setCell (p := ⟨sb, p1, none⟩) (Nat.le_of_succ_le hsb) (.int .i64 1))
      have Hc2 := Lib.hid ((World.cell?_setCell_other wr ⟨sb, p1, none⟩ ⟨w.heap.size, 2, none⟩ (.int .i64 1) (by simp <;> omega)).trans r2)
      have hj0 : (p0 : Int) < (p : Int) := by omega
      have hj1 : (p1 : Int) < (p : Int) := by omega
      have hkn : (k : Int) < (n : Int) := by omega
      have Hlt := Lib.hid (show w.heap.size < wr.heap.size ∧ b' < wr.heap.size from ⟨hwr, hgb3⟩)
      generalize m.set p0 ((m.getD p0 []).set p1 1) = m' at *
      generalize ent m p0 p1 = X at *
      clear hx0 hcell hy f0 f1 f2 hv hst hnew hbel hma HT
      go_wp2
      go_still_tail 16, (by kernel_rfl)
      go_wp2
      go_roundg (n - (k + 1))
      case measure => omega
      case rel => exact ⟨k + 1, m', by go_num, by omega, HM, Lib.hid (New.heap (OTab.kept _ _) Hst.out rfl), Hc2.out, by simp; exact Hlt.out.1, by simp; exact Hlt.out.2, Lib.hid Hb3.out.drew⟩
    · have HF := Lib.hid (show liveL (EntP m) p = liveL (ArcP xs) p from by have h := hma.out; rw [List.take_of_length_le (by have := Hn.out; omega)] at h; exact h.live)
      have H5 := Lib.hid (l5Live_c hnew.out.tab hma.out.1 hp0 (by omega))
      rw [HF.out] at H5
      clear hcell hma hnew
      go_wp2_with fail
      refine H5.out.mono ?_
      rintro e w5 ⟨r, rfl, hn5, hb5⟩
      have HN := Lib.hid (hn5.mono (Nat.le_of_lt hwr))
      have HB := Lib.hid (hbel.out.trans (hb5.mono (Nat.le_of_lt hwr)))
      clear hn5 hb5 H5
      go_wp2
      go_ret
      exact ⟨_, rfl, HN.out, HB.out⟩
end Go.Proofs.Ytcilgihmaaobeaa
end

section
namespace Go.Proofs.Ytcilgihmaaobeaa
open Go.RowKit Go.Deep Go.Sd

def nxRow (xs : List Arc3) (i : Nat) : List Int := (xs.filter fun a => decide (a.1 = (i : Int))).map (·.2.1)
def nxt (p : Nat) (xs : List Arc3) : List (List Int) := (List.range p).map fun i => nxRow xs i
theorem nxt_len (p : Nat) (xs : List Arc3) : (nxt p xs).length = p := by simp [nxt]
theorem nxt_at {p i : Nat} {xs : List Arc3} (h : i < p) : (nxt p xs)[i]? = some (nxRow xs i) := by
  unfold nxt; rw [List.getElem?_map, List.getElem?_range h]; rfl
theorem nxt_nil (p : Nat) : nxt p [] = List.replicate p [] := by
  apply List.ext_getElem?
  intro i
  by_cases h : i < p
  · rw [nxt_at h, List.getElem?_replicate, if_pos h]; rfl
  · rw [List.getElem?_eq_none (by rw [nxt_len]; omega), List.getElem?_eq_none (by simp; omega)]
theorem nxRow_snoc (xs : List Arc3) (a : Arc3) (i : Nat) : nxRow (xs ++ [a]) i = if a.1 = (i : Int) then nxRow xs i ++ [a.2.1] else nxRow xs i := by
  unfold nxRow
  rw [List.filter_append, List.map_append]
  by_cases h : a.1 = (i : Int)
  · rw [if_pos h]; simp [h]
  · rw [if_neg h]; simp [h]
theorem nxt_snoc {p p0 : Nat} (xs : List Arc3) (a : Arc3) (h0 : p0 < p) (ha : a.1 = (p0 : Int)) : nxt p (xs ++ [a]) = (nxt p xs).set p0 (nxRow xs p0 ++ [a.2.1]) := by
  apply List.ext_getElem?
  intro i
  by_cases h : i < p
  · rw [nxt_at h, nxRow_snoc, ha]
    by_cases e : p0 = i
    · subst e
      rw [if_pos rfl, List.getElem?_set_self (by rw [nxt_len]; exact h)]
    · rw [if_neg (by omega), List.getElem?_set_ne e, nxt_at h]
  · rw [List.getElem?_eq_none (by rw [nxt_len]; omega), List.getElem?_eq_none (by rw [List.length_set, nxt_len]; omega)]
theorem nxRow_mem {xs : List Arc3} {i : Nat} {x : Int} : x ∈ nxRow xs i ↔ ∃ a, a ∈ xs ∧ a.1 = (i : Int) ∧ a.2.1 = x := by
  unfold nxRow
  simp only [List.mem_map, List.mem_filter, decide_eq_true_eq]
  constructor
  · rintro ⟨a, ⟨h1, h2⟩, h3⟩; exact ⟨a, h1, h2, h3⟩
  · rintro ⟨a, h1, h2, h3⟩; exact ⟨a, ⟨h1, h2⟩, h3⟩
theorem nxRow_len (xs : List Arc3) (i : Nat) : (nxRow xs i).length ≤ xs.length := by
  unfold nxRow; rw [List.length_map]; exact List.length_filter_le _ _
theorem nxt_ent {p i j : Nat} {xs : List Arc3} (h : i < p) : EntN (nxt p xs) i j ↔ ArcP xs i j := by
  unfold EntN ArcP
  rw [List.getD_eq_getElem?_getD, nxt_at h]
  simp only [Option.getD_some]
  exact nxRow_mem
theorem nxt_live (p : Nat) (xs : List Arc3) : liveL (EntN (nxt p xs)) p = liveL (ArcP xs) p :=
  liveL_congr fun i j hi _ => nxt_ent hi
theorem nxt_in {p : Nat} {xs : List Arc3} (ho : okArcs (p : Int) xs) : ∀ r, r ∈ nxt p xs → ∀ x, x ∈ r → 0 ≤ x ∧ x < (p : Int) := by
  intro r hr x hx
  obtain ⟨i, _, rfl⟩ := List.mem_map.1 hr
  obtain ⟨a, ha, _, rfl⟩ := nxRow_mem.1 hx
  have := ho a ha
  exact ⟨this.2.2.1, this.2.2.2⟩

/-! Names. -/
def nm (l : List Bool) (i : Nat) : Nat := cntT (l.take i)
theorem nm_zero (l : List Bool) : nm l 0 = 0 := by simp [nm, cntT]
theorem nm_succ {l : List Bool} {i : Nat} {b : Bool} (h : l[i]? = some b) : nm l (i + 1) = nm l i + (if b = true then 1 else 0) := by
  unfold nm cntT
  rw [List.take_add_one, h, List.countP_append]
  cases b <;> simp
theorem nm_le (l : List Bool) (i : Nat) : nm l i ≤ cntT l := by
  unfold nm cntT
  exact List.Sublist.countP_le (List.take_sublist _ _)
theorem nm_all (l : List Bool) : nm l l.length = cntT l := by unfold nm; rw [List.take_length]
/-! Arcs kept. -/
def kept (l : List Bool) (a : Arc3) : Bool := l.getD a.1.toNat false && l.getD a.2.1.toNat false
def renA (l : List Bool) (a : Arc3) : Arc3 := ((nm l a.1.toNat : Int), (nm l a.2.1.toNat : Int), a.2.2)
def trimA (l : List Bool) (xs : List Arc3) : List Arc3 := (xs.filter (kept l)).map (renA l)
theorem trimA_len (l : List Bool) (xs : List Arc3) : (trimA l xs).length ≤ xs.length := by
  unfold trimA; rw [List.length_map]; exact List.length_filter_le _ _
theorem trimA_snoc (l : List Bool) (xs : List Arc3) (a : Arc3) : trimA l (xs ++ [a]) = if kept l a = true then trimA l xs ++ [renA l a] else trimA l xs := by
  unfold trimA
  rw [List.filter_append, List.map_append]
  by_cases h : kept l a = true
  · rw [if_pos h]; simp [h]
  · rw [if_neg h]; simp [h]
noncomputable def liveO (l : Lb) : List Bool := liveL (ArcP l.2.2) l.2.1.toNat
theorem liveO_len (l : Lb) : (liveO l).length = l.2.1.toNat := liveL_len
open Classical in
noncomputable def trimOk (l : Lb) : Bool := isLab l && decide (cntT (liveO l) ≠ 0)
noncomputable def keepV (l : Lb) (b : List Bool) : Lb := (l.1, (cntT b : Int), trimA b l.2.2)
noncomputable def trimV (l : Lb) : Lb := if trimOk l = true then keepV l (liveO l) else (0, 0, [])
theorem trimV_len (l : Lb) : (trimV l).2.2.length ≤ l.2.2.length := by
  unfold trimV
  split
  · exact trimA_len _ _
  · simp
end Go.Proofs.Ytcilgihmaaobeaa
end

section
namespace Go.Proofs.Ytcilgihmaaobeaa
open Go.RowKit Go.Deep Go.Sd
theorem _root_.Go.Sd.OIntR.zero' : ∀ w : World, OIntR w (.int .i64 0) 0 [] := fun _ => ⟨rfl, rfl⟩
def nf (l : List Bool) (k i : Nat) : Int := if i < k ∧ l.getD i false = true then (nm l i : Int) else 0
theorem nf_skip {l : List Bool} {k : Nat} (h : l[k]? = some false) (j : Nat) : nf l (k + 1) j = nf l k j := by
  unfold nf
  by_cases e : j = k
  · subst e
    have : l.getD j false = false := by simp [List.getD, h]
    rw [this, if_neg (by simp), if_neg (by simp)]
  · by_cases h2 : j < k
    · simp [h2, Nat.lt_succ_of_lt h2]
    · rw [if_neg (by omega), if_neg (by omega)]
theorem nf_take {l : List Bool} {k : Nat} (h : l[k]? = some true) (j : Nat) : (if j = k then (nm l k : Int) else nf l k j) = nf l (k + 1) j := by
  unfold nf
  by_cases e : j = k
  · subst e
    rw [if_pos rfl, if_pos ⟨by omega, by simp [List.getD, h]⟩]
  · rw [if_neg e]
    by_cases h2 : j < k
    · simp [h2, Nat.lt_succ_of_lt h2]
    · rw [if_neg (by omega), if_neg (by omega)]
theorem nf_end {l : List Bool} {i : Nat} (h : l[i]? = some true) : nf l l.length i = (nm l i : Int) := by
  have hi := (List.getElem?_eq_some_iff.1 h).1
  unfold nf
  rw [if_pos ⟨hi, by simp [List.getD, h]⟩]
set_option maxHeartbeats 4000000 in
set_option maxRecDepth 100000 in
theorem l14Keep_c {w : World} {v vb : Value} {l : Lb} {bs : List Bool} (h : LabR w v l) (hbs : SlOf (ValR Value.bool) w vb bs) (hok : isLab l = true) (hbl : bs.length = l.2.1.toNat) :
    Calls Try.prog 59 #[v, vb] w (Makes OLab w (keepV l bs)) := by
  obtain ⟨ho, hS1, hS2, _, _⟩ := isLab_ok hok
  have hlen768 := isLab_len hok
  clear hok
  obtain ⟨L, S, xs⟩ := l
  obtain ⟨va, rfl, hlen, a, c, rfl, hac, _, _, hcell⟩ := h
  simp only at *
  obtain ⟨p, rfl⟩ := Int.eq_ofNat_of_zero_le (show 0 ≤ S by omega)
  rw [show ((p : Int)).toNat = p from rfl] at hbl
  obtain ⟨ba, bc, rfl, _, _, hbc⟩ := hbs.shape
  obtain ⟨bb, bo, rfl, hbb, hbx⟩ := hbc (by omega)
  clear hbs hbc
  rw [hbl]
  have Hbx := Lib.hid (fun i x (hi : bs[i]? = some x) => (show w.cell? ⟨bb, bo + i, none⟩ = some (.bool x) from by obtain ⟨u, hu, rfl⟩ := hbx i x hi; exact hu))
  have Hbl := Lib.hid hbl
  generalize hn : xs.length = n at *
  have Hn := Lib.hid hn.symm
  have Ho := Lib.hid ho
  clear hn ho hbx hbl
  obtain ⟨wA, eA, hA0⟩ : ∃ wA, wA = (w.alloc (.cells #[.int .i64 L, .int .i64 p, .slice a n c] 26)).alloc (.cells #[.int .i64 0, .int .i64 0, .slice none 0 0] 26) ∧ Below w.heap.size w wA := ⟨_, rfl, ((Below.refl _ _).alloc (Nat.le_refl _) _).alloc (by simp) _⟩
  have zA : wA.heap.size = w.heap.size + 1 + 1 := by rw [eA]; simp
  have l0 : wA.cell? ⟨w.heap.size, 0, none⟩ = some (.int .i64 L) := by rw [eA]; simp [go_sem]
  have l1 : wA.cell? ⟨w.heap.size, 1, none⟩ = some (.int .i64 p) := by rw [eA]; simp [go_sem]
  have l2 : wA.cell? ⟨w.heap.size, 2, none⟩ = some (.slice a n c) := by rw [eA]; simp [go_sem]
  have R0 := Lib.hid (show wA.cell? ⟨w.heap.size + 1, 0, none⟩ = some (.int .i64 0) from by rw [eA]; simp [go_sem])
  have R1 := Lib.hid (show wA.cell? ⟨w.heap.size + 1, 1, none⟩ = some (.int .i64 0) from by rw [eA]; simp [go_sem])
  have R2 := Lib.hid (show wA.cell? ⟨w.heap.size + 1, 2, none⟩ = some (.slice none 0 0) from by rw [eA]; simp [go_sem])
  have F0 := Lib.hid (show wA.frozen? ⟨w.heap.size + 1, 0, none⟩ = false from by rw [eA]; simp [go_sem])
  have F1 := Lib.hid (show wA.frozen? ⟨w.heap.size + 1, 1, none⟩ = false from by rw [eA]; simp [go_sem])
  have F2 := Lib.hid (show wA.frozen? ⟨w.heap.size + 1, 2, none⟩ = false from by rw [eA]; simp [go_sem])
  have L1 := Lib.hid l1
  have L2 := Lib.hid l2
  have HA := Lib.hid hA0
  have eW := eA.symm
  have hp0 : 0 < p := by omega
  clear eA hA0 l2
  go_enter Try.func59, Try.ntmps59
  go_wp2_with (first
    | (at_make; go_loud (refine wpl_make (R := OIntR) rfl (.tmp 11) (.tmp 11) 54 rfl 3 (.int .i64 0) 8 Try.underlying54 infoI rfl p (by rfl) (by rfl) (by omega) (by omega) OIntR.zero' ?_; intro wm hzm hnm hbm; have Hnm := Lib.hid hnm; have Hbm := Lib.hid hbm; have l0 := (hbm.cell (p := ⟨w.heap.size, 0, none⟩) (show w.heap.size < wA.heap.size by omega)).trans l0; have l1 := (hbm.cell (p := ⟨w.heap.size, 1, none⟩) (show w.heap.size < wA.heap.size by omega)).trans l1; clear eW hnm hbm))
    | fail)
  obtain ⟨wB, eB, hbB, o0, o1, o2, mB⟩ := boxA3_ex wm 26 (.int .i64 L) (.int .i64 0) (.slice none 0 0)
  have f1 : wB.frozen? ⟨wm.heap.size, 1, none⟩ = false := by rw [← eB]; simp [go_sem]
  have f2 : wB.frozen? ⟨wm.heap.size, 2, none⟩ = false := by rw [← eB]; simp [go_sem]
  rw [hzm, zA] at o0 o1 o2 f1 f2 mB
  rw [eB]
  have HC0 := Lib.hid (show CellsI wB (w.heap.size + 1 + 1) p (nf bs 0) from by
    obtain ⟨b', c', hv, _, _, hlt, hc⟩ := Hnm.out.cellsI (by simp; exact hp0)
    have hv1 := congrArg Value.ownBlock hv
    simp only [Value.ownBlock, Option.some.injEq] at hv1
    have e : b' = wA.heap.size := hv1.symm
    subst e
    rw [List.length_replicate] at hc
    rw [← zA]
    exact (hc.congr (fun j hj => by simp [nf, List.getD, hj])).keep hbB hlt)
  have HB0 := Lib.hid (show Below (w.heap.size + 1 + 1) wA wB from by rw [← zA]; exact Hbm.out.trans (hbB.mono (by omega)))
  have O1 := Lib.hid (show wB.cell? ⟨w.heap.size + 1 + 1 + 1, 1, none⟩ = some (.int .i64 (nm bs 0 : Int)) from by rw [nm_zero]; exact o1)
  clear Hnm Hbm hbB eB hzm zA l0 l1 o1
  go_loopg [7] p (fun g i wr => ∃ (k : Nat), i = .int .i64 k ∧ k + g = p ∧ Hid (CellsI wr (w.heap.size + 1 + 1) p (nf bs k)) ∧ wr.cell? ⟨w.heap.size + 1 + 1 + 1, 0, none⟩ = some (.int .i64 L) ∧ wr.cell? ⟨w.heap.size + 1 + 1 + 1, 1, none⟩ = some (.int .i64 (nm bs k : Int)) ∧ wr.cell? ⟨w.heap.size + 1 + 1 + 1, 2, none⟩ = some (.slice none 0 0) ∧ wr.frozen? ⟨w.heap.size + 1 + 1 + 1, 1, none⟩ = false ∧ wr.frozen? ⟨w.heap.size + 1 + 1 + 1, 2, none⟩ = false ∧ w.heap.size + 1 + 1 + 1 < wr.heap.size ∧ Hid (Below (w.heap.size + 1 + 1) wA wr))
  case atStart => exact ⟨0, rfl, by omega, HC0, o0, O1.out, o2, f1, f2, mB, HB0⟩
  case round =>
    obtain ⟨k, rfl, hk, hc, o0, o1, o2, f1, f2, mB, hbel⟩ := hrel
    clear HC0 HB0 O1
    have l1 := (hbel.out.cell (p := ⟨w.heap.size, 1, none⟩) (show w.heap.size < w.heap.size + 1 + 1 by omega)).trans L1.out
    have hnk : (nm bs k : Int) ≤ 12 := by have := nm_le bs k; have := cntT_le (l := bs); have := Hbl.out; omega
    by_cases hlt : k < p
    · obtain ⟨d, hd, _⟩ := at_lt (xs := bs) (k := k) (by have := Hbl.out; omega)
      have hbd := (hbel.out.cell (p := ⟨bb, bo + k, none⟩) (show bb < w.heap.size + 1 + 1 by omega)).trans ((HA.out.cell (p := ⟨bb, bo + k, none⟩) hbb).trans (Hbx.out k d hd))
      have hkp : (k : Int) < (p : Int) := by omega
      cases d with
      | false =>
        have HN := Lib.hid (show CellsI wr (w.heap.size + 1 + 1) p (nf bs (k + 1)) from hc.out.congr fun j _ => (nf_skip hd j).symm)
        have O1 := Lib.hid (show wr.cell? ⟨w.heap.size + 1 + 1 + 1, 1, none⟩ = some (.int .i64 (nm bs (k + 1) : Int)) from by rw [nm_succ hd]; simpa using o1)
        clear hc hd
        go_wp2
        go_roundg (p - (k + 1))
        case measure => omega
        case rel => exact ⟨k + 1, by go_num, by omega, HN, o0, O1.out, o2, f1, f2, mB, hbel⟩
      | true =>
        obtain ⟨n1, n2⟩ := hc.out k hlt
        have HN := Lib.hid (show CellsI ((wr.setCell ⟨w.heap.size + 1 + 1, k, none⟩ (.int .i64 (nm bs k))).setCell ⟨w.heap.size + 1 + 1 + 1, 1, none⟩ (.int .i64 ((nm bs k : Int) + 1))) (w.heap.size + 1 + 1) p (nf bs (k + 1)) from
          ((hc.out.set hlt (nm bs k : Int)).congr fun j _ => nf_take hd j).other (by simp) _)
        have o1' := (World.cell?_setCell_other wr ⟨w.heap.size + 1 + 1, k, none⟩ ⟨w.heap.size + 1 + 1 + 1, 1, none⟩ (.int .i64 (nm bs k)) (by simp)).trans o1
        have O1 := Lib.hid (show ((wr.setCell ⟨w.heap.size + 1 + 1, k, none⟩ (.int .i64 (nm bs k))).setCell ⟨w.heap.size + 1 + 1 + 1, 1, none⟩ (.int .i64 ((nm bs k : Int) + 1))).cell? ⟨w.heap.size + 1 + 1 + 1, 1, none⟩ = some (.int .i64 (nm bs (k + 1) : Int)) from by rw [nm_succ hd]; simpa using World.cell?_setCell_same _ _ (.int .i64 ((nm bs k : Int) + 1)) o1')
        have O0 := Lib.hid ((World.cell?_setCell_other (wr.setCell ⟨w.heap.size + 1 + 1, k, none⟩ (.int .i64 (nm bs k))) ⟨w.heap.size + 1 + 1 + 1, 1, none⟩ ⟨w.heap.size + 1 + 1 + 1, 0, none⟩ (.int .i64 ((nm bs k : Int) + 1)) (by simp)).trans ((World.cell?_setCell_other wr ⟨w.heap.size + 1 + 1, k, none⟩ ⟨w.heap.size + 1 + 1 + 1, 0, none⟩ (.int .i64 (nm bs k)) (by simp)).trans o0))
        have O2 := Lib.hid ((World.cell?_setCell_other (wr.setCell ⟨w.heap.size + 1 + 1, k, none⟩ (.int .i64 (nm bs k))) ⟨w.heap.size + 1 + 1 + 1, 1, none⟩ ⟨w.heap.size + 1 + 1 + 1, 2, none⟩ (.int .i64 ((nm bs k : Int) + 1)) (by simp)).trans ((World.cell?_setCell_other wr ⟨w.heap.size + 1 + 1, k, none⟩ ⟨w.heap.size + 1 + 1 + 1, 2, none⟩ (.int .i64 (nm bs k)) (by simp)).trans o2))
        have FF1 := Lib.hid (show ((wr.setCell ⟨w.heap.size + 1 + 1, k, none⟩ (.int .i64 (nm bs k))).setCell ⟨w.heap.size + 1 + 1 + 1, 1, none⟩ (.int .i64 ((nm bs k : Int) + 1))).frozen? ⟨w.heap.size + 1 + 1 + 1, 1, none⟩ = false from by rw [World.frozen?_setCell, World.frozen?_setCell]; exact f1)
        have FF2 := Lib.hid (show ((wr.setCell ⟨w.heap.size + 1 + 1, k, none⟩ (.int .i64 (nm bs k))).setCell ⟨w.heap.size + 1 + 1 + 1, 1, none⟩ (.int .i64 ((nm bs k : Int) + 1))).frozen? ⟨w.heap.size + 1 + 1 + 1, 2, none⟩ = false from by rw [World.frozen?_setCell, World.frozen?_setCell]; exact f2)
        have HB := Lib.hid ((hbel.out.setCell (p := ⟨w.heap.size + 1 + 1, k, none⟩) (Nat.le_refl _) (.int .i64 (nm bs k))).setCell (p := ⟨w.heap.size + 1 + 1 + 1, 1, none⟩) (by simp) (.int .i64 ((nm bs k : Int) + 1)))
        have MB := Lib.hid mB
        have hq0 : (0 : Int) ≤ (nm bs k : Int) := Int.natCast_nonneg _
        generalize hq : (nm bs k : Int) = q at *
        clear hc hd hq hbel
        go_wp2
        go_roundg (p - (k + 1))
        case measure => omega
        case rel => exact ⟨k + 1, by go_num, by omega, HN, O0.out, O1.out, O2.out, FF1.out, FF2.out, by simp; exact MB.out, HB⟩
    · obtain rfl : k = p := by omega
      clear hk hlt
      have HCn := Lib.hid (show nm bs k = cntT bs from by have := nm_all bs; rw [Hbl.out] at this; exact this)
      rw [HCn.out] at o1 hnk
      generalize hct : cntT bs = ct at *
      have Hct := Lib.hid hct
      have HN0 := Lib.hid (show New (RowA 59) (w.heap.size + 1 + 1 + 1 + 1) wr (.slice none 0 0) (trimA bs (xs.take 0)) from RowG.nil)
      clear hct HCn
      go_wp2
      go_loopg [8] n (fun g i wr => ∃ (j : Nat) (ya : Option Addr) (yn yc : Nat), i = .int .i64 j ∧ j + g = n ∧ Hid (CellsI wr (w.heap.size + 1 + 1) k (nf bs k)) ∧ wr.cell? ⟨w.heap.size + 1 + 1 + 1, 0, none⟩ = some (.int .i64 L) ∧ wr.cell? ⟨w.heap.size + 1 + 1 + 1, 1, none⟩ = some (.int .i64 (ct : Int)) ∧ wr.cell? ⟨w.heap.size + 1 + 1 + 1, 2, none⟩ = some (.slice ya yn yc) ∧ wr.frozen? ⟨w.heap.size + 1 + 1 + 1, 2, none⟩ = false ∧ w.heap.size + 1 + 1 + 1 < wr.heap.size ∧ Hid (New (RowA 59) (w.heap.size + 1 + 1 + 1 + 1) wr (.slice ya yn yc) (trimA bs (xs.take j))) ∧ Hid (Below (w.heap.size + 1 + 1) wA wr))
      case atStart => exact ⟨0, none, 0, 0, rfl, by omega, hc, o0, o1, o2, f2, mB, HN0, hbel⟩
      case round =>
        clear hc o0 o1 o2 f1 f2 mB HN0 hbel l1
        obtain ⟨j, ya, yn, yc, rfl, hj, hc, o0, o1, o2, f2, mB, hnew, hbel⟩ := hrel
        obtain ⟨wk, rfl⟩ : ∃ x, x = wr := ⟨_, rfl⟩
        have l2 := (hbel.out.cell (p := ⟨w.heap.size, 2, none⟩) (show w.heap.size < w.heap.size + 1 + 1 by omega)).trans L2.out
        by_cases hltj : j < n
        · obtain ⟨x, hx, _⟩ := at_lt (xs := xs) (k := j) (by have := Hn.out; omega)
          have HT := Lib.hid (show xs.take (j + 1) = xs.take j ++ [x] from (take_snoc' hx).symm)
          obtain ⟨b, o, rfl, hb, hx0⟩ := hcell (by omega)
          obtain ⟨g0, g1, g2⟩ := hx0 j x hx
          obtain ⟨i0, i1, i2, i3⟩ := okArcs_at Ho.out hx
          clear hx0 hx hcell
          obtain ⟨x0, x1, x2⟩ := x
          simp only at g0 g1 g2 i0 i1 i2 i3
          obtain ⟨p0, rfl⟩ := Int.eq_ofNat_of_zero_le i0
          obtain ⟨p1, rfl⟩ := Int.eq_ofNat_of_zero_le i2
          have hq0 : p0 < k := by omega
          have hq1 : p1 < k := by omega
          have hk0 : (p0 : Int) < (k : Int) := by omega
          have hk1 : (p1 : Int) < (k : Int) := by omega
          have hkn : (j : Int) < (n : Int) := by omega
          have up : ∀ (o : Nat) (b' : Nat) u, b' < w.heap.size → w.cell? ⟨b', o, none⟩ = some u → wk.cell? ⟨b', o, none⟩ = some u := fun o b' u hb' hu => (hbel.out.cell (p := ⟨b', o, none⟩) (show b' < w.heap.size + 1 + 1 by omega)).trans ((HA.out.cell (p := ⟨b', o, none⟩) hb').trans hu)
          replace g0 := up _ _ _ hb g0
          replace g1 := up _ _ _ hb g1
          replace g2 := up _ _ _ hb g2
          obtain ⟨d0, hd0, _⟩ := at_lt (xs := bs) (k := p0) (by have := Hbl.out; omega)
          obtain ⟨d1, hd1, _⟩ := at_lt (xs := bs) (k := p1) (by have := Hbl.out; omega)
          have e0 := up _ _ _ hbb (Hbx.out p0 d0 hd0)
          have e1 := up _ _ _ hbb (Hbx.out p1 d1 hd1)
          have HK := Lib.hid (show kept bs ((p0 : Int), (p1 : Int), x2) = (d0 && d1) from by unfold kept; simp [List.getD, hd0, hd1])
          have hKn := trimA_snoc bs (xs.take j) ((p0 : Int), (p1 : Int), x2)
          rw [← HT.out, HK.out] at hKn
          have HKn := Lib.hid hKn
          obtain ⟨n0, n0f⟩ := hc.out p0 hq0
          obtain ⟨n1, n1f⟩ := hc.out p1 hq1
          have HR := Lib.hid (fun (h0 : d0 = true) (h1 : d1 = true) => (show renA bs ((p0 : Int), (p1 : Int), x2) = (nf bs k p0, nf bs k p1, x2) from by
            subst h0 h1
            unfold renA
            rw [← Hbl.out, nf_end hd0, nf_end hd1]; rfl))
          clear up HT hKn HK hd0 hd1
          obtain ⟨w1, ex, hb1, q0, q1, q2, m1⟩ := boxA3_ex wk 59 (.int .i64 p0) (.int .i64 p1) (.int .i64 x2)
          have hz1 := hb1.size
          have hzb := hbel.out.size
          have bbk : bb < wk.heap.size := by omega
          replace e0 := (hb1.cell (p := ⟨bb, bo + p0, none⟩) bbk).trans e0
          replace e1 := (hb1.cell (p := ⟨bb, bo + p1, none⟩) bbk).trans e1
          replace o0 := (hb1.cell (p := ⟨w.heap.size + 1 + 1 + 1, 0, none⟩) mB).trans o0
          replace o1 := (hb1.cell (p := ⟨w.heap.size + 1 + 1 + 1, 1, none⟩) mB).trans o1
          replace o2 := (hb1.cell (p := ⟨w.heap.size + 1 + 1 + 1, 2, none⟩) mB).trans o2
          replace f2 := (hb1.frozen (p := ⟨w.heap.size + 1 + 1 + 1, 2, none⟩) mB).trans f2
          have mN : w.heap.size + 1 + 1 < wk.heap.size := by omega
          replace n0 := (hb1.cell (p := ⟨w.heap.size + 1 + 1, p0, none⟩) mN).trans n0
          replace n1 := (hb1.cell (p := ⟨w.heap.size + 1 + 1, p1, none⟩) mN).trans n1
          replace hc := Lib.hid (hc.out.keep hb1 mN)
          have HAF := Lib.hid (show wk.heap.size ∉ (Value.slice ya yn yc).ownBlock.toList from by
            obtain ⟨F, hF, _⟩ := hnew.out
            intro hm
            have h1 := RowG.held.lt _ _ _ _ hF wk.heap.size (by rw [hF.2]; exact hm)
            omega)
          replace hnew := Lib.hid (((hnew.out.inn RowG.held).keep RowG.held hb1 (Nat.le_refl _)).new)
          have mBk := mB
          replace mB := Nat.lt_of_lt_of_le mB hz1
          have HB1 := Lib.hid (hbel.out.trans (hb1.mono (by omega)))
          by_cases hdd : d0 = true ∧ d1 = true
          · obtain ⟨rfl, rfl⟩ := hdd
            obtain ⟨Y0, hY0⟩ : ∃ y, y = nf bs k p0 := ⟨_, rfl⟩
            obtain ⟨Y1, hY1⟩ : ∃ y, y = nf bs k p1 := ⟨_, rfl⟩
            have HN := Lib.hid (show trimA bs (xs.take (j + 1)) = trimA bs (xs.take j) ++ [(Y0, Y1, x2)] from by rw [HKn.out, if_pos (by rfl), HR.out rfl rfl, hY0, hY1])
            rw [← hY0] at n0
            rw [← hY1] at n1
            have hl1 := Lib.hid (show (trimA bs (xs.take j)).length ≤ 768 from Nat.le_trans (trimA_len bs (xs.take j)) (by rw [List.length_take]; omega))
            have HP := Lib.hid (show ∀ W : World, Below w1.heap.size w1 W → W.cell? ⟨w1.heap.size, 0, none⟩ = some (.int .i64 Y0) → W.cell? ⟨w1.heap.size, 1, none⟩ = some (.int .i64 Y1) → W.cell? ⟨w1.heap.size, 2, none⟩ = some (.int .i64 x2) →
                ∃ a' n' c' w2, (Builtin.append_ #[24, 24] 24 #[.slice ya yn yc, .slice (some ⟨w1.heap.size, 0, none⟩) 1 1]).run Try.prog W = .ok (.slice a' n' c') w2 ∧ w2.cell? ⟨w.heap.size + 1 + 1 + 1, 2, none⟩ = some (.slice ya yn yc) ∧ w2.frozen? ⟨w.heap.size + 1 + 1 + 1, 2, none⟩ = false ∧ (w2.cell? ⟨wk.heap.size, 0, none⟩ = some (.int .i64 p0) ∧ w2.cell? ⟨wk.heap.size, 1, none⟩ = some (.int .i64 p1) ∧ w2.cell? ⟨wk.heap.size, 2, none⟩ = some (.int .i64 x2) ∧ w2.cell? ⟨w.heap.size + 1 + 1, p0, none⟩ = some (.int .i64 Y0) ∧ w2.cell? ⟨w.heap.size + 1 + 1, p1, none⟩ = some (.int .i64 Y1) ∧ w2.cell? ⟨w.heap.size + 1 + 1 + 1, 2, none⟩ = some (.slice ya yn yc)) ∧
                  Hid (CellsI (w2.setCell ⟨w.heap.size + 1 + 1 + 1, 2, none⟩ (.slice a' n' c')) (w.heap.size + 1 + 1) k (nf bs k) ∧ (w2.setCell ⟨w.heap.size + 1 + 1 + 1, 2, none⟩ (.slice a' n' c')).cell? ⟨w.heap.size + 1 + 1 + 1, 0, none⟩ = some (.int .i64 L) ∧ (w2.setCell ⟨w.heap.size + 1 + 1 + 1, 2, none⟩ (.slice a' n' c')).cell? ⟨w.heap.size + 1 + 1 + 1, 1, none⟩ = some (.int .i64 (ct : Int)) ∧ (w2.setCell ⟨w.heap.size + 1 + 1 + 1, 2, none⟩ (.slice a' n' c')).cell? ⟨w.heap.size + 1 + 1 + 1, 2, none⟩ = some (.slice a' n' c') ∧ (w2.setCell ⟨w.heap.size + 1 + 1 + 1, 2, none⟩ (.slice a' n' c')).frozen? ⟨w.heap.size + 1 + 1 + 1, 2, none⟩ = false ∧ w.heap.size + 1 + 1 + 1 < (w2.setCell ⟨w.heap.size + 1 + 1 + 1, 2, none⟩ (.slice a' n' c')).heap.size ∧
                    New (RowA 59) (w.heap.size + 1 + 1 + 1 + 1) (w2.setCell ⟨w.heap.size + 1 + 1 + 1, 2, none⟩ (.slice a' n' c')) (.slice a' n' c') (trimA bs (xs.take (j + 1))) ∧ Below (w.heap.size + 1 + 1) wA (w2.setCell ⟨w.heap.size + 1 + 1 + 1, 2, none⟩ (.slice a' n' c'))) from by
              intro W hW k0 k1 k2
              have hWz := hW.size
              have hnW := ((hnew.out.inn RowG.held).keep RowG.held hW (Nat.le_refl _)).new
              obtain ⟨a', n', c', w2, hr, hn2, hb2, hk2⟩ := New.rowRun (P := Try.prog) acell_lay 24 24 (.agg #[.int .i64 0, .int .i64 0, .int .i64 0]) 24 Try.underlying24 infoA rfl hnW (by omega) (Y0, Y1, x2) 1
                (by
                  intro i u hu
                  match i, hu with
                  | 0, hu => simp [acell] at hu; subst hu; exact k0
                  | 1, hu => simp [acell] at hu; subst hu; exact k1
                  | 2, hu => simp [acell] at hu; subst hu; exact k2) (by have := hl1.out; omega) (by have := hl1.out; omega)
              have lw : w.heap.size + 1 + 1 + 1 < w.heap.size + 1 + 1 + 1 + 1 := by omega
              have j0 := (hb2.cell (p := ⟨w.heap.size + 1 + 1 + 1, 0, none⟩) lw).trans ((hW.cell (p := ⟨w.heap.size + 1 + 1 + 1, 0, none⟩) mB).trans o0)
              have j1 := (hb2.cell (p := ⟨w.heap.size + 1 + 1 + 1, 1, none⟩) lw).trans ((hW.cell (p := ⟨w.heap.size + 1 + 1 + 1, 1, none⟩) mB).trans o1)
              have j2 := (hb2.cell (p := ⟨w.heap.size + 1 + 1 + 1, 2, none⟩) lw).trans ((hW.cell (p := ⟨w.heap.size + 1 + 1 + 1, 2, none⟩) mB).trans o2)
              have jf := (hb2.frozen (p := ⟨w.heap.size + 1 + 1 + 1, 2, none⟩) lw).trans ((hW.frozen (p := ⟨w.heap.size + 1 + 1 + 1, 2, none⟩) mB).trans f2)
              have hz2 := hb2.size
              rw [HN.out]
              have hA2 : ∀ (o : Nat) u, w1.cell? ⟨wk.heap.size, o, none⟩ = some u → w2.cell? ⟨wk.heap.size, o, none⟩ = some u := fun o u hu => by
                have h1 := hk2 wk.heap.size (Nat.lt_of_lt_of_le m1 hWz) HAF.out
                rw [← hu, ← hW.cell (p := ⟨wk.heap.size, o, none⟩) m1]
                simp only [World.cell?, h1]
              have hN2 : ∀ (o : Nat) u, w1.cell? ⟨w.heap.size + 1 + 1, o, none⟩ = some u → w2.cell? ⟨w.heap.size + 1 + 1, o, none⟩ = some u := fun o u hu => (hb2.cell (p := ⟨w.heap.size + 1 + 1, o, none⟩) (show w.heap.size + 1 + 1 < w.heap.size + 1 + 1 + 1 + 1 by omega)).trans ((hW.cell (p := ⟨w.heap.size + 1 + 1, o, none⟩) (show w.heap.size + 1 + 1 < w1.heap.size by omega)).trans hu)
              refine ⟨a', n', c', w2, hr, j2, jf, ⟨hA2 _ _ q0, hA2 _ _ q1, hA2 _ _ q2, hN2 _ _ n0, hN2 _ _ n1, j2⟩, Lib.hid ⟨((hc.out.keep hW (by omega)).keep hb2 (by omega)).other (by simp) _, (World.cell?_setCell_other _ _ _ _ (by simp)).trans j0, (World.cell?_setCell_other _ _ _ _ (by simp)).trans j1, World.cell?_setCell_same _ _ _ j2, (World.frozen?_setCell _ _ _ _).trans jf, by simp; omega, ?_, ?_⟩⟩
              · exact New.storeLow RowG.held hn2 (by simp) _
              · exact ((HB1.out.trans (hW.mono (by omega))).trans (hb2.mono (by omega))).setCell (by simp) _)
            have K0 : ((w1.alloc (.cells #[.int .i64 Y0, .int .i64 Y1, .int .i64 x2] 59)).drew).cell? ⟨w1.heap.size, 0, none⟩ = some (.int .i64 Y0) := by simp [go_sem]
            have K1 : ((w1.alloc (.cells #[.int .i64 Y0, .int .i64 Y1, .int .i64 x2] 59)).drew).cell? ⟨w1.heap.size, 1, none⟩ = some (.int .i64 Y1) := by simp [go_sem]
            have K2 : ((w1.alloc (.cells #[.int .i64 Y0, .int .i64 Y1, .int .i64 x2] 59)).drew).cell? ⟨w1.heap.size, 2, none⟩ = some (.int .i64 x2) := by simp [go_sem]
            obtain ⟨a', n', c', w2, hr, hc2, hf2, hS2, hst⟩ := HP.out ((w1.alloc (.cells #[.int .i64 Y0, .int .i64 Y1, .int .i64 x2] 59)).drew) (((Below.refl _ _).alloc (Nat.le_refl _) _).drew) K0 K1 K2
            have Hr := Lib.hid hr
            have hSd : w1.drew.cell? ⟨wk.heap.size, 0, none⟩ = some (.int .i64 p0) ∧ w1.drew.cell? ⟨wk.heap.size, 1, none⟩ = some (.int .i64 p1) ∧ w1.drew.cell? ⟨wk.heap.size, 2, none⟩ = some (.int .i64 x2) ∧ w1.drew.cell? ⟨w.heap.size + 1 + 1, p0, none⟩ = some (.int .i64 Y0) ∧ w1.drew.cell? ⟨w.heap.size + 1 + 1, p1, none⟩ = some (.int .i64 Y1) ∧ w1.drew.cell? ⟨w.heap.size + 1 + 1 + 1, 2, none⟩ = some (.slice ya yn yc) := ⟨q0, q1, q2, n0, n1, o2⟩
            have hS1 : ((w1.alloc (.cells #[.int .i64 Y0, .int .i64 Y1, .int .i64 x2] 59)).drew).cell? ⟨wk.heap.size, 0, none⟩ = some (.int .i64 p0) ∧ ((w1.alloc (.cells #[.int .i64 Y0, .int .i64 Y1, .int .i64 x2] 59)).drew).cell? ⟨wk.heap.size, 1, none⟩ = some (.int .i64 p1) ∧ ((w1.alloc (.cells #[.int .i64 Y0, .int .i64 Y1, .int .i64 x2] 59)).drew).cell? ⟨wk.heap.size, 2, none⟩ = some (.int .i64 x2) ∧ ((w1.alloc (.cells #[.int .i64 Y0, .int .i64 Y1, .int .i64 x2] 59)).drew).cell? ⟨w.heap.size + 1 + 1, p0, none⟩ = some (.int .i64 Y0) ∧ ((w1.alloc (.cells #[.int .i64 Y0, .int .i64 Y1, .int .i64 x2] 59)).drew).cell? ⟨w.heap.size + 1 + 1, p1, none⟩ = some (.int .i64 Y1) ∧ ((w1.alloc (.cells #[.int .i64 Y0, .int .i64 Y1, .int .i64 x2] 59)).drew).cell? ⟨w.heap.size + 1 + 1 + 1, 2, none⟩ = some (.slice ya yn yc) := by
              have hb3 := (((Below.refl w1.heap.size w1).alloc (Nat.le_refl _) (.cells #[.int .i64 Y0, .int .i64 Y1, .int .i64 x2] 59)).drew)
              exact ⟨(hb3.cell (p := ⟨wk.heap.size, 0, none⟩) m1).trans q0, (hb3.cell (p := ⟨wk.heap.size, 1, none⟩) m1).trans q1, (hb3.cell (p := ⟨wk.heap.size, 2, none⟩) m1).trans q2, (hb3.cell (p := ⟨w.heap.size + 1 + 1, p0, none⟩) (show w.heap.size + 1 + 1 < w1.heap.size by omega)).trans n0, (hb3.cell (p := ⟨w.heap.size + 1 + 1, p1, none⟩) (show w.heap.size + 1 + 1 < w1.heap.size by omega)).trans n1, (hb3.cell (p := ⟨w.heap.size + 1 + 1 + 1, 2, none⟩) mB).trans o2⟩
            clear HKn HR hnew hbel hb1 HN hY0 hY1 hc HB1 K0 K1 K2 HP hr HAF
            go_wp2
            clear ex
            refine wp_region_L (fun w' => w'.cell? ⟨wk.heap.size, 0, none⟩ = some (.int .i64 p0) ∧ w'.cell? ⟨wk.heap.size, 1, none⟩ = some (.int .i64 p1) ∧ w'.cell? ⟨wk.heap.size, 2, none⟩ = some (.int .i64 x2) ∧ w'.cell? ⟨w.heap.size + 1 + 1, p0, none⟩ = some (.int .i64 Y0) ∧ w'.cell? ⟨w.heap.size + 1 + 1, p1, none⟩ = some (.int .i64 Y1) ∧ w'.cell? ⟨w.heap.size + 1 + 1 + 1, 2, none⟩ = some (.slice ya yn yc)) (by kernel_rfl) ?_
            refine wpAnyL_take 0 (v := ?_) rfl (by kernel_rfl) (by kernel_rfl) (by kernel_rfl) (by kernel_rfl) (fun _ _ _ h => h) (Or.inl ⟨by rfl, ?_⟩) hSd ?_
            rotate_left
            · (intro w hSw; (try dsimp only at hSw); go_simp) <;> (try with_reducible rfl)
            try simp only [Act.put, List.setIfInBounds_toArray, List.set_cons_zero, List.set_cons_succ]
            refine wpAnyL_take 1 (v := ?_) rfl (by kernel_rfl) (by kernel_rfl) (by kernel_rfl) (by kernel_rfl) (fun _ _ _ h => h) (Or.inl ⟨by rfl, ?_⟩) hSd ?_
            rotate_left
            · (intro w hSw; (try dsimp only at hSw); go_simp) <;> (try with_reducible rfl)
            try simp only [Act.put, List.setIfInBounds_toArray, List.set_cons_zero, List.set_cons_succ]
            refine wpAnyL_take 2 (v := ?_) rfl (by kernel_rfl) (by kernel_rfl) (by kernel_rfl) (by kernel_rfl) (fun _ _ _ h => h) (Or.inl ⟨by rfl, ?_⟩) hSd ?_
            rotate_left
            · (intro w hSw; (try dsimp only at hSw); go_simp) <;> (try with_reducible rfl)
            try simp only [Act.put, List.setIfInBounds_toArray, List.set_cons_zero, List.set_cons_succ]
            refine wpAnyL_take 3 (v := ?_) rfl (by kernel_rfl) (by kernel_rfl) (by kernel_rfl) (by kernel_rfl) (fun _ _ _ h => h) (Or.inl ⟨by rfl, ?_⟩) hSd ?_
            rotate_left
            · (intro w hSw; (try dsimp only at hSw); go_simp) <;> (try with_reducible rfl)
            try simp only [Act.put, List.setIfInBounds_toArray, List.set_cons_zero, List.set_cons_succ]
            refine wpAnyL_take 4 (v := ?_) rfl (by kernel_rfl) (by kernel_rfl) (by kernel_rfl) (by kernel_rfl) (fun _ _ _ h => h) (Or.inl ⟨by rfl, ?_⟩) hSd ?_
            rotate_left
            · (intro w hSw; (try dsimp only at hSw); go_simp) <;> (try with_reducible rfl)
            try simp only [Act.put, List.setIfInBounds_toArray, List.set_cons_zero, List.set_cons_succ]
            refine wpAnyL_take 5 (v := ?_) rfl (by kernel_rfl) (by kernel_rfl) (by kernel_rfl) (by kernel_rfl) (fun _ _ _ h => h) (Or.inl ⟨by rfl, ?_⟩) hSd ?_
            rotate_left
            · (intro w hSw; (try dsimp only at hSw); go_simp) <;> (try with_reducible rfl)
            try simp only [Act.put, List.setIfInBounds_toArray, List.set_cons_zero, List.set_cons_succ]
            refine wpAnyL_take 6 (v := ?_) rfl (by kernel_rfl) (by kernel_rfl) (by kernel_rfl) (by kernel_rfl) (fun _ _ _ h => h) (Or.inl ⟨by rfl, ?_⟩) hSd ?_
            rotate_left
            · (intro w hSw; (try dsimp only at hSw); go_simp) <;> (try with_reducible rfl)
            try simp only [Act.put, List.setIfInBounds_toArray, List.set_cons_zero, List.set_cons_succ]
            refine wpAnyL_take 7 (v := ?_) rfl (by kernel_rfl) (by kernel_rfl) (by kernel_rfl) (by kernel_rfl) (fun _ _ _ h => h) (Or.inl ⟨by rfl, ?_⟩) hSd ?_
            rotate_left
            · (intro w hSw; (try dsimp only at hSw); go_simp) <;> (try with_reducible rfl)
            try simp only [Act.put, List.setIfInBounds_toArray, List.set_cons_zero, List.set_cons_succ]
            refine wpAnyL_take 8 (v := ?_) rfl (by kernel_rfl) (by kernel_rfl) (by kernel_rfl) (by kernel_rfl) (fun _ _ _ h => h) (Or.inl ⟨by rfl, ?_⟩) hSd ?_
            rotate_left
            · (intro w hSw; (try dsimp only at hSw); go_simp) <;> (try with_reducible rfl)
            try simp only [Act.put, List.setIfInBounds_toArray, List.set_cons_zero, List.set_cons_succ]
            refine wpAnyL_take 9 (v := ?_) rfl (by kernel_rfl) (by kernel_rfl) (by kernel_rfl) (by kernel_rfl) (fun _ _ _ h => h) (Or.inl ⟨by rfl, ?_⟩) hSd ?_
            rotate_left
            · (intro w hSw; (try dsimp only at hSw); go_simp) <;> (try with_reducible rfl)
            try simp only [Act.put, List.setIfInBounds_toArray, List.set_cons_zero, List.set_cons_succ]
            refine wpAnyL_take 10 (v := ?_) rfl (by kernel_rfl) (by kernel_rfl) (by kernel_rfl) (by kernel_rfl) (fun _ _ _ h => h) (Or.inl ⟨by rfl, ?_⟩) hSd ?_
            rotate_left
            · (intro w hSw; (try dsimp only at hSw); go_simp) <;> (try with_reducible rfl)
            try simp only [Act.put, List.setIfInBounds_toArray, List.set_cons_zero, List.set_cons_succ]
            refine wpAnyL_take 11 (v := ?_) rfl (by kernel_rfl) (by kernel_rfl) (by kernel_rfl) (by kernel_rfl) (fun _ _ _ h => h) (Or.inl ⟨by rfl, ?_⟩) hSd ?_
            rotate_left
            · (intro w hSw; (try dsimp only at hSw); go_simp) <;> (try with_reducible rfl)
            try simp only [Act.put, List.setIfInBounds_toArray, List.set_cons_zero, List.set_cons_succ]
            refine wpAnyL_take 12 (v := ?_) rfl (by kernel_rfl) (by kernel_rfl) (by kernel_rfl) (by kernel_rfl) (fun _ _ _ h => h) (Or.inl ⟨by rfl, ?_⟩) hSd ?_
            rotate_left
            · (intro w hSw; (try dsimp only at hSw); go_simp) <;> (try with_reducible rfl)
            try simp only [Act.put, List.setIfInBounds_toArray, List.set_cons_zero, List.set_cons_succ]
            refine wpAnyL_take 13 (v := ?_) rfl (by kernel_rfl) (by kernel_rfl) (by kernel_rfl) (by kernel_rfl) (fun _ _ _ h => h) (Or.inl ⟨by rfl, ?_⟩) hSd ?_
            rotate_left
            · (intro w hSw; (try dsimp only at hSw); go_simp) <;> (try with_reducible rfl)
            try simp only [Act.put, List.setIfInBounds_toArray, List.set_cons_zero, List.set_cons_succ]
            refine wpAnyL_take 14 (v := ?_) rfl (by kernel_rfl) (by kernel_rfl) (by kernel_rfl) (by kernel_rfl) (fun _ _ _ h => h) (Or.inl ⟨by rfl, ?_⟩) hSd ?_
            rotate_left
            · (intro w hSw; (try dsimp only at hSw); go_simp) <;> (try with_reducible rfl)
            try simp only [Act.put, List.setIfInBounds_toArray, List.set_cons_zero, List.set_cons_succ]
            refine wpAnyL_one 15 (by kernel_rfl) rfl (fun K hK => ?_)
            go_simp
            refine hK.out _ _ (fun _ => hS1) ?_
            clear hK K
            try simp only [Act.put, List.setIfInBounds_toArray, List.set_cons_zero, List.set_cons_succ]
            refine wpAnyL_one 16 (by kernel_rfl) rfl (fun K hK => ?_)
            refine step_append_run (by rfl) (.tmp 60) (.tmp 74) 24 (by rfl) (by rfl) (by rfl) Hr.out ?_
            refine hK.out _ _ (fun _ => hS2) ?_
            clear hK K
            try simp only [Act.put, List.setIfInBounds_toArray, List.set_cons_zero, List.set_cons_succ]
            refine wpAnyL_take 17 (v := ?_) rfl (by kernel_rfl) (by kernel_rfl) (by kernel_rfl) (by kernel_rfl) (fun _ _ _ h => h) (Or.inl ⟨by rfl, ?_⟩) hS2 ?_
            rotate_left
            · (intro w hSw; (try dsimp only at hSw); go_simp) <;> (try with_reducible rfl)
            try simp only [Act.put, List.setIfInBounds_toArray, List.set_cons_zero, List.set_cons_succ]
            refine wpAnyL_one 18 (by kernel_rfl) rfl (fun K hK => ?_)
            go_simp
            refine hK.out _ _ (fun h => absurd h (not_rem (by kernel_rfl))) ?_
            clear hK K
            try simp only [Act.put, List.setIfInBounds_toArray, List.set_cons_zero, List.set_cons_succ]
            refine wpAnyL_done (by kernel_rfl) ?_ _
            all_goals (
              go_wp2
              go_roundg (n - (j + 1))
              case measure => omega
              case rel =>
                obtain ⟨s1, s2, s3, s4, s5, s6, s7, s8⟩ := hst.out
                exact ⟨j + 1, a', n', c', by go_num, by omega, Lib.hid s1, s2, s3, s4, s5, s6, Lib.hid s7, Lib.hid s8⟩)
          · have HN := Lib.hid (show New (RowA 59) (w.heap.size + 1 + 1 + 1 + 1) w1 (.slice ya yn yc) (trimA bs (xs.take (j + 1))) from by rw [HKn.out, if_neg (by simpa using hdd)]; exact hnew.out)
            have MB := Lib.hid mB
            clear HKn HR hnew hbel hb1
            cases d0
            · clear hdd
              go_wp2
              go_roundg (n - (j + 1))
              case measure => omega
              case rel => exact ⟨j + 1, ya, yn, yc, by go_num, by omega, hc, o0, o1, o2, f2, MB.out, HN, HB1⟩
            · cases d1
              · clear hdd
                go_wp2
                go_roundg (n - (j + 1))
                case measure => omega
                case rel => exact ⟨j + 1, ya, yn, yc, by go_num, by omega, hc, o0, o1, o2, f2, MB.out, HN, HB1⟩
              · exact absurd ⟨rfl, rfl⟩ hdd
        · obtain rfl : j = n := by omega
          have HR := Lib.hid (show New (RowA 59) (w.heap.size + 1 + 1 + 1 + 1) wk (.slice ya yn yc) (trimA bs xs) from by have h := hnew.out; rw [List.take_of_length_le (by have := Hn.out; omega)] at h; exact h)
          have r0 := (hbel.out.cell (p := ⟨w.heap.size + 1, 0, none⟩) (show w.heap.size + 1 < w.heap.size + 1 + 1 by omega)).trans R0.out
          have r1 := (hbel.out.cell (p := ⟨w.heap.size + 1, 1, none⟩) (show w.heap.size + 1 < w.heap.size + 1 + 1 by omega)).trans R1.out
          have r2 := (hbel.out.cell (p := ⟨w.heap.size + 1, 2, none⟩) (show w.heap.size + 1 < w.heap.size + 1 + 1 by omega)).trans R2.out
          have t0 := (hbel.out.frozen (p := ⟨w.heap.size + 1, 0, none⟩) (show w.heap.size + 1 < w.heap.size + 1 + 1 by omega)).trans F0.out
          have t1 := (hbel.out.frozen (p := ⟨w.heap.size + 1, 1, none⟩) (show w.heap.size + 1 < w.heap.size + 1 + 1 by omega)).trans F1.out
          have t2 := (hbel.out.frozen (p := ⟨w.heap.size + 1, 2, none⟩) (show w.heap.size + 1 < w.heap.size + 1 + 1 by omega)).trans F2.out
          have HB := Lib.hid (HA.out.trans (hbel.out.mono (by omega)))
          clear hnew hbel hc hcell
          go_wp2
          have s0 := World.cell?_setCell_same _ _ (.int .i64 L) r0
          have u1 := (World.cell?_setCell_other _ ⟨w.heap.size + 1, 0, none⟩ _ (.int .i64 L) (by simp)).trans r1
          have s1 := World.cell?_setCell_same _ _ (.int .i64 (ct : Int)) u1
          have u2 := (World.cell?_setCell_other _ ⟨w.heap.size + 1, 1, none⟩ _ (.int .i64 (ct : Int)) (by simp)).trans ((World.cell?_setCell_other _ ⟨w.heap.size + 1, 0, none⟩ _ (.int .i64 L) (by simp)).trans r2)
          have s2 := World.cell?_setCell_same _ _ (.slice ya yn yc) u2
          refine bodyPost_ret (v := .agg #[.int .i64 L, .int .i64 (ct : Int), .slice ya yn yc]) (by simp [results, Try.results59, go_sem, s0, s1, s2]) rfl ?_
          refine ⟨_, rfl, ?_, (((HB.out.setCell (p := ⟨w.heap.size + 1, 0, none⟩) (by simp) _).setCell (p := ⟨w.heap.size + 1, 1, none⟩) (by simp) _).setCell (p := ⟨w.heap.size + 1, 2, none⟩) (by simp) _)⟩
          have hk := New.storeLow RowG.held (New.storeLow RowG.held (New.storeLow RowG.held HR.out (show (⟨w.heap.size + 1, 0, none⟩ : Addr).block < _ by simp <;> omega) (.int .i64 L)) (show (⟨w.heap.size + 1, 1, none⟩ : Addr).block < _ by simp <;> omega) (.int .i64 (ct : Int))) (show (⟨w.heap.size + 1, 2, none⟩ : Addr).block < _ by simp <;> omega) (.slice ya yn yc)
          obtain ⟨F, hF, hFn, hFg⟩ := hk
          exact ⟨F, ⟨_, by unfold keepV; rw [Hct.out], RowG.arcs hF⟩, hFn, fun b hb => by have := hFg b hb; omega⟩
end Go.Proofs.Ytcilgihmaaobeaa
end
