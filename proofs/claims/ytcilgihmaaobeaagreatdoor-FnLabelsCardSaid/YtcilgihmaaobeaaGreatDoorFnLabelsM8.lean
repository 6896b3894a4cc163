/-
  Laws for this claim's walks, contracts of the functions that it reaches.
-/
import Derived.Test.YtcilgihmaaobeaaGreatDoorFnLabelsM7
set_option linter.unusedVariables false
set_option linter.unusedSimpArgs false
section
namespace Go.Proofs.YtcilgihmaaobeaaGreatDoor
open Go.RowKit Go.Deep Go.Sd

def fillT (n k : Nat) : List Bool := List.replicate k true ++ List.replicate (n - k) false
theorem fillT_at {n k : Nat} (h : k < n) : (fillT n k)[k]? = some false := by
  unfold fillT
  rw [List.getElem?_append_right (by simp), List.getElem?_replicate, if_pos (by simp; omega)]
theorem fillT_set {n k : Nat} (h : k < n) : (fillT n k).set k true = fillT n (k + 1) := by
  unfold fillT
  rw [List.set_append_right _ _ (by simp), show n - k = (n - (k + 1)) + 1 from by omega, List.replicate_succ, List.replicate_succ']
  simp
/-- One of the first k places of l has it. -/
def anyN (l : List Bool) (f : Nat → Bool) : Nat → Bool
  | 0 => false
  | k + 1 => anyN l f k || (l.getD k false && f k)
theorem anyN_iff {l : List Bool} {f : Nat → Bool} : ∀ {k : Nat}, anyN l f k = true ↔ ∃ j, j < k ∧ On l j ∧ f j = true
  | 0 => by simp [anyN]
  | k + 1 => by
    unfold anyN
    rw [Bool.or_eq_true, Bool.and_eq_true, anyN_iff (k := k)]
    have hg : l.getD k false = true ↔ On l k := by
      unfold On
      rw [List.getD_eq_getElem?_getD]
      cases h : l[k]? <;> simp
    rw [hg]
    constructor
    · rintro (⟨j, hj, h⟩ | h)
      · exact ⟨j, by omega, h⟩
      · exact ⟨k, by omega, h⟩
    · rintro ⟨j, hj, h⟩
      by_cases e : j = k
      · subst e; exact .inr h
      · exact .inl ⟨j, by omega, h⟩
def entP (m : List (List Int)) (i j : Nat) : Bool := decide (0 < ent m i j)
def EntP (m : List (List Int)) (i j : Nat) : Prop := entP m i j = true
theorem both_iff {m : List (List Int)} {l : List Bool} {n i : Nat} (hl : l.length = n) : Both (EntP m) l i ↔ anyN l (entP m i) n = true ∧ anyN l (fun j => entP m j i) n = true := by
  rw [anyN_iff, anyN_iff]
  constructor
  · rintro ⟨⟨j, hj, he⟩, k, hk, hf⟩
    exact ⟨⟨j, by rw [← hl]; exact hj.lt, hj, he⟩, k, by rw [← hl]; exact hk.lt, hk, hf⟩
  · rintro ⟨⟨j, _, hj, he⟩, k, _, hk, hf⟩
    exact ⟨⟨j, hj, he⟩, k, hk, hf⟩
set_option maxHeartbeats 4000000 in
set_option maxRecDepth 10000 in
theorem l5Live_c {w : World} {v : Value} {m : List (List Int)} {n : Nat} (h : Tab w v m) (hsq : Sq n m) (hn0 : 0 < n) (hn : n ≤ 16) :
    Calls Tryz.prog 79 #[v] w (Makes (OwnOf 4 (OValR Value.bool)) w (liveL (EntP m) n)) := by
  obtain ⟨ab, ao, ac, rfl, hab, hae⟩ := h.entAt hsq.1 hsq.2 hn0
  clear h hsq
  have hmk := run_make_row' (P := Tryz.prog) 69 4 (.bool false) 1 Tryz.underlying69 infoB rfl .i64 .i64 n (by omega) (by omega)
  go_enter Tryz.func79, Tryz.ntmps79
  go_wp2
  go_loopg [4] n (fun g i wr => ∃ (k : Nat), i = .int .i64 k ∧ k + g = n ∧ Hid (New (OwnOf 4 (OValR Value.bool)) w.heap.size wr (.slice (some ⟨w.heap.size, 0, none⟩) n n) (fillT n k)) ∧ Hid (Below w.heap.size w wr))
  case atStart => exact ⟨0, rfl, by omega, Lib.hid (New.made 4 w (.bool false) false n (Nat.le_refl _) (by omega) (fun _ => ⟨rfl, rfl⟩)), Lib.hid ((Below.refl _ _).alloc (Nat.le_refl _) _)⟩
  case round =>
    obtain ⟨k, rfl, hk, hnew, hbel⟩ := hrel
    clear hmk
    by_cases hlt : k < n
    · obtain ⟨b', c', hv, _, _, hblt, hcl, hfr, hst⟩ := hnew.out.val_at (fun _ => rfl) (fillT_at hlt)
      obtain rfl : b' = w.heap.size := by simp at hv; exact hv.1.symm
      have Hst := Lib.hid (by have := hst true; rw [fillT_set hlt] at this; exact this)
      have Hb := Lib.hid (hbel.out.setCell (p := ⟨w.heap.size, k, none⟩) (Nat.le_refl _) (.bool true))
      have hkI : (k : Int) < (n : Int) := Int.ofNat_lt.2 hlt
      clear hv hst hnew hbel hae
      go_wp2
      go_roundg (n - (k + 1))
      case measure => omega
      case rel => exact ⟨k + 1, by go_num, by omega, Hst, Hb⟩
    · obtain rfl : k = n := by omega
      have HL0 := Lib.hid (show New (OwnOf 4 (OValR Value.bool)) w.heap.size wr (.slice (some ⟨w.heap.size, 0, none⟩) k k) (List.replicate k true) from by have h := hnew.out; unfold fillT at h; simpa using h)
      have HS0 := Lib.hid (Sup.start (E := EntP m) (n := k))
      clear hnew
      go_wp2
      go_loopg [5] (k + 1) (fun g c wr => ∃ (l : List Bool) (ch : Bool) (q : Nat), c = .bool ch ∧ q = g ∧ q = (if ch = true then cntT l + 1 else 0) ∧ Hid (Sup (EntP m) k l) ∧ Hid (ch = false → l = liveL (EntP m) k) ∧ Hid (New (OwnOf 4 (OValR Value.bool)) w.heap.size wr (.slice (some ⟨w.heap.size, 0, none⟩) k k) l) ∧ Hid (Below w.heap.size w wr))
      case atStart => exact ⟨List.replicate k true, true, k + 1, rfl, rfl, by rw [cntT_replicate]; rfl, HS0, Lib.hid (fun h => by cases h), HL0, hbel⟩
      case round =>
        clear HS0 HL0 hbel
        obtain ⟨l0, ch, q, rfl, rfl, hg, hsup, hend, hnew, hbel⟩ := hrel
        cases ch with
        | false =>
          have HF := Lib.hid (show New (OwnOf 4 (OValR Value.bool)) w.heap.size wr (.slice (some ⟨w.heap.size, 0, none⟩) k k) (liveL (EntP m) k) from by have h := hnew.out; rw [hend.out rfl] at h; exact h)
          clear hg hnew hend
          go_wp2
          go_ret
          exact ⟨_, rfl, HF.out, hbel.out⟩
        | true =>
          have hg' : q = cntT l0 + 1 := hg
          have HP0 := Lib.hid (Pas.start (E := EntP m) (n := k) hsup.out)
          clear hg hend
          go_wp2
          go_loopg [5, 6] k (fun g2 c i wr => ∃ (i' : Nat) (l : List Bool) (ch : Bool), c = .bool ch ∧ i = .int .i64 i' ∧ i' + g2 = k ∧ Hid (Pas (EntP m) k l0 i' l ch) ∧ Hid (New (OwnOf 4 (OValR Value.bool)) w.heap.size wr (.slice (some ⟨w.heap.size, 0, none⟩) k k) l) ∧ Hid (Below w.heap.size w wr))
          case atStart => exact ⟨0, l0, false, rfl, rfl, by omega, HP0, hnew, hbel⟩
          case round =>
            clear HP0 hnew hbel
            obtain ⟨i, l, ch, rfl, rfl, hi, hpas, hnew, hbel⟩ := hrel
            by_cases hlti : i < k
            · have hiI : (i : Int) < (k : Int) := Int.ofNat_lt.2 hlti
              have hll : l.length = k := hpas.out.1.1
              obtain ⟨wi, rfl⟩ : ∃ x, x = wr := ⟨_, rfl⟩
              have HA0 := Lib.hid (show anyN l (entP m i) 0 = false ∧ anyN l (fun j => entP m j i) 0 = false from ⟨rfl, rfl⟩)
              go_wp2
              go_loopg [7, 8, 9] k (fun g3 fv tv j wr => ∃ (j' : Nat) (f t : Bool), fv = .bool f ∧ tv = .bool t ∧ j = .int .i64 j' ∧ j' + g3 = k ∧ Hid (anyN l (entP m i) j' = f ∧ anyN l (fun j => entP m j i) j' = t) ∧ wi = wr)
              case atStart => exact ⟨0, false, false, rfl, rfl, rfl, by omega, HA0, rfl⟩
              case round =>
                clear HA0
                obtain ⟨j, f, t, rfl, rfl, rfl, hj, HA, rfl⟩ := hrel
                by_cases hltj : j < k
                · have hjI : (j : Int) < (k : Int) := Int.ofNat_lt.2 hltj
                  have hae1 := hae.frame hab hbel.out
                  obtain ⟨rb, ro, rc, hA1, _, _, hA2⟩ := hae1.at hlti hn0
                  obtain ⟨zb, zo, zc, hB1, _, _, hB2⟩ := hae1.at hltj hn0
                  have hA3 := hA2 j hltj
                  have hB3 := hB2 i hlti
                  have hlj : l[j]? = some (l[j]'(by omega)) := List.getElem?_eq_getElem (by omega)
                  obtain ⟨b', c', hv, _, _, hblt, hcl, hfr, _⟩ := hnew.out.val_at (fun _ => rfl) hlj
                  obtain rfl : b' = w.heap.size := by simp at hv; exact hv.1.symm
                  have HA1 := Lib.hid (show anyN l (entP m i) (j + 1) = (f || (l[j]'(by omega) && decide (0 < ent m i j))) ∧ anyN l (fun j => entP m j i) (j + 1) = (t || (l[j]'(by omega) && decide (0 < ent m j i))) from by
                    unfold anyN
                    rw [HA.out.1, HA.out.2, List.getD_eq_getElem?_getD, hlj]
                    exact ⟨rfl, rfl⟩)
                  generalize l[j]'(by omega) = lj at *
                  generalize ent m i j = X at *
                  generalize ent m j i = Y at *
                  generalize hda : decide (0 < X) = da at *
                  generalize hdb : decide (0 < Y) = db at *
                  clear hae1 hA2 hB2 hv hlj HA
                  cases f <;> cases t <;> cases lj <;> cases da <;> cases db <;> (go_wp2; go_roundg (k - (j + 1)); (case measure => omega); (case rel => exact ⟨j + 1, _, _, rfl, rfl, by go_num, by omega, HA1, rfl⟩))
                · obtain rfl : j = k := by omega
                  have hbi := both_iff (m := m) (i := i) hll
                  rw [HA.out.1, HA.out.2] at hbi
                  have hli : l[i]? = some (l[i]'(by omega)) := List.getElem?_eq_getElem (by omega)
                  obtain ⟨b', c', hv, _, _, hblt, hcl, hfr, hst⟩ := hnew.out.val_at (fun _ => rfl) hli
                  obtain rfl : b' = w.heap.size := by simp at hv; exact hv.1.symm
                  have Hst := Lib.hid (hst false)
                  have Hbs := Lib.hid (hbel.out.setCell (p := ⟨w.heap.size, i, none⟩) (Nat.le_refl _) (.bool false))
                  have hon : On l i ↔ l[i]'(by omega) = true := by unfold On; rw [hli]; simp
                  generalize l[i]'(by omega) = li at *
                  have HK := Lib.hid (fun (hk : li = true → f = true ∧ t = true) => hpas.out.keep (fun h => hbi.2 (hk (hon.1 h))))
                  have HU := Lib.hid (fun (h1 : li = true) (h2 : ¬ (f = true ∧ t = true)) => hpas.out.unset (hon.2 h1) (fun h => h2 (hbi.1 h)))
                  clear hbi hli hv hst hon HA hae hpas
                  cases li with
                  | false =>
                    have R := Lib.hid (HK.out (fun h => by cases h))
                    clear HK HU Hst Hbs
                    go_wp2
                    go_roundg (j - (i + 1))
                    case measure => omega
                    case rel => exact ⟨i + 1, l, ch, rfl, by go_num, by omega, R, hnew, hbel⟩
                  | true =>
                    by_cases hft : f = true ∧ t = true
                    · obtain ⟨rfl, rfl⟩ := hft
                      have R := Lib.hid (HK.out (fun _ => ⟨rfl, rfl⟩))
                      clear HK HU Hst Hbs
                      go_wp2
                      go_roundg (j - (i + 1))
                      case measure => omega
                      case rel => exact ⟨i + 1, l, ch, rfl, by go_num, by omega, R, hnew, hbel⟩
                    · have R := Lib.hid (HU.out rfl hft)
                      clear HK HU
                      cases f with
                      | false =>
                        clear hft
                        go_wp2
                        go_roundg (j - (i + 1))
                        case measure => omega
                        case rel => exact ⟨i + 1, l.set i false, true, rfl, by go_num, by omega, R, Hst, Hbs⟩
                      | true =>
                        cases t with
                        | true => exact absurd ⟨rfl, rfl⟩ hft
                        | false =>
                          clear hft
                          go_wp2
                          go_roundg (j - (i + 1))
                          case measure => omega
                          case rel => exact ⟨i + 1, l.set i false, true, rfl, by go_num, by omega, R, Hst, Hbs⟩
            · obtain rfl : i = k := by omega
              have HS := Lib.hid hpas.out.1
              cases ch with
              | false =>
                have HE := Lib.hid (show l = liveL (EntP m) i from hpas.out.end)
                clear hpas
                go_wp2
                go_roundg 0
                case measure => omega
                case rel => exact ⟨l, false, 0, rfl, rfl, rfl, HS, Lib.hid (fun _ => HE.out), hnew, hbel⟩
              | true =>
                have hless := hpas.out.less.2
                clear hpas
                go_wp2
                go_roundg (cntT l + 1)
                case measure => omega
                case rel => exact ⟨l, true, cntT l + 1, rfl, rfl, rfl, HS, Lib.hid (fun h => by cases h), hnew, hbel⟩
end Go.Proofs.YtcilgihmaaobeaaGreatDoor
end
