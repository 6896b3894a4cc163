/-
  Laws for this claim's walks, contracts of the functions that it reaches.
-/
import Derived.Test.YtcilgihmaaobeaaGreatDoorFnLabelsM8
import Derived.RegionTactic
import Derived.ChangeAlike
set_option linter.unusedVariables false
set_option linter.unusedSimpArgs false
section
namespace Go.Proofs.YtcilgihmaaobeaaGreatDoor
open Go.RowKit Go.Deep Go.Sd

set_option maxHeartbeats 4000000 in
set_option maxRecDepth 10000 in
theorem lively_c {w : World} {v : Value} {next : List (List Int)} {n : Nat} (h : Tab w v next) (hnx : next.length = n) (hin : ∀ r, r ∈ next → ∀ x, x ∈ r → 0 ≤ x ∧ x < (n : Int)) (hn0 : 0 < n) (hn : n ≤ 16) :
    Calls Tryz.prog 42 #[v] w (Makes (OwnOf 4 (OValR Value.bool)) w (liveL (EntN next) n)) := by
  obtain ⟨a, c, rfl, _, _, hcell⟩ := h.shape
  obtain ⟨ab, ao, rfl, hab, hx0⟩ := hcell (by omega)
  rw [hnx]
  have Hnx := Lib.hid hnx
  have Hin := Lib.hid hin
  clear h hcell hin hnx
  have hmk := fun w => run_make_row' (P := Tryz.prog) 69 4 (.bool false) 1 Tryz.underlying69 infoB rfl .i64 .i64 n (by omega) (by omega) (w := w)
  go_enter Tryz.func42, Tryz.ntmps42
  go_wp2
  go_loopg [17] n (fun g i wr => ∃ (k : Nat), i = .int .i64 k ∧ k + g = n ∧ Hid (New (OwnOf 4 (OValR Value.bool)) w.heap.size wr (.slice (some ⟨w.heap.size, 0, none⟩) n n) (fillT n k)) ∧ Hid (Below w.heap.size w wr))
  case atStart => exact ⟨0, rfl, by omega, Lib.hid (New.made 4 w (.bool false) false n (Nat.le_refl _) (by omega) (fun _ => ⟨rfl, rfl⟩)), Lib.hid ((Below.refl _ _).alloc (Nat.le_refl _) _)⟩
  case round =>
    obtain ⟨k, rfl, hk, hnew, hbel⟩ := hrel
    by_cases hlt : k < n
    · obtain ⟨b', c', hv, _, _, hblt, hcl, hfr, hst⟩ := hnew.out.val_at (fun _ => rfl) (fillT_at hlt)
      obtain rfl : b' = w.heap.size := by simp at hv; exact hv.1.symm
      have Hst := Lib.hid (by have := hst true; rw [fillT_set hlt] at this; exact this)
      have Hb := Lib.hid (hbel.out.setCell (p := ⟨w.heap.size, k, none⟩) (Nat.le_refl _) (.bool true))
      have hkI : (k : Int) < (n : Int) := Int.ofNat_lt.2 hlt
      clear hv hst hnew hbel hx0 hmk
      go_wp2
      go_roundg (n - (k + 1))
      case measure => omega
      case rel => exact ⟨k + 1, by go_num, by omega, Hst, Hb⟩
    · obtain rfl : k = n := by omega
      have HL0 := Lib.hid (show New (OwnOf 4 (OValR Value.bool)) w.heap.size wr (.slice (some ⟨w.heap.size, 0, none⟩) k k) (List.replicate k true) from by have h := hnew.out; unfold fillT at h; simpa using h)
      have HS0 := Lib.hid (Inv.start (E := EntN next) (n := k))
      clear hnew
      go_wp2
      go_loopg [26] k (fun g i wr => ∃ (r : Nat) (l : List Bool), i = .int .i64 r ∧ r + g = k ∧ Hid (Inv (EntN next) k r l) ∧ Hid (New (OwnOf 4 (OValR Value.bool)) w.heap.size wr (.slice (some ⟨w.heap.size, 0, none⟩) k k) l) ∧ Hid (Below w.heap.size w wr))
      case atStart => exact ⟨0, List.replicate k true, rfl, by omega, HS0, HL0, hbel⟩
      case round =>
        clear HS0 HL0 hbel
        obtain ⟨r, l0, rfl, hr, hinv, hnew, hbel⟩ := hrel
        obtain ⟨w0, rfl⟩ : ∃ x, x = wr := ⟨_, rfl⟩
        by_cases hltr : r < k
        · have hrI : (r : Int) < (k : Int) := Int.ofNat_lt.2 hltr
          have hbig : ∀ (bf : Nat), w0.heap.size ≤ bf → bf < w0.heap.size + 2 → Bl (((w0.alloc (.cells (madeCells #[.bool false] k) 4)).alloc (.cells (madeCells #[.bool false] k) 4)).drew) bf (List.replicate l0.length false) := by
            intro bf h1 h2
            have hl0 : l0.length = k := hinv.out.1.1
            have hm : ∀ (w1 : World), w1.heap.size ≤ w0.heap.size + 1 → Bl (w1.alloc (.cells (madeCells #[.bool false] k) 4)) w1.heap.size (List.replicate k false) := by
              intro w1 _
              have hnw := New.made (R := OValR Value.bool) 4 w1 (.bool false) false k (Nat.le_refl _) (by omega) (fun _ => ⟨rfl, rfl⟩)
              refine ⟨by simp, fun i x hx => ?_⟩
              obtain ⟨b', c', hv, _, _, _, hcl, hfr, _⟩ := hnw.val_at (fun _ => rfl) hx
              obtain rfl : b' = w1.heap.size := by simp at hv; exact hv.1.symm
              exact ⟨hcl, hfr⟩
            rw [hl0]
            by_cases e : bf = w0.heap.size
            · subst e
              have h3 := hm w0 (by omega)
              have hbb : Below (w0.heap.size + 1) (w0.alloc (.cells (madeCells #[.bool false] k) 4)) (((w0.alloc (.cells (madeCells #[.bool false] k) 4)).alloc (.cells (madeCells #[.bool false] k) 4)).drew) := ((Below.refl _ _).alloc (by simp) _).drew
              exact ⟨by simp [World.drew]; omega, fun i x hx => ⟨(hbb.cell (p := ⟨w0.heap.size, i, none⟩) (by simp)).trans (h3.2 i x hx).1, (hbb.frozen (p := ⟨w0.heap.size, i, none⟩) (by simp)).trans (h3.2 i x hx).2⟩⟩
            · obtain rfl : bf = w0.heap.size + 1 := by omega
              have h3 := hm (w0.alloc (.cells (madeCells #[.bool false] k) 4)) (by simp)
              have e2 : (w0.alloc (.cells (madeCells #[.bool false] k) 4)).heap.size = w0.heap.size + 1 := by simp
              rw [e2] at h3
              have hbb : Below (w0.heap.size + 2) ((w0.alloc (.cells (madeCells #[.bool false] k) 4)).alloc (.cells (madeCells #[.bool false] k) 4)) (((w0.alloc (.cells (madeCells #[.bool false] k) 4)).alloc (.cells (madeCells #[.bool false] k) 4)).drew) := (Below.refl _ _).drew
              exact ⟨by simp [World.drew], fun i x hx => ⟨(hbb.cell (p := ⟨w0.heap.size + 1, i, none⟩) (by simp)).trans (h3.2 i x hx).1, (hbb.frozen (p := ⟨w0.heap.size + 1, i, none⟩) (by simp)).trans (h3.2 i x hx).2⟩⟩
          have hB9 : Below w0.heap.size w0 (((w0.alloc (.cells (madeCells #[.bool false] k) 4)).alloc (.cells (madeCells #[.bool false] k) 4)).drew) := (((Below.refl _ _).alloc (Nat.le_refl _) _).alloc (by simp) _).drew
          have HB0 := Lib.hid (hbig w0.heap.size (Nat.le_refl _) (by omega))
          have HB1 := Lib.hid (hbig (w0.heap.size + 1) (by omega) (by omega))
          have HB9 := Lib.hid hB9
          clear hbig hB9
          have HN0 := Lib.hid hnew.out
          have Hl0 := Lib.hid hinv.out.1.1
          go_wp2
          go_region
          · clear hmk
            obtain ⟨bf, ebf⟩ : ∃ x, x = w0.heap.size := ⟨_, rfl⟩
            obtain ⟨bt, ebt⟩ : ∃ x, x = w0.heap.size + 1 := ⟨_, rfl⟩
            have hbf : w0.heap.size ≤ bf := by omega
            have hbt : w0.heap.size ≤ bt := by omega
            have hne : bf ≠ bt := by omega
            have hne2 : bt ≠ bf := by omega
            rw [← ebf] at HB0
            rw [← ebt] at HB1
            generalize ((w0.alloc (.cells (madeCells #[.bool false] k) 4)).alloc (.cells (madeCells #[.bool false] k) 4)).drew = w9 at *
            have HF0 := Lib.hid (show FrOk next l0 0 0 (List.replicate l0.length false) ∧ Bl w9 bf (List.replicate l0.length false) from ⟨FrOk.start, HB0.out⟩)
            have HT0 := Lib.hid (show ToOk next l0 0 0 (List.replicate l0.length false) ∧ Bl w9 bt (List.replicate l0.length false) from ⟨ToOk.start, HB1.out⟩)
            try rw [← ebt]
            try rw [← ebf]
            clear ebf ebt HB0 HB1
            go_wp2
            go_loopg [36] k (fun g iv wr => ∃ (i : Nat) (fr t : List Bool), iv = .int .i64 i ∧ i + g = k ∧ Hid (FrOk next l0 i 0 fr ∧ Bl wr bf fr) ∧ Hid (ToOk next l0 i 0 t ∧ Bl wr bt t) ∧ Hid (Below w0.heap.size w0 wr))
            case atStart => exact ⟨0, _, _, rfl, by omega, HF0, HT0, HB9⟩
            case round =>
              clear HF0 HT0 HB9
              obtain ⟨i, fr, t, rfl, hi, hfo, hto, hb0⟩ := hrel
              by_cases hlti : i < k
              · obtain ⟨row, hrow, _⟩ := at_lt (xs := next) (k := i) (by have := Hnx.out; omega)
                obtain ⟨u, hu, hru⟩ := hx0 i row hrow
                have hgd : next.getD i [] = row := by rw [List.getD_eq_getElem?_getD, hrow]; rfl
                have Hgd := Lib.hid hgd
                have Hrow := Lib.hid (Hin.out row (List.mem_of_getElem? hrow))
                have hu1 := ((hbel.out.trans (hb0.out.mono hbel.out.size)).cell (p := ⟨ab, ao + i, none⟩) hab).trans hu
                obtain ⟨ra, rc, rfl, _, _, hrc⟩ := hru.shape
                obtain ⟨m, hm⟩ : ∃ m, m = row.length := ⟨_, rfl⟩
                have Hm := Lib.hid hm
                have hm63 : m ≤ 9223372036854775807 := by omega
                rw [← hm] at hrc hu1
                have hiI : (i : Int) < (k : Int) := Int.ofNat_lt.2 hlti
                clear hu hru hrow hgd hm
                go_wp2
                go_loopg [43] m (fun g cv wr => ∃ (c : Nat) (fr t : List Bool), cv = .int .i64 c ∧ c + g = m ∧ Hid (FrOk next l0 i c fr ∧ Bl wr bf fr) ∧ Hid (ToOk next l0 i c t ∧ Bl wr bt t) ∧ Hid (Below w0.heap.size w0 wr))
                case atStart => exact ⟨0, fr, t, rfl, by omega, hfo, hto, hb0⟩
                case round =>
                  clear hfo hto hb0 hu1
                  obtain ⟨c, fr, t, rfl, hc, hfo, hto, hb0⟩ := hrel
                  by_cases hltc : c < m
                  · obtain ⟨b, o, rfl, hb, hr0⟩ := hrc (by omega)
                    obtain ⟨y, hy, _⟩ := at_lt (xs := row) (k := c) (by have := Hm.out; omega)
                    obtain ⟨u, hu2, hux⟩ := hr0 c y hy
                    obtain rfl : u = .int .i64 y := hux
                    obtain ⟨hy0, hy1⟩ := Hrow.out y (List.mem_of_getElem? hy)
                    obtain ⟨yn, rfl⟩ := Int.eq_ofNat_of_zero_le hy0
                    have hyn : yn < k := by omega
                    have Hy := Lib.hid (show (next.getD i [])[c]? = some (yn : Int) from by rw [Hgd.out]; exact hy)
                    have hc1 := ((hbel.out.trans (hb0.out.mono hbel.out.size)).cell (p := ⟨b, o + c, none⟩) hb).trans hu2
                    have hll := Hl0.out
                    have hli : l0[i]? = some (l0[i]'(by omega)) := List.getElem?_eq_getElem (by omega)
                    have hly : l0[yn]? = some (l0[yn]'(by omega)) := List.getElem?_eq_getElem (by omega)
                    obtain ⟨b1, _, hv, _, _, hbl1, hcl1, _, _⟩ := HN0.out.val_at (fun _ => rfl) hli
                    obtain rfl : b1 = w.heap.size := by simp at hv; exact hv.1.symm
                    obtain ⟨b2, _, hv2, _, _, _, hcl2, _, _⟩ := HN0.out.val_at (fun _ => rfl) hly
                    obtain rfl : b2 = w.heap.size := by simp at hv2; exact hv2.1.symm
                    replace hcl1 := (hb0.out.cell (p := ⟨w.heap.size, i, none⟩) hbl1).trans hcl1
                    replace hcl2 := (hb0.out.cell (p := ⟨w.heap.size, yn, none⟩) hbl1).trans hcl2
                    have hoi : On l0 i ↔ l0[i]'(by omega) = true := by unfold On; rw [hli]; simp
                    have hoy : On l0 yn ↔ l0[yn]'(by omega) = true := by unfold On; rw [hly]; simp
                    generalize l0[i]'(by omega) = li at *
                    generalize l0[yn]'(by omega) = ly at *
                    have hcm : (c : Int) < (m : Int) := Int.ofNat_lt.2 hltc
                    have hiF : i < fr.length := by rw [hfo.out.1.1]; omega
                    have hyT : yn < t.length := by rw [hto.out.1.1]; omega
                    have HSK := Lib.hid (fun (h : ¬ (li = true ∧ ly = true)) => And.intro (hfo.out.1.skip Hy.out (fun ⟨p1, p2⟩ => h ⟨hoi.1 p1, hoy.1 p2⟩)) (hto.out.1.skip Hy.out (fun ⟨p1, p2⟩ => h ⟨hoi.1 p1, hoy.1 p2⟩)))
                    have HTK := Lib.hid (fun (h1 : li = true) (h2 : ly = true) => And.intro (hfo.out.1.take Hy.out (hoi.2 h1) (hoy.2 h2)) (hto.out.1.take Hy.out (hoi.2 h1) (hoy.2 h2)))
                    have fA := hfo.out.2.2 i _ (List.getElem?_eq_getElem hiF)
                    have tA := hto.out.2.2 yn _ (List.getElem?_eq_getElem hyT)
                    have HBF := Lib.hid (((hfo.out.2.set hiF true).other (i := yn) hne2 (.bool true)))
                    have HBT := Lib.hid ((hto.out.2.other (i := i) hne (.bool true)).set hyT true)
                    have HBW := Lib.hid ((hb0.out.setCell (p := ⟨bf, i, none⟩) hbf (.bool true)).setCell (p := ⟨bt, yn, none⟩) hbt (.bool true))
                    obtain ⟨fA1, fA2⟩ := fA
                    obtain ⟨tA1, tA2⟩ := tA
                    have hiF' : bf < wr.heap.size := hfo.out.2.1
                    have hbF := Lib.hid hfo.out.2
                    have hbT := Lib.hid hto.out.2
                    generalize fr[i] = x1 at *
                    generalize t[yn] = x2 at *
                    clear hy hr0 hu2 hli hly hv hv2 hoi hoy hy0 hy1 Hy hfo hto hx0
                    cases li with
                    | false =>
                      have R := Lib.hid (HSK.out (by simp))
                      clear HSK HTK HBF HBT HBW fA1 fA2 tA1 tA2
                      go_wp2
                      go_roundg (m - (c + 1))
                      case measure => omega
                      case rel => exact ⟨c + 1, fr, t, by go_num, by omega, Lib.hid ⟨R.out.1, hbF.out⟩, Lib.hid ⟨R.out.2, hbT.out⟩, hb0⟩
                    | true =>
                      cases ly with
                      | false =>
                        have R := Lib.hid (HSK.out (by simp))
                        clear HSK HTK HBF HBT HBW fA1 fA2 tA1 tA2
                        go_wp2
                        go_roundg (m - (c + 1))
                        case measure => omega
                        case rel => exact ⟨c + 1, fr, t, by go_num, by omega, Lib.hid ⟨R.out.1, hbF.out⟩, Lib.hid ⟨R.out.2, hbT.out⟩, hb0⟩
                      | true =>
                        have R := Lib.hid (HTK.out rfl rfl)
                        clear HSK HTK hbF hbT
                        go_wp2
                        go_roundg (m - (c + 1))
                        case measure => omega
                        case rel => exact ⟨c + 1, fr.set i true, t.set yn true, by go_num, by omega, Lib.hid ⟨R.out.1, HBF.out⟩, Lib.hid ⟨R.out.2, HBT.out⟩, HBW⟩
                  · have R1 := Lib.hid (And.intro (hfo.out.1.row (by rw [Hgd.out, ← Hm.out]; omega)) hfo.out.2)
                    have R2 := Lib.hid (And.intro (hto.out.1.row (by rw [Hgd.out, ← Hm.out]; omega)) hto.out.2)
                    clear hfo hto hrc
                    go_wp2
                    go_roundg (k - (i + 1))
                    case measure => omega
                    case rel => exact ⟨i + 1, fr, t, by go_num, by omega, R1, R2, hb0⟩
              · obtain rfl : i = k := by omega
                have HBF := Lib.hid hfo.out.2
                have HBT := Lib.hid hto.out.2
                have HFO := Lib.hid hfo.out.1
                have HTO := Lib.hid hto.out.1
                have HR0 := Lib.hid (Ren.start (l0 := l0) (fr := fr) (t := t))
                have HNr := Lib.hid (New.keep (OwnOf.kept (OVal.kept (fun _ => rfl))) HN0.out hb0.out (Nat.le_refl _))
                have HBr := Lib.hid (hbel.out.trans (hb0.out.mono hbel.out.size))
                have hz0 := hb0.out.size
                have hwlt : w.heap.size < w0.heap.size := by
                  have hli : l0[0]? = some (l0[0]'(by have := Hl0.out; omega)) := List.getElem?_eq_getElem (by have := Hl0.out; omega)
                  obtain ⟨b1, _, hv, _, _, hbl1, _⟩ := HN0.out.val_at (fun _ => rfl) hli
                  obtain rfl : b1 = w.heap.size := by simp at hv; exact hv.1.symm
                  exact hbl1
                have hwf : w.heap.size ≠ bf := by omega
                have hwt : w.heap.size ≠ bt := by omega
                clear hfo hto hnew hbel hb0 HN0
                go_wp2
                go_loopg [67] i (fun g jv wr => ∃ (j : Nat) (l : List Bool), jv = .int .i64 j ∧ j + g = i ∧ Hid (Ren l0 fr t j l) ∧ Hid (New (OwnOf 4 (OValR Value.bool)) w.heap.size wr (.slice (some ⟨w.heap.size, 0, none⟩) i i) l) ∧ Hid (Bl wr bf fr) ∧ Hid (Bl wr bt t) ∧ Hid (Below w.heap.size w wr))
                case atStart => exact ⟨0, l0, rfl, by omega, HR0, HNr, HBF, HBT, HBr⟩
                case round =>
                  clear HR0 HNr HBF HBT HBr
                  obtain ⟨j, l, rfl, hj, hren, hnl, hbf2, hbt2, hbr⟩ := hrel
                  by_cases hltj : j < i
                  · have hjI : (j : Int) < (i : Int) := Int.ofNat_lt.2 hltj
                    have hll := Hl0.out
                    have e1 := hren.out.1
                    have e2 := HFO.out.1
                    have e3 := HTO.out.1
                    have hlj : l[j]? = some (l[j]'(by omega)) := List.getElem?_eq_getElem (by omega)
                    have hfj : fr[j]? = some (fr[j]'(by omega)) := List.getElem?_eq_getElem (by omega)
                    have htj : t[j]? = some (t[j]'(by omega)) := List.getElem?_eq_getElem (by omega)
                    obtain ⟨b1, _, hv, _, _, hbl1, hcl1, hfr1, hst⟩ := hnl.out.val_at (fun _ => rfl) hlj
                    obtain rfl : b1 = w.heap.size := by simp at hv; exact hv.1.symm
                    obtain ⟨fA1, fA2⟩ := hbf2.out.2 j _ hfj
                    obtain ⟨tA1, tA2⟩ := hbt2.out.2 j _ htj
                    have R1 := Lib.hid (hren.out.step hlj hfj htj)
                    generalize l[j]'(by omega) = x1 at *
                    generalize fr[j]'(by omega) = x2 at *
                    generalize t[j]'(by omega) = x3 at *
                    have R2 := Lib.hid (hst (x1 && x2 && x3))
                    have R3 := Lib.hid (hbf2.out.other (i := j) hwf (.bool (x1 && x2 && x3)))
                    have R4 := Lib.hid (hbt2.out.other (i := j) hwt (.bool (x1 && x2 && x3)))
                    have R5 := Lib.hid (hbr.out.setCell (p := ⟨w.heap.size, j, none⟩) (Nat.le_refl _) (.bool (x1 && x2 && x3)))
                    clear hlj hfj htj hv hst hren hnl hbf2 hbt2 hbr e1 e2 e3
                    cases x1 <;> cases x2 <;> cases x3 <;> (go_wp2; go_roundg (i - (j + 1)); (case measure => omega); (case rel => exact ⟨j + 1, _, by go_num, by omega, R1, R2, R3, R4, R5⟩))
                  · obtain rfl : j = i := by omega
                    have R1 := Lib.hid (hinv.out.step (hren.out.rnd Hl0.out (by rw [Hnx.out]; exact Nat.le_refl _) HFO.out HTO.out))
                    clear hren hinv hbf2 hbt2 HFO HTO
                    go_wp2
                    go_roundg (j - (r + 1))
                    case measure => omega
                    case rel => exact ⟨r + 1, l, by go_num, by omega, R1, hnl, hbr⟩
          · clear hmk
            obtain ⟨bf, ebf⟩ : ∃ x, x = w0.heap.size + 1 := ⟨_, rfl⟩
            obtain ⟨bt, ebt⟩ : ∃ x, x = w0.heap.size := ⟨_, rfl⟩
            have hbf : w0.heap.size ≤ bf := by omega
            have hbt : w0.heap.size ≤ bt := by omega
            have hne : bf ≠ bt := by omega
            have hne2 : bt ≠ bf := by omega
            rw [← ebf] at HB1
            rw [← ebt] at HB0
            generalize ((w0.alloc (.cells (madeCells #[.bool false] k) 4)).alloc (.cells (madeCells #[.bool false] k) 4)).drew = w9 at *
            have HF0 := Lib.hid (show FrOk next l0 0 0 (List.replicate l0.length false) ∧ Bl w9 bf (List.replicate l0.length false) from ⟨FrOk.start, HB1.out⟩)
            have HT0 := Lib.hid (show ToOk next l0 0 0 (List.replicate l0.length false) ∧ Bl w9 bt (List.replicate l0.length false) from ⟨ToOk.start, HB0.out⟩)
            try rw [← ebf]
            try rw [← ebt]
            clear ebf ebt HB0 HB1
            go_wp2
            go_loopg [36] k (fun g iv wr => ∃ (i : Nat) (fr t : List Bool), iv = .int .i64 i ∧ i + g = k ∧ Hid (FrOk next l0 i 0 fr ∧ Bl wr bf fr) ∧ Hid (ToOk next l0 i 0 t ∧ Bl wr bt t) ∧ Hid (Below w0.heap.size w0 wr))
            case atStart => exact ⟨0, _, _, rfl, by omega, HF0, HT0, HB9⟩
            case round =>
              clear HF0 HT0 HB9
              obtain ⟨i, fr, t, rfl, hi, hfo, hto, hb0⟩ := hrel
              by_cases hlti : i < k
              · obtain ⟨row, hrow, _⟩ := at_lt (xs := next) (k := i) (by have := Hnx.out; omega)
                obtain ⟨u, hu, hru⟩ := hx0 i row hrow
                have hgd : next.getD i [] = row := by rw [List.getD_eq_getElem?_getD, hrow]; rfl
                have Hgd := Lib.hid hgd
                have Hrow := Lib.hid (Hin.out row (List.mem_of_getElem? hrow))
                have hu1 := ((hbel.out.trans (hb0.out.mono hbel.out.size)).cell (p := ⟨ab, ao + i, none⟩) hab).trans hu
                obtain ⟨ra, rc, rfl, _, _, hrc⟩ := hru.shape
                obtain ⟨m, hm⟩ : ∃ m, m = row.length := ⟨_, rfl⟩
                have Hm := Lib.hid hm
                have hm63 : m ≤ 9223372036854775807 := by omega
                rw [← hm] at hrc hu1
                have hiI : (i : Int) < (k : Int) := Int.ofNat_lt.2 hlti
                clear hu hru hrow hgd hm
                go_wp2
                go_loopg [43] m (fun g cv wr => ∃ (c : Nat) (fr t : List Bool), cv = .int .i64 c ∧ c + g = m ∧ Hid (FrOk next l0 i c fr ∧ Bl wr bf fr) ∧ Hid (ToOk next l0 i c t ∧ Bl wr bt t) ∧ Hid (Below w0.heap.size w0 wr))
                case atStart => exact ⟨0, fr, t, rfl, by omega, hfo, hto, hb0⟩
                case round =>
                  clear hfo hto hb0 hu1
                  obtain ⟨c, fr, t, rfl, hc, hfo, hto, hb0⟩ := hrel
                  by_cases hltc : c < m
                  · obtain ⟨b, o, rfl, hb, hr0⟩ := hrc (by omega)
                    obtain ⟨y, hy, _⟩ := at_lt (xs := row) (k := c) (by have := Hm.out; omega)
                    obtain ⟨u, hu2, hux⟩ := hr0 c y hy
                    obtain rfl : u = .int .i64 y := hux
                    obtain ⟨hy0, hy1⟩ := Hrow.out y (List.mem_of_getElem? hy)
                    obtain ⟨yn, rfl⟩ := Int.eq_ofNat_of_zero_le hy0
                    have hyn : yn < k := by omega
                    have Hy := Lib.hid (show (next.getD i [])[c]? = some (yn : Int) from by rw [Hgd.out]; exact hy)
                    have hc1 := ((hbel.out.trans (hb0.out.mono hbel.out.size)).cell (p := ⟨b, o + c, none⟩) hb).trans hu2
                    have hll := Hl0.out
                    have hli : l0[i]? = some (l0[i]'(by omega)) := List.getElem?_eq_getElem (by omega)
                    have hly : l0[yn]? = some (l0[yn]'(by omega)) := List.getElem?_eq_getElem (by omega)
                    obtain ⟨b1, _, hv, _, _, hbl1, hcl1, _, _⟩ := HN0.out.val_at (fun _ => rfl) hli
                    obtain rfl : b1 = w.heap.size := by simp at hv; exact hv.1.symm
                    obtain ⟨b2, _, hv2, _, _, _, hcl2, _, _⟩ := HN0.out.val_at (fun _ => rfl) hly
                    obtain rfl : b2 = w.heap.size := by simp at hv2; exact hv2.1.symm
                    replace hcl1 := (hb0.out.cell (p := ⟨w.heap.size, i, none⟩) hbl1).trans hcl1
                    replace hcl2 := (hb0.out.cell (p := ⟨w.heap.size, yn, none⟩) hbl1).trans hcl2
                    have hoi : On l0 i ↔ l0[i]'(by omega) = true := by unfold On; rw [hli]; simp
                    have hoy : On l0 yn ↔ l0[yn]'(by omega) = true := by unfold On; rw [hly]; simp
                    generalize l0[i]'(by omega) = li at *
                    generalize l0[yn]'(by omega) = ly at *
                    have hcm : (c : Int) < (m : Int) := Int.ofNat_lt.2 hltc
                    have hiF : i < fr.length := by rw [hfo.out.1.1]; omega
                    have hyT : yn < t.length := by rw [hto.out.1.1]; omega
                    have HSK := Lib.hid (fun (h : ¬ (li = true ∧ ly = true)) => And.intro (hfo.out.1.skip Hy.out (fun ⟨p1, p2⟩ => h ⟨hoi.1 p1, hoy.1 p2⟩)) (hto.out.1.skip Hy.out (fun ⟨p1, p2⟩ => h ⟨hoi.1 p1, hoy.1 p2⟩)))
                    have HTK := Lib.hid (fun (h1 : li = true) (h2 : ly = true) => And.intro (hfo.out.1.take Hy.out (hoi.2 h1) (hoy.2 h2)) (hto.out.1.take Hy.out (hoi.2 h1) (hoy.2 h2)))
                    have fA := hfo.out.2.2 i _ (List.getElem?_eq_getElem hiF)
                    have tA := hto.out.2.2 yn _ (List.getElem?_eq_getElem hyT)
                    have HBF := Lib.hid (((hfo.out.2.set hiF true).other (i := yn) hne2 (.bool true)))
                    have HBT := Lib.hid ((hto.out.2.other (i := i) hne (.bool true)).set hyT true)
                    have HBW := Lib.hid ((hb0.out.setCell (p := ⟨bf, i, none⟩) hbf (.bool true)).setCell (p := ⟨bt, yn, none⟩) hbt (.bool true))
                    obtain ⟨fA1, fA2⟩ := fA
                    obtain ⟨tA1, tA2⟩ := tA
                    have hiF' : bf < wr.heap.size := hfo.out.2.1
                    have hbF := Lib.hid hfo.out.2
                    have hbT := Lib.hid hto.out.2
                    generalize fr[i] = x1 at *
                    generalize t[yn] = x2 at *
                    clear hy hr0 hu2 hli hly hv hv2 hoi hoy hy0 hy1 Hy hfo hto hx0
                    cases li with
                    | false =>
                      have R := Lib.hid (HSK.out (by simp))
                      clear HSK HTK HBF HBT HBW fA1 fA2 tA1 tA2
                      go_wp2
                      go_roundg (m - (c + 1))
                      case measure => omega
                      case rel => exact ⟨c + 1, fr, t, by go_num, by omega, Lib.hid ⟨R.out.1, hbF.out⟩, Lib.hid ⟨R.out.2, hbT.out⟩, hb0⟩
                    | true =>
                      cases ly with
                      | false =>
                        have R := Lib.hid (HSK.out (by simp))
                        clear HSK HTK HBF HBT HBW fA1 fA2 tA1 tA2
                        go_wp2
                        go_roundg (m - (c + 1))
                        case measure => omega
                        case rel => exact ⟨c + 1, fr, t, by go_num, by omega, Lib.hid ⟨R.out.1, hbF.out⟩, Lib.hid ⟨R.out.2, hbT.out⟩, hb0⟩
                      | true =>
                        have R := Lib.hid (HTK.out rfl rfl)
                        clear HSK HTK hbF hbT
                        go_wp2
                        go_roundg (m - (c + 1))
                        case measure => omega
                        case rel => exact ⟨c + 1, fr.set i true, t.set yn true, by go_num, by omega, Lib.hid ⟨R.out.1, HBF.out⟩, Lib.hid ⟨R.out.2, HBT.out⟩, HBW⟩
                  · have R1 := Lib.hid (And.intro (hfo.out.1.row (by rw [Hgd.out, ← Hm.out]; omega)) hfo.out.2)
                    have R2 := Lib.hid (And.intro (hto.out.1.row (by rw [Hgd.out, ← Hm.out]; omega)) hto.out.2)
                    clear hfo hto hrc
                    go_wp2
                    go_roundg (k - (i + 1))
                    case measure => omega
                    case rel => exact ⟨i + 1, fr, t, by go_num, by omega, R1, R2, hb0⟩
              · obtain rfl : i = k := by omega
                have HBF := Lib.hid hfo.out.2
                have HBT := Lib.hid hto.out.2
                have HFO := Lib.hid hfo.out.1
                have HTO := Lib.hid hto.out.1
                have HR0 := Lib.hid (Ren.start (l0 := l0) (fr := fr) (t := t))
                have HNr := Lib.hid (New.keep (OwnOf.kept (OVal.kept (fun _ => rfl))) HN0.out hb0.out (Nat.le_refl _))
                have HBr := Lib.hid (hbel.out.trans (hb0.out.mono hbel.out.size))
                have hz0 := hb0.out.size
                have hwlt : w.heap.size < w0.heap.size := by
                  have hli : l0[0]? = some (l0[0]'(by have := Hl0.out; omega)) := List.getElem?_eq_getElem (by have := Hl0.out; omega)
                  obtain ⟨b1, _, hv, _, _, hbl1, _⟩ := HN0.out.val_at (fun _ => rfl) hli
                  obtain rfl : b1 = w.heap.size := by simp at hv; exact hv.1.symm
                  exact hbl1
                have hwf : w.heap.size ≠ bf := by omega
                have hwt : w.heap.size ≠ bt := by omega
                clear hfo hto hnew hbel hb0 HN0
                go_wp2
                go_loopg [67] i (fun g jv wr => ∃ (j : Nat) (l : List Bool), jv = .int .i64 j ∧ j + g = i ∧ Hid (Ren l0 fr t j l) ∧ Hid (New (OwnOf 4 (OValR Value.bool)) w.heap.size wr (.slice (some ⟨w.heap.size, 0, none⟩) i i) l) ∧ Hid (Bl wr bf fr) ∧ Hid (Bl wr bt t) ∧ Hid (Below w.heap.size w wr))
                case atStart => exact ⟨0, l0, rfl, by omega, HR0, HNr, HBF, HBT, HBr⟩
                case round =>
                  clear HR0 HNr HBF HBT HBr
                  obtain ⟨j, l, rfl, hj, hren, hnl, hbf2, hbt2, hbr⟩ := hrel
                  by_cases hltj : j < i
                  · have hjI : (j : Int) < (i : Int) := Int.ofNat_lt.2 hltj
                    have hll := Hl0.out
                    have e1 := hren.out.1
                    have e2 := HFO.out.1
                    have e3 := HTO.out.1
                    have hlj : l[j]? = some (l[j]'(by omega)) := List.getElem?_eq_getElem (by omega)
                    have hfj : fr[j]? = some (fr[j]'(by omega)) := List.getElem?_eq_getElem (by omega)
                    have htj : t[j]? = some (t[j]'(by omega)) := List.getElem?_eq_getElem (by omega)
                    obtain ⟨b1, _, hv, _, _, hbl1, hcl1, hfr1, hst⟩ := hnl.out.val_at (fun _ => rfl) hlj
                    obtain rfl : b1 = w.heap.size := by simp at hv; exact hv.1.symm
                    obtain ⟨fA1, fA2⟩ := hbf2.out.2 j _ hfj
                    obtain ⟨tA1, tA2⟩ := hbt2.out.2 j _ htj
                    have R1 := Lib.hid (hren.out.step hlj hfj htj)
                    generalize l[j]'(by omega) = x1 at *
                    generalize fr[j]'(by omega) = x2 at *
                    generalize t[j]'(by omega) = x3 at *
                    have R2 := Lib.hid (hst (x1 && x2 && x3))
                    have R3 := Lib.hid (hbf2.out.other (i := j) hwf (.bool (x1 && x2 && x3)))
                    have R4 := Lib.hid (hbt2.out.other (i := j) hwt (.bool (x1 && x2 && x3)))
                    have R5 := Lib.hid (hbr.out.setCell (p := ⟨w.heap.size, j, none⟩) (Nat.le_refl _) (.bool (x1 && x2 && x3)))
                    clear hlj hfj htj hv hst hren hnl hbf2 hbt2 hbr e1 e2 e3
                    cases x1 <;> cases x2 <;> cases x3 <;> (go_wp2; go_roundg (i - (j + 1)); (case measure => omega); (case rel => exact ⟨j + 1, _, by go_num, by omega, R1, R2, R3, R4, R5⟩))
                  · obtain rfl : j = i := by omega
                    have R1 := Lib.hid (hinv.out.step (hren.out.rnd Hl0.out (by rw [Hnx.out]; exact Nat.le_refl _) HFO.out HTO.out))
                    clear hren hinv hbf2 hbt2 HFO HTO
                    go_wp2
                    go_roundg (j - (r + 1))
                    case measure => omega
                    case rel => exact ⟨r + 1, l, by go_num, by omega, R1, hnl, hbr⟩
        · obtain rfl : r = k := by omega
          have HF := Lib.hid (show New (OwnOf 4 (OValR Value.bool)) w.heap.size w0 (.slice (some ⟨w.heap.size, 0, none⟩) r r) (liveL (EntN next) r) from by have h := hnew.out; rw [hinv.out.end] at h; exact h)
          clear hnew hinv
          go_wp2
          go_ret
          exact ⟨_, rfl, HF.out, hbel.out⟩
end Go.Proofs.YtcilgihmaaobeaaGreatDoor
end
