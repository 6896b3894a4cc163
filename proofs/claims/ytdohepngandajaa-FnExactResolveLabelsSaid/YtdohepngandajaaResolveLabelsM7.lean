/-
  Texts of this claim joined: laws for its walks, contracts of the functions that the law reaches.
-/
import Derived.Test.YtdohepngandajaaRows
import Derived.Test.YtdohepngandajaaResolveLabelsM1
import Derived.Test.YtdohepngandajaaResolveLabelsM4
import Derived.Test.YtdohepngandajaaResolveLabelsM5
import Derived.Test.YtdohepngandajaaResolveLabelsM6
import Derived.IntWalk
import Derived.RegionTactic
import Derived.ChangeAlike
import Derived.Test.YtdohepngandajaaResolveLabelsM2
import Derived.Test.YtdohepngandajaaResolveLabelsM3
section
/-
  The program's live places.
-/
namespace Go.Proofs.Ytdohepngandajaa
open Go.RowKit Go.Deep Go.Sd

set_option maxHeartbeats 4000000 in
set_option maxRecDepth 10000 in
theorem lively_c {w : World} {v : Value} {next : List (List Int)} {n : Nat} (h : Tab w v next) (hnx : next.length = n) (hin : ∀ r, r ∈ next → ∀ x, x ∈ r → 0 ≤ x ∧ x < (n : Int)) (hn0 : 0 < n) (hn : n ≤ 16) :
    Calls Try.prog 149 #[v] w (Makes (OwnOf 4 (OValR Value.bool)) w (liveL (EntN next) n)) := by
  obtain ⟨a, c, rfl, _, _, hcell⟩ := h.shape
  obtain ⟨ab, ao, rfl, hab, hx0⟩ := hcell (by omega)
  rw [hnx]
  have Hnx := Lib.hid hnx
  have Hin := Lib.hid hin
  clear h hcell hin hnx
  have hmk := fun w => run_make_row' (P := Try.prog) 124 4 (.bool false) 1 Try.underlying124 infoB rfl .i64 .i64 n (by omega) (by omega) (w := w)
  go_enter Try.func149, Try.ntmps149
  go_wp2
  go_loopg [17] n (fun g i wr => ∃ (k : Nat), i = .int .i64 k ∧ k + g = n ∧ Hid (New (OwnOf 4 (OValR Value.bool)) w.heap.size wr (.slice (some ⟨w.heap.size, 0, none⟩) n n) (fillT n k)) ∧ Hid (Below w.heap.size w wr))
  case atStart => exact ⟨0, rfl, by omega, Lib.hid (New.made 4 w (.bool false) false n (Nat.le_refl _) (by omega) (fun _ => ⟨rfl, rfl⟩)), Lib.hid ((Below.refl _ _).alloc (Nat.le_refl _) _)⟩
  case round =>
    obtain ⟨k, rfl, hk, hnew, hbel⟩ := hrel
    by_cases hlt : k < n
    · obtain ⟨b', c', hv, _, _, hblt, hcl, hfr, hst⟩ := hnew.out.val_at (fun _ => rfl) (fillT_at hlt)
      obtain rfl : b' = w.heap.size := by simp at hv; exact hv.1.symm
      have Hst := Lib.hid (by have := hst true; rw [fillT_set hlt] at this; exact this)
      have Hb := Lib.hid (hbel.out.setCell (p := ⟨w.heap.size, k, none⟩) (Nat.le_refl _) (.bool true))
      have hkI : (k : Int) < (n : Int) := Int.ofNat_lt.2 hlt
      clear hv hst hnew hbel hx0 hmk
      go_wp2
      go_roundg (n - (k + 1))
      case measure => omega
      case rel => exact ⟨k + 1, by go_num, by omega, Hst, Hb⟩
    · obtain rfl : k = n := by omega
      have HL0 := Lib.hid (show New (OwnOf 4 (OValR Value.bool)) w.heap.size wr (.slice (some ⟨w.heap.size, 0, none⟩) k k) (List.replicate k true) from by have h := hnew.out; unfold fillT at h; simpa using h)
      have HS0 := Lib.hid (Inv.start (E := EntN next) (n := k))
      clear hnew
      go_wp2
      go_loopg [26] k (fun g i wr => ∃ (r : Nat) (l : List Bool), i = .int .i64 r ∧ r + g = k ∧ Hid (Inv (EntN next) k r l) ∧ Hid (New (OwnOf 4 (OValR Value.bool)) w.heap.size wr (.slice (some ⟨w.heap.size, 0, none⟩) k k) l) ∧ Hid (Below w.heap.size w wr))
      case atStart => exact ⟨0, List.replicate k true, rfl, by omega, HS0, HL0, hbel⟩
      case round =>
        clear HS0 HL0 hbel
        obtain ⟨r, l0, rfl, hr, hinv, hnew, hbel⟩ := hrel
        obtain ⟨w0, rfl⟩ : ∃ x, x = wr := ⟨_, rfl⟩
        by_cases hltr : r < k
        · have hrI : (r : Int) < (k : Int) := Int.ofNat_lt.2 hltr
          have hbig : ∀ (bf : Nat), w0.heap.size ≤ bf → bf < w0.heap.size + 2 → Bl (((w0.alloc (.cells (madeCells #[.bool false] k) 4)).alloc (.cells (madeCells #[.bool false] k) 4)).drew) bf (List.replicate l0.length false) := by
            intro bf h1 h2
            have hl0 : l0.length = k := hinv.out.1.1
            have hm : ∀ (w1 : World), w1.heap.size ≤ w0.heap.size + 1 → Bl (w1.alloc (.cells (madeCells #[.bool false] k) 4)) w1.heap.size (List.replicate k false) := by
              intro w1 _
              have hnw := New.made (R := OValR Value.bool) 4 w1 (.bool false) false k (Nat.le_refl _) (by omega) (fun _ => ⟨rfl, rfl⟩)
              refine ⟨by simp, fun i x hx => ?_⟩
              obtain ⟨b', c', hv, _, _, _, hcl, hfr, _⟩ := hnw.val_at (fun _ => rfl) hx
              obtain rfl : b' = w1.heap.size := by simp at hv; exact hv.1.symm
              exact ⟨hcl, hfr⟩
            rw [hl0]
            by_cases e : bf = w0.heap.size
            · subst e
              have h3 := hm w0 (by omega)
              have hbb : Below (w0.heap.size + 1) (w0.alloc (.cells (madeCells #[.bool false] k) 4)) (((w0.alloc (.cells (madeCells #[.bool false] k) 4)).alloc (.cells (madeCells #[.bool false] k) 4)).drew) := ((Below.refl _ _).alloc (by simp) _).drew
              exact ⟨by simp [World.drew]; omega, fun i x hx => ⟨(hbb.cell (p := ⟨w0.heap.size, i, none⟩) (by simp)).trans (h3.2 i x hx).1, (hbb.frozen (p := ⟨w0.heap.size, i, none⟩) (by simp)).trans (h3.2 i x hx).2⟩⟩
            · obtain rfl : bf = w0.heap.size + 1 := by omega
              have h3 := hm (w0.alloc (.cells (madeCells #[.bool false] k) 4)) (by simp)
              have e2 : (w0.alloc (.cells (madeCells #[.bool false] k) 4)).heap.size = w0.heap.size + 1 := by simp
              rw [e2] at h3
              have hbb : Below (w0.heap.size + 2) ((w0.alloc (.cells (madeCells #[.bool false] k) 4)).alloc (.cells (madeCells #[.bool false] k) 4)) (((w0.alloc (.cells (madeCells #[.bool false] k) 4)).alloc (.cells (madeCells #[.bool false] k) 4)).drew) := (Below.refl _ _).drew
              exact ⟨by simp [World.drew], fun i x hx => ⟨(hbb.cell (p := ⟨w0.heap.size + 1, i, none⟩) (by simp)).trans (h3.2 i x hx).1, (hbb.frozen (p := ⟨w0.heap.size + 1, i, none⟩) (by simp)).trans (h3.2 i x hx).2⟩⟩
          have hB9 : Below w0.heap.size w0 (((w0.alloc (.cells (madeCells #[.bool false] k) 4)).alloc (.cells (madeCells #[.bool false] k) 4)).drew) := (((Below.refl _ _).alloc (Nat.le_refl _) _).alloc (by simp) _).drew
          have HB0 := Lib.hid (hbig w0.heap.size (Nat.le_refl _) (by omega))
          have HB1 := Lib.hid (hbig (w0.heap.size + 1) (by omega) (by omega))
          have HB9 := Lib.hid hB9
          clear hbig hB9
          have HN0 := Lib.hid hnew.out
          have Hl0 := Lib.hid hinv.out.1.1
          go_wp2
          go_region
          · clear hmk
            obtain ⟨bf, ebf⟩ : ∃ x, x = w0.heap.size := ⟨_, rfl⟩
            obtain ⟨bt, ebt⟩ : ∃ x, x = w0.heap.size + 1 := ⟨_, rfl⟩
            have hbf : w0.heap.size ≤ bf := by omega
            have hbt : w0.heap.size ≤ bt := by omega
            have hne : bf ≠ bt := by omega
            have hne2 : bt ≠ bf := by omega
            rw [← ebf] at HB0
            rw [← ebt] at HB1
            generalize ((w0.alloc (.cells (madeCells #[.bool false] k) 4)).alloc (.cells (madeCells #[.bool false] k) 4)).drew = w9 at *
            have HF0 := Lib.hid (show FrOk next l0 0 0 (List.replicate l0.length false) ∧ Bl w9 bf (List.replicate l0.length false) from ⟨FrOk.start, HB0.out⟩)
            have HT0 := Lib.hid (show ToOk next l0 0 0 (List.replicate l0.length false) ∧ Bl w9 bt (List.replicate l0.length false) from ⟨ToOk.start, HB1.out⟩)
            try rw [← ebt]
            try rw [← ebf]
            clear ebf ebt HB0 HB1
            go_wp2
            go_loopg [36] k (fun g iv wr => ∃ (i : Nat) (fr t : List Bool), iv = .int .i64 i ∧ i + g = k ∧ Hid (FrOk next l0 i 0 fr ∧ Bl wr bf fr) ∧ Hid (ToOk next l0 i 0 t ∧ Bl wr bt t) ∧ Hid (Below w0.heap.size w0 wr))
            case atStart => exact ⟨0, _, _, rfl, by omega, HF0, HT0, HB9⟩
            case round =>
              clear HF0 HT0 HB9
              obtain ⟨i, fr, t, rfl, hi, hfo, hto, hb0⟩ := hrel
              by_cases hlti : i < k
              · obtain ⟨row, hrow, _⟩ := at_lt (xs := next) (k := i) (by have := Hnx.out; omega)
                obtain ⟨u, hu, hru⟩ := hx0 i row hrow
                have hgd : next.getD i [] = row := by rw [List.getD_eq_getElem?_getD, hrow]; rfl
                have Hgd := Lib.hid hgd
                have Hrow := Lib.hid (Hin.out row (List.mem_of_getElem? hrow))
                have hu1 := ((hbel.out.trans (hb0.out.mono hbel.out.size)).cell (p := ⟨ab, ao + i, none⟩) hab).trans hu
                obtain ⟨ra, rc, rfl, _, _, hrc⟩ := hru.shape
                obtain ⟨m, hm⟩ : ∃ m, m = row.length := ⟨_, rfl⟩
                have Hm := Lib.hid hm
                have hm63 : m ≤ 9223372036854775807 := by omega
                rw [← hm] at hrc hu1
                have hiI : (i : Int) < (k : Int) := Int.ofNat_lt.2 hlti
                clear hu hru hrow hgd hm
                go_wp2
                go_loopg [43] m (fun g cv wr => ∃ (c : Nat) (fr t : List Bool), cv = .int .i64 c ∧ c + g = m ∧ Hid (FrOk next l0 i c fr ∧ Bl wr bf fr) ∧ Hid (ToOk next l0 i c t ∧ Bl wr bt t) ∧ Hid (Below w0.heap.size w0 wr))
                case atStart => exact ⟨0, fr, t, rfl, by omega, hfo, hto, hb0⟩
                case round =>
                  clear hfo hto hb0 hu1
                  obtain ⟨c, fr, t, rfl, hc, hfo, hto, hb0⟩ := hrel
                  by_cases hltc : c < m
                  · obtain ⟨b, o, rfl, hb, hr0⟩ := hrc (by omega)
                    obtain ⟨y, hy, _⟩ := at_lt (xs := row) (k := c) (by have := Hm.out; omega)
                    obtain ⟨u, hu2, hux⟩ := hr0 c y hy
                    obtain rfl : u = .int .i64 y := hux
                    obtain ⟨hy0, hy1⟩ := Hrow.out y (List.mem_of_getElem? hy)
                    obtain ⟨yn, rfl⟩ := Int.eq_ofNat_of_zero_le hy0
                    have hyn : yn < k := by omega
                    have Hy := Lib.hid (show (next.getD i [])[c]? = some (yn : Int) from by rw [Hgd.out]; exact hy)
                    have hc1 := ((hbel.out.trans (hb0.out.mono hbel.out.size)).cell (p := ⟨b, o + c, none⟩) hb).trans hu2
                    have hll := Hl0.out
                    have hli : l0[i]? = some (l0[i]'(by omega)) := List.getElem?_eq_getElem (by omega)
                    have hly : l0[yn]? = some (l0[yn]'(by omega)) := List.getElem?_eq_getElem (by omega)
                    obtain ⟨b1, _, hv, _, _, hbl1, hcl1, _, _⟩ := HN0.out.val_at (fun _ => rfl) hli
                    obtain rfl : b1 = w.heap.size := by simp at hv; exact hv.1.symm
                    obtain ⟨b2, _, hv2, _, _, _, hcl2, _, _⟩ := HN0.out.val_at (fun _ => rfl) hly
                    obtain rfl : b2 = w.heap.size := by simp at hv2; exact hv2.1.symm
                    replace hcl1 := (hb0.out.cell (p := ⟨w.heap.size, i, none⟩) hbl1).trans hcl1
                    replace hcl2 := (hb0.out.cell (p := ⟨w.heap.size, yn, none⟩) hbl1).trans hcl2
                    have hoi : On l0 i ↔ l0[i]'(by omega) = true := by unfold On; rw [hli]; simp
                    have hoy : On l0 yn ↔ l0[yn]'(by omega) = true := by unfold On; rw [hly]; simp
                    generalize l0[i]'(by omega) = li at *
                    generalize l0[yn]'(by omega) = ly at *
                    have hcm : (c : Int) < (m : Int) := Int.ofNat_lt.2 hltc
                    have hiF : i < fr.length := by rw [hfo.out.1.1]; omega
                    have hyT : yn < t.length := by rw [hto.out.1.1]; omega
                    have HSK := Lib.hid (fun (h : ¬ (li = true ∧ ly = true)) => And.intro (hfo.out.1.skip Hy.out (fun ⟨p1, p2⟩ => h ⟨hoi.1 p1, hoy.1 p2⟩)) (hto.out.1.skip Hy.out (fun ⟨p1, p2⟩ => h ⟨hoi.1 p1, hoy.1 p2⟩)))
                    have HTK := Lib.hid (fun (h1 : li = true) (h2 : ly = true) => And.intro (hfo.out.1.take Hy.out (hoi.2 h1) (hoy.2 h2)) (hto.out.1.take Hy.out (hoi.2 h1) (hoy.2 h2)))
                    have fA := hfo.out.2.2 i _ (List.getElem?_eq_getElem hiF)
                    have tA := hto.out.2.2 yn _ (List.getElem?_eq_getElem hyT)
                    have HBF := Lib.hid (((hfo.out.2.set hiF true).other (i := yn) hne2 (.bool true)))
                    have HBT := Lib.hid ((hto.out.2.other (i := i) hne (.bool true)).set hyT true)
                    have HBW := Lib.hid ((hb0.out.setCell (p := ⟨bf, i, none⟩) hbf (.bool true)).setCell (p := ⟨bt, yn, none⟩) hbt (.bool true))
                    obtain ⟨fA1, fA2⟩ := fA
                    obtain ⟨tA1, tA2⟩ := tA
                    have hiF' : bf < wr.heap.size := hfo.out.2.1
                    have hbF := Lib.hid hfo.out.2
                    have hbT := Lib.hid hto.out.2
                    generalize fr[i] = x1 at *
                    generalize t[yn] = x2 at *
                    clear hy hr0 hu2 hli hly hv hv2 hoi hoy hy0 hy1 Hy hfo hto hx0
                    cases li with
                    | false =>
                      have R := Lib.hid (HSK.out (by simp))
                      clear HSK HTK HBF HBT HBW fA1 fA2 tA1 tA2
                      go_wp2
                      go_roundg (m - (c + 1))
                      case measure => omega
                      case rel => exact ⟨c + 1, fr, t, by go_num, by omega, Lib.hid ⟨R.out.1, hbF.out⟩, Lib.hid ⟨R.out.2, hbT.out⟩, hb0⟩
                    | true =>
                      cases ly with
                      | false =>
                        have R := Lib.hid (HSK.out (by simp))
                        clear HSK HTK HBF HBT HBW fA1 fA2 tA1 tA2
                        go_wp2
                        go_roundg (m - (c + 1))
                        case measure => omega
                        case rel => exact ⟨c + 1, fr, t, by go_num, by omega, Lib.hid ⟨R.out.1, hbF.out⟩, Lib.hid ⟨R.out.2, hbT.out⟩, hb0⟩
                      | true =>
                        have R := Lib.hid (HTK.out rfl rfl)
                        clear HSK HTK hbF hbT
                        go_wp2
                        go_roundg (m - (c + 1))
                        case measure => omega
                        case rel => exact ⟨c + 1, fr.set i true, t.set yn true, by go_num, by omega, Lib.hid ⟨R.out.1, HBF.out⟩, Lib.hid ⟨R.out.2, HBT.out⟩, HBW⟩
                  · have R1 := Lib.hid (And.intro (hfo.out.1.row (by rw [Hgd.out, ← Hm.out]; omega)) hfo.out.2)
                    have R2 := Lib.hid (And.intro (hto.out.1.row (by rw [Hgd.out, ← Hm.out]; omega)) hto.out.2)
                    clear hfo hto hrc
                    go_wp2
                    go_roundg (k - (i + 1))
                    case measure => omega
                    case rel => exact ⟨i + 1, fr, t, by go_num, by omega, R1, R2, hb0⟩
              · obtain rfl : i = k := by omega
                have HBF := Lib.hid hfo.out.2
                have HBT := Lib.hid hto.out.2
                have HFO := Lib.hid hfo.out.1
                have HTO := Lib.hid hto.out.1
                have HR0 := Lib.hid (Ren.start (l0 := l0) (fr := fr) (t := t))
                have HNr := Lib.hid (New.keep (OwnOf.kept (OVal.kept (fun _ => rfl))) HN0.out hb0.out (Nat.le_refl _))
                have HBr := Lib.hid (hbel.out.trans (hb0.out.mono hbel.out.size))
                have hz0 := hb0.out.size
                have hwlt : w.heap.size < w0.heap.size := by
                  have hli : l0[0]? = some (l0[0]'(by have := Hl0.out; omega)) := List.getElem?_eq_getElem (by have := Hl0.out; omega)
                  obtain ⟨b1, _, hv, _, _, hbl1, _⟩ := HN0.out.val_at (fun _ => rfl) hli
                  obtain rfl : b1 = w.heap.size := by simp at hv; exact hv.1.symm
                  exact hbl1
                have hwf : w.heap.size ≠ bf := by omega
                have hwt : w.heap.size ≠ bt := by omega
                clear hfo hto hnew hbel hb0 HN0
                go_wp2
                go_loopg [67] i (fun g jv wr => ∃ (j : Nat) (l : List Bool), jv = .int .i64 j ∧ j + g = i ∧ Hid (Ren l0 fr t j l) ∧ Hid (New (OwnOf 4 (OValR Value.bool)) w.heap.size wr (.slice (some ⟨w.heap.size, 0, none⟩) i i) l) ∧ Hid (Bl wr bf fr) ∧ Hid (Bl wr bt t) ∧ Hid (Below w.heap.size w wr))
                case atStart => exact ⟨0, l0, rfl, by omega, HR0, HNr, HBF, HBT, HBr⟩
                case round =>
                  clear HR0 HNr HBF HBT HBr
                  obtain ⟨j, l, rfl, hj, hren, hnl, hbf2, hbt2, hbr⟩ := hrel
                  by_cases hltj : j < i
                  · have hjI : (j : Int) < (i : Int) := Int.ofNat_lt.2 hltj
                    have hll := Hl0.out
                    have e1 := hren.out.1
                    have e2 := HFO.out.1
                    have e3 := HTO.out.1
                    have hlj : l[j]? = some (l[j]'(by omega)) := List.getElem?_eq_getElem (by omega)
                    have hfj : fr[j]? = some (fr[j]'(by omega)) := List.getElem?_eq_getElem (by omega)
                    have htj : t[j]? = some (t[j]'(by omega)) := List.getElem?_eq_getElem (by omega)
                    obtain ⟨b1, _, hv, _, _, hbl1, hcl1, hfr1, hst⟩ := hnl.out.val_at (fun _ => rfl) hlj
                    obtain rfl : b1 = w.heap.size := by simp at hv; exact hv.1.symm
                    obtain ⟨fA1, fA2⟩ := hbf2.out.2 j _ hfj
                    obtain ⟨tA1, tA2⟩ := hbt2.out.2 j _ htj
                    have R1 := Lib.hid (hren.out.step hlj hfj htj)
                    generalize l[j]'(by omega) = x1 at *
                    generalize fr[j]'(by omega) = x2 at *
                    generalize t[j]'(by omega) = x3 at *
                    have R2 := Lib.hid (hst (x1 && x2 && x3))
                    have R3 := Lib.hid (hbf2.out.other (i := j) hwf (.bool (x1 && x2 && x3)))
                    have R4 := Lib.hid (hbt2.out.other (i := j) hwt (.bool (x1 && x2 && x3)))
                    have R5 := Lib.hid (hbr.out.setCell (p := ⟨w.heap.size, j, none⟩) (Nat.le_refl _) (.bool (x1 && x2 && x3)))
                    clear hlj hfj htj hv hst hren hnl hbf2 hbt2 hbr e1 e2 e3
                    cases x1 <;> cases x2 <;> cases x3 <;> (go_wp2; go_roundg (i - (j + 1)); (case measure => omega); (case rel => exact ⟨j + 1, _, by go_num, by omega, R1, R2, R3, R4, R5⟩))
                  · obtain rfl : j = i := by omega
                    have R1 := Lib.hid (hinv.out.step (hren.out.rnd Hl0.out (by rw [Hnx.out]; exact Nat.le_refl _) HFO.out HTO.out))
                    clear hren hinv hbf2 hbt2 HFO HTO
                    go_wp2
                    go_roundg (j - (r + 1))
                    case measure => omega
                    case rel => exact ⟨r + 1, l, by go_num, by omega, R1, hnl, hbr⟩
          · clear hmk
            obtain ⟨bf, ebf⟩ : ∃ x, x = w0.heap.size + 1 := ⟨_, rfl⟩
            obtain ⟨bt, ebt⟩ : ∃ x, x = w0.heap.size := ⟨_, rfl⟩
            have hbf : w0.heap.size ≤ bf := by omega
            have hbt : w0.heap.size ≤ bt := by omega
            have hne : bf ≠ bt := by omega
            have hne2 : bt ≠ bf := by omega
            rw [← ebf] at HB1
            rw [← ebt] at HB0
            generalize ((w0.alloc (.cells (madeCells #[.bool false] k) 4)).alloc (.cells (madeCells #[.bool false] k) 4)).drew = w9 at *
            have HF0 := Lib.hid (show FrOk next l0 0 0 (List.replicate l0.length false) ∧ Bl w9 bf (List.replicate l0.length false) from ⟨FrOk.start, HB1.out⟩)
            have HT0 := Lib.hid (show ToOk next l0 0 0 (List.replicate l0.length false) ∧ Bl w9 bt (List.replicate l0.length false) from ⟨ToOk.start, HB0.out⟩)
            try rw [← ebf]
            try rw [← ebt]
            clear ebf ebt HB0 HB1
            go_wp2
            go_loopg [36] k (fun g iv wr => ∃ (i : Nat) (fr t : List Bool), iv = .int .i64 i ∧ i + g = k ∧ Hid (FrOk next l0 i 0 fr ∧ Bl wr bf fr) ∧ Hid (ToOk next l0 i 0 t ∧ Bl wr bt t) ∧ Hid (Below w0.heap.size w0 wr))
            case atStart => exact ⟨0, _, _, rfl, by omega, HF0, HT0, HB9⟩
            case round =>
              clear HF0 HT0 HB9
              obtain ⟨i, fr, t, rfl, hi, hfo, hto, hb0⟩ := hrel
              by_cases hlti : i < k
              · obtain ⟨row, hrow, _⟩ := at_lt (xs := next) (k := i) (by have := Hnx.out; omega)
                obtain ⟨u, hu, hru⟩ := hx0 i row hrow
                have hgd : next.getD i [] = row := by rw [List.getD_eq_getElem?_getD, hrow]; rfl
                have Hgd := Lib.hid hgd
                have Hrow := Lib.hid (Hin.out row (List.mem_of_getElem? hrow))
                have hu1 := ((hbel.out.trans (hb0.out.mono hbel.out.size)).cell (p := ⟨ab, ao + i, none⟩) hab).trans hu
                obtain ⟨ra, rc, rfl, _, _, hrc⟩ := hru.shape
                obtain ⟨m, hm⟩ : ∃ m, m = row.length := ⟨_, rfl⟩
                have Hm := Lib.hid hm
                have hm63 : m ≤ 9223372036854775807 := by omega
                rw [← hm] at hrc hu1
                have hiI : (i : Int) < (k : Int) := Int.ofNat_lt.2 hlti
                clear hu hru hrow hgd hm
                go_wp2
                go_loopg [43] m (fun g cv wr => ∃ (c : Nat) (fr t : List Bool), cv = .int .i64 c ∧ c + g = m ∧ Hid (FrOk next l0 i c fr ∧ Bl wr bf fr) ∧ Hid (ToOk next l0 i c t ∧ Bl wr bt t) ∧ Hid (Below w0.heap.size w0 wr))
                case atStart => exact ⟨0, fr, t, rfl, by omega, hfo, hto, hb0⟩
                case round =>
                  clear hfo hto hb0 hu1
                  obtain ⟨c, fr, t, rfl, hc, hfo, hto, hb0⟩ := hrel
                  by_cases hltc : c < m
                  · obtain ⟨b, o, rfl, hb, hr0⟩ := hrc (by omega)
                    obtain ⟨y, hy, _⟩ := at_lt (xs := row) (k := c) (by have := Hm.out; omega)
                    obtain ⟨u, hu2, hux⟩ := hr0 c y hy
                    obtain rfl : u = .int .i64 y := hux
                    obtain ⟨hy0, hy1⟩ := Hrow.out y (List.mem_of_getElem? hy)
                    obtain ⟨yn, rfl⟩ := Int.eq_ofNat_of_zero_le hy0
                    have hyn : yn < k := by omega
                    have Hy := Lib.hid (show (next.getD i [])[c]? = some (yn : Int) from by rw [Hgd.out]; exact hy)
                    have hc1 := ((hbel.out.trans (hb0.out.mono hbel.out.size)).cell (p := ⟨b, o + c, none⟩) hb).trans hu2
                    have hll := Hl0.out
                    have hli : l0[i]? = some (l0[i]'(by omega)) := List.getElem?_eq_getElem (by omega)
                    have hly : l0[yn]? = some (l0[yn]'(by omega)) := List.getElem?_eq_getElem (by omega)
                    obtain ⟨b1, _, hv, _, _, hbl1, hcl1, _, _⟩ := HN0.out.val_at (fun _ => rfl) hli
                    obtain rfl : b1 = w.heap.size := by simp at hv; exact hv.1.symm
                    obtain ⟨b2, _, hv2, _, _, _, hcl2, _, _⟩ := HN0.out.val_at (fun _ => rfl) hly
                    obtain rfl : b2 = w.heap.size := by simp at hv2; exact hv2.1.symm
                    replace hcl1 := (hb0.out.cell (p := ⟨w.heap.size, i, none⟩) hbl1).trans hcl1
                    replace hcl2 := (hb0.out.cell (p := ⟨w.heap.size, yn, none⟩) hbl1).trans hcl2
                    have hoi : On l0 i ↔ l0[i]'(by omega) = true := by unfold On; rw [hli]; simp
                    have hoy : On l0 yn ↔ l0[yn]'(by omega) = true := by unfold On; rw [hly]; simp
                    generalize l0[i]'(by omega) = li at *
                    generalize l0[yn]'(by omega) = ly at *
                    have hcm : (c : Int) < (m : Int) := Int.ofNat_lt.2 hltc
                    have hiF : i < fr.length := by rw [hfo.out.1.1]; omega
                    have hyT : yn < t.length := by rw [hto.out.1.1]; omega
                    have HSK := Lib.hid (fun (h : ¬ (li = true ∧ ly = true)) => And.intro (hfo.out.1.skip Hy.out (fun ⟨p1, p2⟩ => h ⟨hoi.1 p1, hoy.1 p2⟩)) (hto.out.1.skip Hy.out (fun ⟨p1, p2⟩ => h ⟨hoi.1 p1, hoy.1 p2⟩)))
                    have HTK := Lib.hid (fun (h1 : li = true) (h2 : ly = true) => And.intro (hfo.out.1.take Hy.out (hoi.2 h1) (hoy.2 h2)) (hto.out.1.take Hy.out (hoi.2 h1) (hoy.2 h2)))
                    have fA := hfo.out.2.2 i _ (List.getElem?_eq_getElem hiF)
                    have tA := hto.out.2.2 yn _ (List.getElem?_eq_getElem hyT)
                    have HBF := Lib.hid (((hfo.out.2.set hiF true).other (i := yn) hne2 (.bool true)))
                    have HBT := Lib.hid ((hto.out.2.other (i := i) hne (.bool true)).set hyT true)
                    have HBW := Lib.hid ((hb0.out.setCell (p := ⟨bf, i, none⟩) hbf (.bool true)).setCell (p := ⟨bt, yn, none⟩) hbt (.bool true))
                    obtain ⟨fA1, fA2⟩ := fA
                    obtain ⟨tA1, tA2⟩ := tA
                    have hiF' : bf < wr.heap.size := hfo.out.2.1
                    have hbF := Lib.hid hfo.out.2
                    have hbT := Lib.hid hto.out.2
                    generalize fr[i] = x1 at *
                    generalize t[yn] = x2 at *
                    clear hy hr0 hu2 hli hly hv hv2 hoi hoy hy0 hy1 Hy hfo hto hx0
                    cases li with
                    | false =>
                      have R := Lib.hid (HSK.out (by simp))
                      clear HSK HTK HBF HBT HBW fA1 fA2 tA1 tA2
                      go_wp2
                      go_roundg (m - (c + 1))
                      case measure => omega
                      case rel => exact ⟨c + 1, fr, t, by go_num, by omega, Lib.hid ⟨R.out.1, hbF.out⟩, Lib.hid ⟨R.out.2, hbT.out⟩, hb0⟩
                    | true =>
                      cases ly with
                      | false =>
                        have R := Lib.hid (HSK.out (by simp))
                        clear HSK HTK HBF HBT HBW fA1 fA2 tA1 tA2
                        go_wp2
                        go_roundg (m - (c + 1))
                        case measure => omega
                        case rel => exact ⟨c + 1, fr, t, by go_num, by omega, Lib.hid ⟨R.out.1, hbF.out⟩, Lib.hid ⟨R.out.2, hbT.out⟩, hb0⟩
                      | true =>
                        have R := Lib.hid (HTK.out rfl rfl)
                        clear HSK HTK hbF hbT
                        go_wp2
                        go_roundg (m - (c + 1))
                        case measure => omega
                        case rel => exact ⟨c + 1, fr.set i true, t.set yn true, by go_num, by omega, Lib.hid ⟨R.out.1, HBF.out⟩, Lib.hid ⟨R.out.2, HBT.out⟩, HBW⟩
                  · have R1 := Lib.hid (And.intro (hfo.out.1.row (by rw [Hgd.out, ← Hm.out]; omega)) hfo.out.2)
                    have R2 := Lib.hid (And.intro (hto.out.1.row (by rw [Hgd.out, ← Hm.out]; omega)) hto.out.2)
                    clear hfo hto hrc
                    go_wp2
                    go_roundg (k - (i + 1))
                    case measure => omega
                    case rel => exact ⟨i + 1, fr, t, by go_num, by omega, R1, R2, hb0⟩
              · obtain rfl : i = k := by omega
                have HBF := Lib.hid hfo.out.2
                have HBT := Lib.hid hto.out.2
                have HFO := Lib.hid hfo.out.1
                have HTO := Lib.hid hto.out.1
                have HR0 := Lib.hid (Ren.start (l0 := l0) (fr := fr) (t := t))
                have HNr := Lib.hid (New.keep (OwnOf.kept (OVal.kept (fun _ => rfl))) HN0.out hb0.out (Nat.le_refl _))
                have HBr := Lib.hid (hbel.out.trans (hb0.out.mono hbel.out.size))
                have hz0 := hb0.out.size
                have hwlt : w.heap.size < w0.heap.size := by
                  have hli : l0[0]? = some (l0[0]'(by have := Hl0.out; omega)) := List.getElem?_eq_getElem (by have := Hl0.out; omega)
                  obtain ⟨b1, _, hv, _, _, hbl1, _⟩ := HN0.out.val_at (fun _ => rfl) hli
                  obtain rfl : b1 = w.heap.size := by simp at hv; exact hv.1.symm
                  exact hbl1
                have hwf : w.heap.size ≠ bf := by omega
                have hwt : w.heap.size ≠ bt := by omega
                clear hfo hto hnew hbel hb0 HN0
                go_wp2
                go_loopg [67] i (fun g jv wr => ∃ (j : Nat) (l : List Bool), jv = .int .i64 j ∧ j + g = i ∧ Hid (Ren l0 fr t j l) ∧ Hid (New (OwnOf 4 (OValR Value.bool)) w.heap.size wr (.slice (some ⟨w.heap.size, 0, none⟩) i i) l) ∧ Hid (Bl wr bf fr) ∧ Hid (Bl wr bt t) ∧ Hid (Below w.heap.size w wr))
                case atStart => exact ⟨0, l0, rfl, by omega, HR0, HNr, HBF, HBT, HBr⟩
                case round =>
                  clear HR0 HNr HBF HBT HBr
                  obtain ⟨j, l, rfl, hj, hren, hnl, hbf2, hbt2, hbr⟩ := hrel
                  by_cases hltj : j < i
                  · have hjI : (j : Int) < (i : Int) := Int.ofNat_lt.2 hltj
                    have hll := Hl0.out
                    have e1 := hren.out.1
                    have e2 := HFO.out.1
                    have e3 := HTO.out.1
                    have hlj : l[j]? = some (l[j]'(by omega)) := List.getElem?_eq_getElem (by omega)
                    have hfj : fr[j]? = some (fr[j]'(by omega)) := List.getElem?_eq_getElem (by omega)
                    have htj : t[j]? = some (t[j]'(by omega)) := List.getElem?_eq_getElem (by omega)
                    obtain ⟨b1, _, hv, _, _, hbl1, hcl1, hfr1, hst⟩ := hnl.out.val_at (fun _ => rfl) hlj
                    obtain rfl : b1 = w.heap.size := by simp at hv; exact hv.1.symm
                    obtain ⟨fA1, fA2⟩ := hbf2.out.2 j _ hfj
                    obtain ⟨tA1, tA2⟩ := hbt2.out.2 j _ htj
                    have R1 := Lib.hid (hren.out.step hlj hfj htj)
                    generalize l[j]'(by omega) = x1 at *
                    generalize fr[j]'(by omega) = x2 at *
                    generalize t[j]'(by omega) = x3 at *
                    have R2 := Lib.hid (hst (x1 && x2 && x3))
                    have R3 := Lib.hid (hbf2.out.other (i := j) hwf (.bool (x1 && x2 && x3)))
                    have R4 := Lib.hid (hbt2.out.other (i := j) hwt (.bool (x1 && x2 && x3)))
                    have R5 := Lib.hid (hbr.out.setCell (p := ⟨w.heap.size, j, none⟩) (Nat.le_refl _) (.bool (x1 && x2 && x3)))
                    clear hlj hfj htj hv hst hren hnl hbf2 hbt2 hbr e1 e2 e3
                    cases x1 <;> cases x2 <;> cases x3 <;> (go_wp2; go_roundg (i - (j + 1)); (case measure => omega); (case rel => exact ⟨j + 1, _, by go_num, by omega, R1, R2, R3, R4, R5⟩))
                  · obtain rfl : j = i := by omega
                    have R1 := Lib.hid (hinv.out.step (hren.out.rnd Hl0.out (by rw [Hnx.out]; exact Nat.le_refl _) HFO.out HTO.out))
                    clear hren hinv hbf2 hbt2 HFO HTO
                    go_wp2
                    go_roundg (j - (r + 1))
                    case measure => omega
                    case rel => exact ⟨r + 1, l, by go_num, by omega, R1, hnl, hbr⟩
        · obtain rfl : r = k := by omega
          have HF := Lib.hid (show New (OwnOf 4 (OValR Value.bool)) w.heap.size w0 (.slice (some ⟨w.heap.size, 0, none⟩) r r) (liveL (EntN next) r) from by have h := hnew.out; rw [hinv.out.end] at h; exact h)
          clear hnew hinv
          go_wp2
          go_ret
          exact ⟨_, rfl, HF.out, hbel.out⟩
end Go.Proofs.Ytdohepngandajaa
end

section
/-
  TrimLabels's model: rows of targets, names of what is kept, arcs kept.
-/
namespace Go.Proofs.Ytdohepngandajaa
open Go.RowKit Go.Deep Go.Sd

def nxRow (xs : List Arc3) (i : Nat) : List Int := (xs.filter fun a => decide (a.1 = (i : Int))).map (·.2.1)
def nxt (p : Nat) (xs : List Arc3) : List (List Int) := (List.range p).map fun i => nxRow xs i
theorem nxt_len (p : Nat) (xs : List Arc3) : (nxt p xs).length = p := by simp [nxt]
theorem nxt_at {p i : Nat} {xs : List Arc3} (h : i < p) : (nxt p xs)[i]? = some (nxRow xs i) := by
  unfold nxt; rw [List.getElem?_map, List.getElem?_range h]; rfl
theorem nxt_nil (p : Nat) : nxt p [] = List.replicate p [] := by
  apply List.ext_getElem?
  intro i
  by_cases h : i < p
  · rw [nxt_at h, List.getElem?_replicate, if_pos h]; rfl
  · rw [List.getElem?_eq_none (by rw [nxt_len]; omega), List.getElem?_eq_none (by simp; omega)]
theorem nxRow_snoc (xs : List Arc3) (a : Arc3) (i : Nat) : nxRow (xs ++ [a]) i = if a.1 = (i : Int) then nxRow xs i ++ [a.2.1] else nxRow xs i := by
  unfold nxRow
  rw [List.filter_append, List.map_append]
  by_cases h : a.1 = (i : Int)
  · rw [if_pos h]; simp [h]
  · rw [if_neg h]; simp [h]
theorem nxt_snoc {p p0 : Nat} (xs : List Arc3) (a : Arc3) (h0 : p0 < p) (ha : a.1 = (p0 : Int)) : nxt p (xs ++ [a]) = (nxt p xs).set p0 (nxRow xs p0 ++ [a.2.1]) := by
  apply List.ext_getElem?
  intro i
  by_cases h : i < p
  · rw [nxt_at h, nxRow_snoc, ha]
    by_cases e : p0 = i
    · subst e
      rw [if_pos rfl, List.getElem?_set_self (by rw [nxt_len]; exact h)]
    · rw [if_neg (by omega), List.getElem?_set_ne e, nxt_at h]
  · rw [List.getElem?_eq_none (by rw [nxt_len]; omega), List.getElem?_eq_none (by rw [List.length_set, nxt_len]; omega)]
theorem nxRow_mem {xs : List Arc3} {i : Nat} {x : Int} : x ∈ nxRow xs i ↔ ∃ a, a ∈ xs ∧ a.1 = (i : Int) ∧ a.2.1 = x := by
  unfold nxRow
  simp only [List.mem_map, List.mem_filter, decide_eq_true_eq]
  constructor
  · rintro ⟨a, ⟨h1, h2⟩, h3⟩; exact ⟨a, h1, h2, h3⟩
  · rintro ⟨a, h1, h2, h3⟩; exact ⟨a, ⟨h1, h2⟩, h3⟩
theorem nxRow_len (xs : List Arc3) (i : Nat) : (nxRow xs i).length ≤ xs.length := by
  unfold nxRow; rw [List.length_map]; exact List.length_filter_le _ _
theorem nxt_ent {p i j : Nat} {xs : List Arc3} (h : i < p) : EntN (nxt p xs) i j ↔ ArcP xs i j := by
  unfold EntN ArcP
  rw [List.getD_eq_getElem?_getD, nxt_at h]
  simp only [Option.getD_some]
  exact nxRow_mem
theorem nxt_live (p : Nat) (xs : List Arc3) : liveL (EntN (nxt p xs)) p = liveL (ArcP xs) p :=
  liveL_congr fun i j hi _ => nxt_ent hi
theorem nxt_in {p : Nat} {xs : List Arc3} (ho : okArcs (p : Int) xs) : ∀ r, r ∈ nxt p xs → ∀ x, x ∈ r → 0 ≤ x ∧ x < (p : Int) := by
  intro r hr x hx
  obtain ⟨i, _, rfl⟩ := List.mem_map.1 hr
  obtain ⟨a, ha, _, rfl⟩ := nxRow_mem.1 hx
  have := ho a ha
  exact ⟨this.2.2.1, this.2.2.2⟩

/-! Names. -/
def nm (l : List Bool) (i : Nat) : Nat := cntT (l.take i)
theorem nm_zero (l : List Bool) : nm l 0 = 0 := by simp [nm, cntT]
theorem nm_succ {l : List Bool} {i : Nat} {b : Bool} (h : l[i]? = some b) : nm l (i + 1) = nm l i + (if b = true then 1 else 0) := by
  unfold nm cntT
  rw [List.take_add_one, h, List.countP_append]
  cases b <;> simp
theorem nm_le (l : List Bool) (i : Nat) : nm l i ≤ cntT l := by
  unfold nm cntT
  exact List.Sublist.countP_le (List.take_sublist _ _)
theorem nm_all (l : List Bool) : nm l l.length = cntT l := by unfold nm; rw [List.take_length]
/-- The names of the first k; zeros behind them. -/
def nmF (l : List Bool) (k : Nat) : List Int := rowOf' l.length fun i => if i < k ∧ l.getD i false = true then (nm l i : Int) else 0
theorem nmF_len (l : List Bool) (k : Nat) : (nmF l k).length = l.length := rowOf_len _ _
theorem nmF_zero (l : List Bool) : nmF l 0 = List.replicate l.length 0 := by
  apply List.ext_getElem?
  intro i
  by_cases h : i < l.length
  · unfold nmF; rw [rowOf_at h, List.getElem?_replicate, if_pos h, if_neg (by omega)]
  · rw [List.getElem?_eq_none (by rw [nmF_len]; omega), List.getElem?_eq_none (by simp; omega)]
theorem nmF_at {l : List Bool} {k i : Nat} (h : i < l.length) : (nmF l k)[i]? = some (if i < k ∧ l.getD i false = true then (nm l i : Int) else 0) := by
  unfold nmF; rw [rowOf_at h]
theorem nmF_skip {l : List Bool} {k : Nat} (h : l[k]? = some false) : nmF l (k + 1) = nmF l k := by
  apply List.ext_getElem?
  intro i
  by_cases hi : i < l.length
  · rw [nmF_at hi, nmF_at hi]
    by_cases e : i = k
    · subst e
      have : l.getD i false = false := by simp [List.getD, h]
      rw [this, if_neg (by simp), if_neg (by simp)]
    · by_cases h2 : i < k
      · simp [h2, Nat.lt_succ_of_lt h2]
      · rw [if_neg (by omega), if_neg (by omega)]
  · rw [List.getElem?_eq_none (by rw [nmF_len]; omega), List.getElem?_eq_none (by rw [nmF_len]; omega)]
theorem nmF_take {l : List Bool} {k : Nat} (h : l[k]? = some true) : nmF l (k + 1) = (nmF l k).set k (nm l k : Int) := by
  have hk := (List.getElem?_eq_some_iff.1 h).1
  apply List.ext_getElem?
  intro i
  by_cases hi : i < l.length
  · by_cases e : k = i
    · subst e
      rw [List.getElem?_set_self (by rw [nmF_len]; exact hk), nmF_at hi, if_pos ⟨by omega, by simp [List.getD, h]⟩]
    · rw [List.getElem?_set_ne e, nmF_at hi, nmF_at hi]
      by_cases h2 : i < k
      · simp [h2, Nat.lt_succ_of_lt h2]
      · rw [if_neg (by omega), if_neg (by omega)]
  · rw [List.getElem?_eq_none (by rw [nmF_len]; omega), List.getElem?_eq_none (by rw [List.length_set, nmF_len]; omega)]
theorem nmF_end {l : List Bool} {i : Nat} (h : l[i]? = some true) : (nmF l l.length)[i]? = some (nm l i : Int) := by
  have hi := (List.getElem?_eq_some_iff.1 h).1
  rw [nmF_at hi, if_pos ⟨hi, by simp [List.getD, h]⟩]
theorem nmF_end' {l : List Bool} {i : Nat} (h : i < l.length) : ∃ x : Int, (nmF l l.length)[i]? = some x ∧ (l[i]? = some true → x = (nm l i : Int)) := by
  refine ⟨_, nmF_at h, fun h2 => by rw [if_pos ⟨h, by simp [List.getD, h2]⟩]⟩

/-! Arcs kept. -/
def kept (l : List Bool) (a : Arc3) : Bool := l.getD a.1.toNat false && l.getD a.2.1.toNat false
def renA (l : List Bool) (a : Arc3) : Arc3 := ((nm l a.1.toNat : Int), (nm l a.2.1.toNat : Int), a.2.2)
def trimA (l : List Bool) (xs : List Arc3) : List Arc3 := (xs.filter (kept l)).map (renA l)
theorem trimA_len (l : List Bool) (xs : List Arc3) : (trimA l xs).length ≤ xs.length := by
  unfold trimA; rw [List.length_map]; exact List.length_filter_le _ _
theorem trimA_snoc (l : List Bool) (xs : List Arc3) (a : Arc3) : trimA l (xs ++ [a]) = if kept l a = true then trimA l xs ++ [renA l a] else trimA l xs := by
  unfold trimA
  rw [List.filter_append, List.map_append]
  by_cases h : kept l a = true
  · rw [if_pos h]; simp [h]
  · rw [if_neg h]; simp [h]
noncomputable def liveO (l : Lb) : List Bool := liveL (ArcP l.2.2) l.2.1.toNat
theorem liveO_len (l : Lb) : (liveO l).length = l.2.1.toNat := liveL_len
open Classical in
noncomputable def trimOk (l : Lb) : Bool := isLab l && decide (cntT (liveO l) ≠ 0)
noncomputable def keepV (l : Lb) (b : List Bool) : Lb := (l.1, (cntT b : Int), trimA b l.2.2)
noncomputable def trimV (l : Lb) : Lb := if trimOk l = true then keepV l (liveO l) else (0, 0, [])
theorem trimV_len (l : Lb) : (trimV l).2.2.length ≤ l.2.2.length := by
  unfold trimV
  split
  · exact trimA_len _ _
  · simp
end Go.Proofs.Ytdohepngandajaa
end

section
/-
  Own slices whose elements are several plain cells each (structs, arrays of numbers): how they read, append of one element.
-/
namespace Go.Sd
open Go.RowKit Go.Deep
/-- Elements of sz cells each, given by f. -/
structure Lay {α : Type} (sz : Nat) (f : α → List Value) : Prop where
  pos : 0 < sz
  len : ∀ x, (f x).length = sz
  one : ∀ x u, u ∈ f x → u.oneCell' = true
def RowG {α : Type} (e : TypeId) (sz : Nat) (f : α → List Value) : OwnRel (List α) := fun w v xs F => w.ownsRow 0 e sz v xs.length (xs.flatMap f) ∧ F = v.ownBlock.toList
section
variable {α : Type} {e : TypeId} {sz : Nat} {f : α → List Value}
theorem flatMap_len (L : Lay sz f) : ∀ (xs : List α), (xs.flatMap f).length = xs.length * sz
  | [] => by simp
  | x :: xs => by simp only [List.flatMap_cons, List.length_append, List.length_cons, L.len, flatMap_len L xs, Nat.add_mul]; omega
theorem flatMap_at (L : Lay sz f) : ∀ {xs : List α} {i j : Nat} {x : α} {u : Value}, xs[i]? = some x → (f x)[j]? = some u → (xs.flatMap f)[i * sz + j]? = some u
  | [], i, j, x, u, h, _ => by simp at h
  | y :: xs, 0, j, x, u, h, hu => by
    simp at h
    subst h
    have hj := (List.getElem?_eq_some_iff.1 hu).1
    rw [List.flatMap_cons, Nat.zero_mul, Nat.zero_add, List.getElem?_append_left hj]
    exact hu
  | y :: xs, i + 1, j, x, u, h, hu => by
    have h2 : xs[i]? = some x := by simpa using h
    have ih := flatMap_at L h2 hu
    have e : (i + 1) * sz + j = (f y).length + (i * sz + j) := by rw [L.len, Nat.add_mul]; omega
    rw [List.flatMap_cons, e, List.getElem?_append_right (by omega), Nat.add_sub_cancel_left]
    exact ih
theorem RowG.held : Held (RowG e sz f) := by
  refine ⟨fun w w' v xs F ⟨h, eF⟩ hk => ?_, fun w v xs F ⟨h, eF⟩ b hb => ?_⟩
  · subst eF
    exact ⟨ownsRow_keep h fun b hb => hk b (by simp [hb]), rfl⟩
  · subst eF
    simp at hb
    exact (h.lt b hb).2
theorem RowG.nil {w : World} {lo : Nat} : New (RowG e sz f) lo w (.slice none 0 0) [] := ⟨[], ⟨World.ownsRow_nil _ _ _ _, rfl⟩, by simp [Fresh]⟩
theorem RowG.slice {w : World} {v : Value} {xs : List α} {F : List Nat} (h : RowG e sz f w v xs F) : ∃ a c, v = .slice a xs.length c := by
  rcases h.1.2 with ⟨rfl, h0⟩ | ⟨g, cap, cur, rfl, _⟩
  · exact ⟨none, 0, by rw [h0]⟩
  · exact ⟨_, _, rfl⟩
theorem RowG.at (L : Lay sz f) {w : World} {v : Value} {xs : List α} {F : List Nat} (h : RowG e sz f w v xs F) (h0 : 0 < xs.length) :
    ∃ g c, v = .slice (some ⟨g, 0, none⟩) xs.length c ∧ F = [g] ∧ xs.length ≤ c ∧ c ≤ maxLen ∧ g < w.heap.size ∧ ∀ i x j u, xs[i]? = some x → (f x)[j]? = some u → w.cell? ⟨g, i * sz + j, none⟩ = some u ∧ w.frozen? ⟨g, i * sz + j, none⟩ = false := by
  obtain ⟨h, rfl⟩ := h
  have hh := h
  rcases h.2 with ⟨rfl, h1⟩ | ⟨g, cap, cur, rfl, _, hg, h1, h2, h3, h4⟩
  · omega
  · refine ⟨g, cap, rfl, rfl, h1, h2, (hh.lt g rfl).2, fun i x j u hx hu => ⟨?_, ?_⟩⟩
    · have := hh.cells (g := g) rfl _ _ (flatMap_at L hx hu)
      have e : (⟨g, 0, none⟩ : Addr).add (i * sz + j) = ⟨g, i * sz + j, none⟩ := by unfold Addr.add; split <;> simp_all
      rw [e] at this
      exact this
    · have hc := hh.cells (g := g) rfl _ _ (flatMap_at L hx hu)
      simp [World.frozen?, hg]
theorem New.rowAt (L : Lay sz f) {lo : Nat} {w : World} {v : Value} {xs : List α} (h : New (RowG e sz f) lo w v xs) (h0 : 0 < xs.length) :
    ∃ g c, v = .slice (some ⟨g, 0, none⟩) xs.length c ∧ xs.length ≤ c ∧ c ≤ maxLen ∧ lo ≤ g ∧ g < w.heap.size ∧ ∀ i x j u, xs[i]? = some x → (f x)[j]? = some u → w.cell? ⟨g, i * sz + j, none⟩ = some u ∧ w.frozen? ⟨g, i * sz + j, none⟩ = false := by
  obtain ⟨F, hF, hn, hge⟩ := h
  obtain ⟨g, c, e, rfl, h1, h2, h3, h4⟩ := hF.at L h0
  exact ⟨g, c, e, h1, h2, hge g (by simp), h3, h4⟩
theorem New.rowSlice {lo : Nat} {w : World} {v : Value} {xs : List α} (h : New (RowG e sz f) lo w v xs) : ∃ a c, v = .slice a xs.length c := by
  obtain ⟨F, hF, _⟩ := h; exact hF.slice
theorem New.rowLen (L : Lay sz f) {lo : Nat} {w : World} {v : Value} {xs : List α} (h : New (RowG e sz f) lo w v xs) : xs.length ≤ maxLen := by
  by_cases h0 : 0 < xs.length
  · obtain ⟨g, c, _, h1, h2, _⟩ := h.rowAt L h0; omega
  · omega
section
variable {P : Program} {w : World} {ops : Array Oper} {rest : List Oper} {o : Oper} {a : Act} {Q : Exit → Act → World → Prop}
/-- 'append(v, y)' where y has sz plain cells, laid in a block of its own. -/
theorem wpl_pushG (L : Lay sz f) (hgd : Region.wanted o (yielded ops a.tmps) = true) (s x : Operand) (t : TypeId)
    (ho : o.op = .call { callee := .builtin .append, args := #[s, x], argTypes := #[t, t] })
    (z : Value) (bytes : Nat) (ht : P.underlying t = some (.slice e)) (hinfo : (P.info? e).map (fun i => (i.zero, i.size, i.bytes)) = some (some z, sz, bytes)) (hz1 : z.cells.size = sz)
    {lo : Nat} {v : Value} {xs : List α} (h0 : New (RowG e sz f) lo w v xs) (hlo : lo ≤ w.heap.size)
    (y : α) {bb : Nat} {c : Nat} (hcell : ∀ j u, (f y)[j]? = some u → w.cell? ⟨bb, j, none⟩ = some u)
    (hs : a.eval s = v) (hx : a.eval x = .slice (some ⟨bb, 0, none⟩) 1 c)
    (hbytes : (xs.length + 1) * bytes ≤ 140737488355328) (h63 : xs.length + 1 ≤ 9223372036854775807)
    (h : ∀ v' w', New (RowG e sz f) lo w' v' (xs ++ [y]) → Below lo w w' → wpList P ops Q rest (a.put o.dst v') w') :
    wpList P ops Q (o :: rest) a w := by
  obtain ⟨i, hi, hzz⟩ := Option.map_eq_some_iff.1 hinfo
  simp only [Prod.mk.injEq] at hzz
  obtain ⟨hz, hsz, hby⟩ := hzz
  obtain ⟨F, ⟨how, rfl⟩, hnd, hge⟩ := h0
  have hvlt : ∀ k, v.ownBlock = some k → lo ≤ k ∧ k < w.heap.size := fun k hk => ⟨hge k (by simp [hk]), (how.lt k hk).2⟩
  obtain ⟨v', w', hrun, how', hg, _, hat⟩ := run_append_own_at (P := P) w 0 t o.type e i z sz bytes ht hi hz hsz hby hz1 L.pos v xs.length (xs.flatMap f) how ⟨bb, 0, none⟩ 1 c (f y) (by rw [L.len]; omega)
    (by
      intro j u' hj
      have e : (⟨bb, 0, none⟩ : Addr).add j = ⟨bb, j, none⟩ := by unfold Addr.add; split <;> simp_all
      rw [e]
      exact hcell j u' hj)
    (fun u hu => L.one y u hu) h63 hbytes (Nat.zero_le _)
  refine wpl_append_run hgd s x t ho hs hx hrun ?_
  refine h v' w' ⟨v'.ownBlock.toList, ⟨by simpa [List.flatMap_append] using how', rfl⟩, by cases v'.ownBlock <;> simp, ?_⟩ (Below.of_grown hg hlo (fun k hk => (hvlt k hk).1))
  intro b hb
  simp at hb
  rcases hat with hat | hat
  · rw [hat] at hb; exact (hvlt b hb).1
  · rw [hat] at hb; simp at hb; omega
end
end
def acell (x : Arc3) : List Value := [.int .i64 x.1, .int .i64 x.2.1, .int .i64 x.2.2]
theorem acell_lay : Lay 3 acell := ⟨by decide, fun _ => rfl, fun x u hu => by
  simp [acell] at hu
  rcases hu with rfl | rfl | rfl <;> rfl⟩
abbrev RowA (e : TypeId) : OwnRel (List Arc3) := RowG e 3 acell
theorem RowG.arcs {e : TypeId} {w : World} {v : Value} {xs : List Arc3} {F : List Nat} (h : RowA e w v xs F) : OArcs w v xs F := by
  by_cases h0 : 0 < xs.length
  · obtain ⟨g, c, rfl, rfl, h1, h2, h3, h4⟩ := RowG.at acell_lay h h0
    have h2' : c ≤ 9223372036854775807 := h2
    refine ⟨by omega, Or.inr ⟨g, c, rfl, h1, h2', rfl, h3, fun j hj => ?_⟩⟩
    obtain ⟨x, hx, _⟩ := at_lt (xs := xs) (k := j / 3) (by omega)
    have hg : xs.getD (j / 3) (0, 0, 0) = x := by simp [List.getD, hx]
    have e : j / 3 * 3 + j % 3 = j := by omega
    have key : arcF xs xs.length j = comp (j % 3) x := by unfold arcF; rw [if_pos (by omega), hg]
    rw [key]
    have h5 := h4 (j / 3) x (j % 3) (.int .i64 (comp (j % 3) x)) hx (by
      have h3 : j % 3 = 0 ∨ j % 3 = 1 ∨ j % 3 = 2 := by omega
      rcases h3 with h3 | h3 | h3 <;> rw [h3] <;> rfl)
    rw [e] at h5
    exact h5
  · have e0 : xs = [] := List.eq_nil_of_length_eq_zero (by omega)
    subst e0
    obtain ⟨h, rfl⟩ := h
    rcases h.2 with ⟨rfl, _⟩ | ⟨g, cap, cur, rfl, _, hg, h1, h2, _, _⟩
    · exact ⟨by simp, Or.inl ⟨rfl, rfl, rfl⟩⟩
    · have h2' : cap ≤ 9223372036854775807 := h2
      exact ⟨by simp, Or.inr ⟨g, cap, rfl, h1, h2', rfl, (h.lt g rfl).2, fun j hj => by simp at hj⟩⟩
end Go.Sd
end

section
/-
  IsResolving, both sides.
-/
namespace Go.Proofs.Ytdohepngandajaa
open Go.RowKit Go.Deep Go.Sd

def resB (xs : List Arc3) (k : Nat) : Bool := decide (k = 0) || !(decide ((at3 xs (k - 1)).1 = (at3 xs k).1) && decide ((at3 xs (k - 1)).2.2 = (at3 xs k).2.2))
def resolvM (l : Lb) : Bool := isLab l && allF (resB l.2.2) l.2.2.length 0
theorem resB_first (xs : List Arc3) (n : Nat) : allF (resB xs) n 0 = allF (resB xs) (n - 1) (0 + 1) := by
  cases n with
  | zero => rfl
  | succ n =>
    show (if resB xs 0 = true then allF (resB xs) n (0 + 1) else false) = _
    rw [if_pos (by unfold resB; simp)]
    rfl
set_option maxHeartbeats 1000000 in
set_option maxRecDepth 10000 in
theorem isResolving_c {w : World} {v : Value} {l : Lb} (h : LabR w v l) :
    Calls Try.prog 138 #[v] w fun e w' => e = .returned (.bool (allF (resB l.2.2) l.2.2.length 0)) ∧ Below w.heap.size w w' := by
  obtain ⟨L, S, xs⟩ := l
  obtain ⟨va, rfl, hlen, a, c, rfl, _, _, _, hcell⟩ := h
  have HT0 := Lib.hid (show allF (resB xs) xs.length 0 = allF (resB xs) xs.length 0 from rfl)
  simp only at hcell hlen
  simp only
  obtain ⟨n, hn⟩ : ∃ n, n = xs.length := ⟨_, rfl⟩
  have Hn := Lib.hid hn
  rw [← hn] at hcell hlen HT0 ⊢
  clear hn
  obtain ⟨T, hT⟩ : ∃ T, T = allF (resB xs) n 0 := ⟨_, rfl⟩
  rw [← hT]
  have HT := Lib.hid hT
  clear hT HT0
  go_enter Try.func138, Try.ntmps138
  have q0 : (w.alloc (.cells #[.int .i64 L, .int .i64 S, .slice a n c] 28)).cell? ⟨w.heap.size, 2, none⟩ = some (.slice a n c) := by simp
  have hb1 : Below w.heap.size w (w.alloc (.cells #[.int .i64 L, .int .i64 S, .slice a n c] 28)) := (Below.refl _ _).alloc (Nat.le_refl _) _
  have m1 : w.heap.size < (w.alloc (.cells #[.int .i64 L, .int .i64 S, .slice a n c] 28)).heap.size := by simp
  go_wp2
  generalize w.alloc (.cells #[.int .i64 L, .int .i64 S, .slice a n c] 28) = w1 at *
  have Hb1 := Lib.hid hb1
  have hz := hb1.size
  go_loopg [8] n (fun g i wr => ∃ (k : Nat), i = .int .i64 k ∧ k + g = n ∧ Hid (T = allF (resB xs) g k) ∧ Below w1.heap.size w1 wr)
  case atStart => exact ⟨0, rfl, by omega, HT, Below.refl _ _⟩
  case round =>
    obtain ⟨k, rfl, hk, HK, hbel⟩ := hrel
    obtain ⟨g, hg⟩ : ∃ g, g = gk := ⟨_, rfl⟩
    rw [← hg] at HK hk
    by_cases hlt : k < n
    · obtain ⟨g', rfl⟩ : ∃ t, g = t + 1 := ⟨g - 1, by omega⟩
      have HK1 := Lib.hid (show T = if resB xs k = true then allF (resB xs) g' (k + 1) else false from HK.out)
      obtain ⟨b, o, rfl, hb, hx0⟩ := hcell (by omega)
      have r2 : wr.cell? ⟨w.heap.size, 2, none⟩ = some (.slice (some ⟨b, o, none⟩) n c) := (hbel.cell (p := ⟨w.heap.size, 2, none⟩) m1).trans q0
      have hz2 := hbel.size
      have hbr : b < wr.heap.size := by omega
      have hwr : w.heap.size < wr.heap.size := by omega
      have Hbel := Lib.hid hbel
      by_cases hk0 : k = 0
      · subst hk0
        obtain ⟨x, hx, _⟩ := at_lt (xs := xs) (k := 0) (by have := Hn.out; omega)
        obtain ⟨f0, f1, f2⟩ := hx0 0 x hx
        rw [Nat.zero_mul, Nat.add_zero] at f0 f1 f2
        have g0 : wr.cell? ⟨b, o, none⟩ = some (.int .i64 x.1) := (hbel.cell (p := ⟨b, o, none⟩) (by simp; omega)).trans ((hb1.cell (p := ⟨b, o, none⟩) hb).trans f0)
        have g1 : wr.cell? ⟨b, o + 1, none⟩ = some (.int .i64 x.2.1) := (hbel.cell (p := ⟨b, o + 1, none⟩) (by simp; omega)).trans ((hb1.cell (p := ⟨b, o + 1, none⟩) hb).trans f1)
        have g2 : wr.cell? ⟨b, o + 2, none⟩ = some (.int .i64 x.2.2) := (hbel.cell (p := ⟨b, o + 2, none⟩) (by simp; omega)).trans ((hb1.cell (p := ⟨b, o + 2, none⟩) hb).trans f2)
        have HT2 := Lib.hid (show T = allF (resB xs) g' (0 + 1) from by rw [HK1.out, if_pos (by unfold resB; simp)])
        clear HK HK1 hx0 hcell hx f0 f1 f2 hbel hb1
        obtain ⟨x0, x1, x2⟩ := x
        simp only at g0 g1 g2
        go_wp2
        go_quiet (fail)
        go_wp2
        go_roundg g'
        case measure => omega
        case rel => exact ⟨0 + 1, by go_num, by omega, HT2, below_drewN (Hbel.out.alloc hz2 _) _⟩
      obtain ⟨j, rfl⟩ : ∃ j, k = j + 1 := ⟨k - 1, by omega⟩
      obtain ⟨x, hx, _⟩ := at_lt (xs := xs) (k := j + 1) (by have := Hn.out; omega)
      obtain ⟨f0, f1, f2⟩ := hx0 (j + 1) x hx
      have g0 : wr.cell? ⟨b, o + (j + 1) * 3, none⟩ = some (.int .i64 x.1) := (hbel.cell (p := ⟨b, o + (j + 1) * 3, none⟩) (by simp; omega)).trans ((hb1.cell (p := ⟨b, o + (j + 1) * 3, none⟩) hb).trans f0)
      have g1 : wr.cell? ⟨b, o + (j + 1) * 3 + 1, none⟩ = some (.int .i64 x.2.1) := (hbel.cell (p := ⟨b, o + (j + 1) * 3 + 1, none⟩) (by simp; omega)).trans ((hb1.cell (p := ⟨b, o + (j + 1) * 3 + 1, none⟩) hb).trans f1)
      have g2 : wr.cell? ⟨b, o + (j + 1) * 3 + 2, none⟩ = some (.int .i64 x.2.2) := (hbel.cell (p := ⟨b, o + (j + 1) * 3 + 2, none⟩) (by simp; omega)).trans ((hb1.cell (p := ⟨b, o + (j + 1) * 3 + 2, none⟩) hb).trans f2)
      obtain ⟨y, hy, _⟩ := at_lt (xs := xs) (k := j) (by have := Hn.out; omega)
      obtain ⟨e0, e1, e2⟩ := hx0 (j) y hy
      have p0 : wr.cell? ⟨b, o + (j) * 3, none⟩ = some (.int .i64 y.1) := (hbel.cell (p := ⟨b, o + (j) * 3, none⟩) (by simp; omega)).trans ((hb1.cell (p := ⟨b, o + (j) * 3, none⟩) hb).trans e0)
      have p1 : wr.cell? ⟨b, o + (j) * 3 + 1, none⟩ = some (.int .i64 y.2.1) := (hbel.cell (p := ⟨b, o + (j) * 3 + 1, none⟩) (by simp; omega)).trans ((hb1.cell (p := ⟨b, o + (j) * 3 + 1, none⟩) hb).trans e1)
      have p2 : wr.cell? ⟨b, o + (j) * 3 + 2, none⟩ = some (.int .i64 y.2.2) := (hbel.cell (p := ⟨b, o + (j) * 3 + 2, none⟩) (by simp; omega)).trans ((hb1.cell (p := ⟨b, o + (j) * 3 + 2, none⟩) hb).trans e2)
      have HB := Lib.hid (show resB xs (j + 1) = !(decide (y.1 = x.1) && decide (y.2.2 = x.2.2)) from by unfold resB; rw [show j + 1 - 1 = j from rfl, at3_of hx, at3_of hy]; simp)
      have hjn : (j : Int) < (n : Int) := by omega
      have hjn1 : (j : Int) + 1 < (n : Int) := by omega
      clear HK hx0 hcell hx hy f0 f1 f2 e0 e1 e2 hbel hb1
      obtain ⟨x0, x1, x2⟩ := x
      obtain ⟨y0, y1, y2⟩ := y
      simp only at g0 g1 g2 p0 p1 p2
      by_cases hf : y0 = x0
      rotate_left
      · have HT2 := Lib.hid (show T = allF (resB xs) g' (j + 1 + 1) from by rw [HK1.out, if_pos (by rw [HB.out]; simp [hf])])
        have t1 : (y0 == x0) = false := by simp; omega
        clear HK1 HB hf
        go_wp2
        go_quiet (fail)
        go_wp2
        go_roundg g'
        case measure => omega
        case rel => exact ⟨j + 1 + 1, by go_num, by omega, HT2, below_drewN (Hbel.out.alloc hz2 _) _⟩
      by_cases hl : y2 = x2
      rotate_left
      · have HT2 := Lib.hid (show T = allF (resB xs) g' (j + 1 + 1) from by rw [HK1.out, if_pos (by rw [HB.out]; simp [hl])])
        have t1 : (y0 == x0) = true := by simp [hf]
        have t2 : (y2 == x2) = false := by simp; omega
        clear HK1 HB hf hl
        go_wp2
        go_quiet (fail)
        go_wp2
        go_roundg g'
        case measure => omega
        case rel => exact ⟨j + 1 + 1, by go_num, by omega, HT2, below_drewN (Hbel.out.alloc hz2 _) _⟩
      have HF := Lib.hid (show T = false from by rw [HK1.out, if_neg (by rw [HB.out]; simp [hf, hl])])
      have t1 : (y0 == x0) = true := by simp [hf]
      have t2 : (y2 == x2) = true := by simp [hl]
      clear HK1 HB hf hl
      go_wp2
      go_quiet (fail)
      go_wp2
      go_ret
      exact ⟨by rw [HF.out]; rfl, below_drewN ((Hb1.out.trans (Hbel.out.mono hz)).alloc (Nat.le_of_lt hwr) _) _⟩
    · have e : g = 0 := by omega
      subst e
      have HF := Lib.hid (show T = true from HK.out)
      have Hbz := Lib.hid (Hb1.out.trans (hbel.mono hz))
      have r2 : wr.cell? ⟨w.heap.size, 2, none⟩ = some (.slice a n c) := (hbel.cell (p := ⟨w.heap.size, 2, none⟩) m1).trans q0
      clear HK hbel hg hb1 hcell
      go_wp2
      go_ret
      exact ⟨by rw [HF.out]; rfl, Hbz.out⟩
set_option maxHeartbeats 1000000 in
set_option maxRecDepth 10000 in
theorem l15Resolving_c {w : World} {v : Value} {l : Lb} (h : LabR w v l) :
    Calls Try.prog 135 #[v] w fun e w' => e = .returned (.bool (allF (resB l.2.2) l.2.2.length 0)) ∧ Below w.heap.size w w' := by
  obtain ⟨L, S, xs⟩ := l
  obtain ⟨va, rfl, hlen, a, c, rfl, _, _, _, hcell⟩ := h
  have HT0 := Lib.hid (show allF (resB xs) xs.length 0 = allF (resB xs) xs.length 0 from rfl)
  simp only at hcell hlen
  simp only
  obtain ⟨n, hn⟩ : ∃ n, n = xs.length := ⟨_, rfl⟩
  have Hn := Lib.hid hn
  rw [← hn] at hcell hlen HT0 ⊢
  clear hn
  obtain ⟨T, hT⟩ : ∃ T, T = allF (resB xs) n 0 := ⟨_, rfl⟩
  rw [← hT]
  have HT := Lib.hid hT
  clear hT HT0
  go_enter Try.func135, Try.ntmps135
  have q0 : (w.alloc (.cells #[.int .i64 L, .int .i64 S, .slice a n c] 28)).cell? ⟨w.heap.size, 2, none⟩ = some (.slice a n c) := by simp
  have hb1 : Below w.heap.size w (w.alloc (.cells #[.int .i64 L, .int .i64 S, .slice a n c] 28)) := (Below.refl _ _).alloc (Nat.le_refl _) _
  have m1 : w.heap.size < (w.alloc (.cells #[.int .i64 L, .int .i64 S, .slice a n c] 28)).heap.size := by simp
  go_wp2
  generalize w.alloc (.cells #[.int .i64 L, .int .i64 S, .slice a n c] 28) = w1 at *
  have Hb1 := Lib.hid hb1
  have hz := hb1.size
  go_loopg [3] (n - 1) (fun g i wr => ∃ (k : Nat), i = .int .i64 ((k : Int) + 1) ∧ (k + 1 + g = n ∨ n = 0 ∧ g = 0) ∧ Hid (T = allF (resB xs) g (k + 1)) ∧ Below w1.heap.size w1 wr)
  case atStart => exact ⟨0, rfl, by omega, Lib.hid (by rw [HT.out]; exact resB_first xs n), Below.refl _ _⟩
  case round =>
    obtain ⟨k, rfl, hk, HK, hbel⟩ := hrel
    obtain ⟨g, hg⟩ : ∃ g, g = gk := ⟨_, rfl⟩
    rw [← hg] at HK hk
    by_cases hlt : k + 1 < n
    · obtain ⟨g', rfl⟩ : ∃ t, g = t + 1 := ⟨g - 1, by omega⟩
      obtain ⟨j, rfl⟩ : ∃ j, j = k := ⟨_, rfl⟩
      have HK1 := Lib.hid (show T = if resB xs (j + 1) = true then allF (resB xs) g' (j + 1 + 1) else false from HK.out)
      obtain ⟨b, o, rfl, hb, hx0⟩ := hcell (by omega)
      have r2 : wr.cell? ⟨w.heap.size, 2, none⟩ = some (.slice (some ⟨b, o, none⟩) n c) := (hbel.cell (p := ⟨w.heap.size, 2, none⟩) m1).trans q0
      have hz2 := hbel.size
      have hbr : b < wr.heap.size := by omega
      have hwr : w.heap.size < wr.heap.size := by omega
      have Hbel := Lib.hid hbel
      obtain ⟨x, hx, _⟩ := at_lt (xs := xs) (k := j + 1) (by have := Hn.out; omega)
      obtain ⟨f0, f1, f2⟩ := hx0 (j + 1) x hx
      have g0 : wr.cell? ⟨b, o + (j + 1) * 3, none⟩ = some (.int .i64 x.1) := (hbel.cell (p := ⟨b, o + (j + 1) * 3, none⟩) (by simp; omega)).trans ((hb1.cell (p := ⟨b, o + (j + 1) * 3, none⟩) hb).trans f0)
      have g1 : wr.cell? ⟨b, o + (j + 1) * 3 + 1, none⟩ = some (.int .i64 x.2.1) := (hbel.cell (p := ⟨b, o + (j + 1) * 3 + 1, none⟩) (by simp; omega)).trans ((hb1.cell (p := ⟨b, o + (j + 1) * 3 + 1, none⟩) hb).trans f1)
      have g2 : wr.cell? ⟨b, o + (j + 1) * 3 + 2, none⟩ = some (.int .i64 x.2.2) := (hbel.cell (p := ⟨b, o + (j + 1) * 3 + 2, none⟩) (by simp; omega)).trans ((hb1.cell (p := ⟨b, o + (j + 1) * 3 + 2, none⟩) hb).trans f2)
      obtain ⟨y, hy, _⟩ := at_lt (xs := xs) (k := j) (by have := Hn.out; omega)
      obtain ⟨e0, e1, e2⟩ := hx0 (j) y hy
      have p0 : wr.cell? ⟨b, o + (j) * 3, none⟩ = some (.int .i64 y.1) := (hbel.cell (p := ⟨b, o + (j) * 3, none⟩) (by simp; omega)).trans ((hb1.cell (p := ⟨b, o + (j) * 3, none⟩) hb).trans e0)
      have p1 : wr.cell? ⟨b, o + (j) * 3 + 1, none⟩ = some (.int .i64 y.2.1) := (hbel.cell (p := ⟨b, o + (j) * 3 + 1, none⟩) (by simp; omega)).trans ((hb1.cell (p := ⟨b, o + (j) * 3 + 1, none⟩) hb).trans e1)
      have p2 : wr.cell? ⟨b, o + (j) * 3 + 2, none⟩ = some (.int .i64 y.2.2) := (hbel.cell (p := ⟨b, o + (j) * 3 + 2, none⟩) (by simp; omega)).trans ((hb1.cell (p := ⟨b, o + (j) * 3 + 2, none⟩) hb).trans e2)
      have HB := Lib.hid (show resB xs (j + 1) = !(decide (y.1 = x.1) && decide (y.2.2 = x.2.2)) from by unfold resB; rw [show j + 1 - 1 = j from rfl, at3_of hx, at3_of hy]; simp)
      have hjn : (j : Int) < (n : Int) := by omega
      have hjn1 : (j : Int) + 1 < (n : Int) := by omega
      clear HK hx0 hcell hx hy f0 f1 f2 e0 e1 e2 hbel hb1
      obtain ⟨x0, x1, x2⟩ := x
      obtain ⟨y0, y1, y2⟩ := y
      simp only at g0 g1 g2 p0 p1 p2
      by_cases hf : y0 = x0
      rotate_left
      · have HT2 := Lib.hid (show T = allF (resB xs) g' (j + 1 + 1) from by rw [HK1.out, if_pos (by rw [HB.out]; simp [hf])])
        have t1 : (x0 == y0) = false := by simp; omega
        clear HK1 HB hf
        go_wp2
        go_quiet (fail)
        go_wp2
        go_roundg g'
        case measure => omega
        case rel => exact ⟨j + 1, by go_num, by omega, HT2, below_drewN Hbel.out _⟩
      by_cases hl : y2 = x2
      rotate_left
      · have HT2 := Lib.hid (show T = allF (resB xs) g' (j + 1 + 1) from by rw [HK1.out, if_pos (by rw [HB.out]; simp [hl])])
        have t1 : (x0 == y0) = true := by simp [hf]
        have t2 : (x2 == y2) = false := by simp; omega
        clear HK1 HB hf hl
        go_wp2
        go_quiet (fail)
        go_wp2
        go_roundg g'
        case measure => omega
        case rel => exact ⟨j + 1, by go_num, by omega, HT2, below_drewN Hbel.out _⟩
      have HF := Lib.hid (show T = false from by rw [HK1.out, if_neg (by rw [HB.out]; simp [hf, hl])])
      have t1 : (x0 == y0) = true := by simp [hf]
      have t2 : (x2 == y2) = true := by simp [hl]
      clear HK1 HB hf hl
      go_wp2
      go_quiet (fail)
      go_wp2
      go_ret
      exact ⟨by rw [HF.out]; rfl, below_drewN (Hb1.out.trans (Hbel.out.mono hz)) _⟩
    · have e : g = 0 := by omega
      subst e
      have HF := Lib.hid (show T = true from HK.out)
      have Hbz := Lib.hid (Hb1.out.trans (hbel.mono hz))
      have r2 : wr.cell? ⟨w.heap.size, 2, none⟩ = some (.slice a n c) := (hbel.cell (p := ⟨w.heap.size, 2, none⟩) m1).trans q0
      clear HK hbel hg hb1 hcell
      go_wp2
      go_ret
      exact ⟨by rw [HF.out]; rfl, Hbz.out⟩
set_option maxHeartbeats 400000 in
theorem impl_IsResolving_c {w : World} {v : Value} {l : Lb} (h : LabR w v l) :
    Calls Try.prog 68 #[v] w fun e w' => e = .returned (.bool (resolvM l)) ∧ Below w.heap.size w w' := by
  have H := Lib.hid (show resolvM l = (isLab l && allF (resB l.2.2) l.2.2.length 0) from rfl)
  have H1 := Lib.hid (fun w1 (hb : Below w.heap.size w w1) => impl_IsLabels_c (LabR.frame _ _ _ _ h hb))
  have H2 := Lib.hid (fun w1 (hb : Below w.heap.size w w1) => isResolving_c (LabR.frame _ _ _ _ h hb))
  generalize resolvM l = T at H ⊢
  generalize isLab l = p at H H1
  generalize allF (resB l.2.2) l.2.2.length 0 = q at H H2
  obtain ⟨L, S, xs⟩ := l
  obtain ⟨va, rfl, _, a, c, rfl, _, _, _, _⟩ := h
  simp only at *
  go_enter Try.func68, Try.ntmps68
  go_wp2_with fail
  obtain ⟨w1, ex, A0, c0, c1, c2, m1⟩ := boxA3_ex w 28 (.int .i64 L) (.int .i64 S) (.slice a xs.length c)
  change Calls Try.prog _ _ (w.alloc (.cells #[.int .i64 L, .int .i64 S, .slice a xs.length c] 28)) _
  rw [ex]
  clear ex
  refine (H1.out _ A0).mono ?_
  rintro e w2 ⟨rfl, hb2⟩
  replace c0 := (hb2.cell (p := ⟨w.heap.size, 0, none⟩) m1).trans c0
  replace c1 := (hb2.cell (p := ⟨w.heap.size, 1, none⟩) m1).trans c1
  replace c2 := (hb2.cell (p := ⟨w.heap.size, 2, none⟩) m1).trans c2
  replace A0 := A0.trans (hb2.mono A0.size)
  clear hb2
  cases p with
  | false => go_wp2; go_ret; exact ⟨by rw [H.out]; rfl, A0⟩
  | true =>
  go_wp2_with fail
  refine (H2.out _ A0).mono ?_
  rintro e w3 ⟨rfl, hb3⟩
  replace A0 := A0.trans (hb3.mono A0.size)
  clear hb3
  go_wp2
  go_ret
  exact ⟨by rw [H.out]; rfl, A0⟩
set_option maxHeartbeats 400000 in
theorem spec_IsResolving_c {w : World} {v : Value} {l : Lb} (h : LabR w v l) :
    Calls Try.prog 65 #[v] w fun e w' => e = .returned (.bool (resolvM l)) ∧ Below w.heap.size w w' := by
  have H := Lib.hid (show resolvM l = (isLab l && allF (resB l.2.2) l.2.2.length 0) from rfl)
  have H1 := Lib.hid (fun w1 (hb : Below w.heap.size w w1) => spec_IsLabels_c (LabR.frame _ _ _ _ h hb))
  have H2 := Lib.hid (fun w1 (hb : Below w.heap.size w w1) => l15Resolving_c (LabR.frame _ _ _ _ h hb))
  generalize resolvM l = T at H ⊢
  generalize isLab l = p at H H1
  generalize allF (resB l.2.2) l.2.2.length 0 = q at H H2
  obtain ⟨L, S, xs⟩ := l
  obtain ⟨va, rfl, _, a, c, rfl, _, _, _, _⟩ := h
  simp only at *
  go_enter Try.func65, Try.ntmps65
  go_wp2_with fail
  obtain ⟨w1, ex, A0, c0, c1, c2, m1⟩ := boxA3_ex w 28 (.int .i64 L) (.int .i64 S) (.slice a xs.length c)
  change Calls Try.prog _ _ (w.alloc (.cells #[.int .i64 L, .int .i64 S, .slice a xs.length c] 28)) _
  rw [ex]
  clear ex
  refine (H1.out _ A0).mono ?_
  rintro e w2 ⟨rfl, hb2⟩
  replace c0 := (hb2.cell (p := ⟨w.heap.size, 0, none⟩) m1).trans c0
  replace c1 := (hb2.cell (p := ⟨w.heap.size, 1, none⟩) m1).trans c1
  replace c2 := (hb2.cell (p := ⟨w.heap.size, 2, none⟩) m1).trans c2
  replace A0 := A0.trans (hb2.mono A0.size)
  clear hb2
  cases p with
  | false => go_wp2; go_ret; exact ⟨by rw [H.out]; rfl, A0⟩
  | true =>
  go_wp2_with fail
  refine (H2.out _ A0).mono ?_
  rintro e w3 ⟨rfl, hb3⟩
  replace A0 := A0.trans (hb3.mono A0.size)
  clear hb3
  go_wp2
  go_ret
  exact ⟨by rw [H.out]; rfl, A0⟩
end Go.Proofs.Ytdohepngandajaa
end
