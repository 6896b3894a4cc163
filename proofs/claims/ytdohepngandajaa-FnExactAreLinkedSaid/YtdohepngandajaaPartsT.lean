/-
  PartsOf, the reference's, whole.
-/
import Derived.Test.YtdohepngandajaaRows
import Derived.Test.YtdohepngandajaaBase
import Derived.Test.YtdohepngandajaaHarn
import Derived.Test.YtdohepngandajaaMoeb
import Derived.Test.YtdohepngandajaaPush
import Derived.Test.YtdohepngandajaaPartsM
import Derived.Test.YtdohepngandajaaPartsS
import Derived.Test.YtdohepngandajaaPairLib
namespace Go.Sd
open Go.RowKit Go.Deep
/-- Where the rows of an own table lie. -/
theorem OTab.rows {eI eR : TypeId} {w : World} {v : Value} {xs : Tbl} {F : List Nat} (h : OTab eI eR w v xs F) (hn : F.Nodup) (h0 : 0 < xs.length) :
    ∃ (b c : Nat) (Fs : List (List Nat)), v = .slice (some ⟨b, 0, none⟩) xs.length c ∧ xs.length ≤ c ∧ b < w.heap.size ∧ F = b :: Fs.flatten ∧ b ∉ Fs.flatten ∧ Fs.flatten.Nodup ∧ Fs.length = xs.length ∧
      ∀ k x, xs[k]? = some x → ∃ u G, Fs[k]? = some G ∧ w.cell? ⟨b, k, none⟩ = some u ∧ OInts eI w u x G := by
  obtain ⟨us, Fs, ho, hl, hr, rfl⟩ := h
  have hul : us.length = xs.length := by simpa using ho.1
  rcases ho.2 with ⟨rfl, hz⟩ | ⟨g, cap, cur, rfl, _, hg, hnc, hcm, hcs, htake⟩
  · omega
  · have hnd := List.nodup_append.1 hn
    refine ⟨g, cap, Fs, rfl, by omega, (ho.lt g rfl).2, rfl, fun hm => hnd.2.2 g (by simp [Value.ownBlock]) g hm rfl, hnd.2.1, hl, fun k x hx => ?_⟩
    have hk := (List.getElem?_eq_some_iff.1 hx).1
    refine ⟨us[k], Fs[k], List.getElem?_eq_getElem (by omega), ?_, hr k _ x _ (List.getElem?_eq_getElem (by omega)) hx (List.getElem?_eq_getElem (by omega))⟩
    have := ho.cells (g := g) rfl k us[k] (List.getElem?_eq_getElem (by omega))
    cases k <;> simpa [Addr.add] using this
theorem comp_pos : ∀ (r h : List Int), 0 < (compo r h).length
  | [], h => by simp [compo]
  | x :: r, h => by
    unfold compo
    rw [List.range_succ_eq_map, List.flatMap_cons, List.length_append]
    have := comp_pos r (h ++ [((0 : Nat) : Int)])
    omega
theorem flatten_take_succ {Fs : List (List Nat)} {k : Nat} {G : List Nat} (h : Fs[k]? = some G) : (Fs.take (k + 1)).flatten = (Fs.take k).flatten ++ G := by
  rw [List.take_add_one, h]; simp
theorem flatten_disj {Fs : List (List Nat)} (hn : Fs.flatten.Nodup) {k : Nat} {G : List Nat} (h : Fs[k]? = some G) : ∀ b, b ∈ G → b ∉ (Fs.take k).flatten := by
  intro b hb hm
  have e : Fs = Fs.take k ++ Fs.drop k := (List.take_append_drop k Fs).symm
  rw [e, List.flatten_append] at hn
  have hk := (List.getElem?_eq_some_iff.1 h).1
  have hd : b ∈ (Fs.drop k).flatten := by
    rw [List.drop_eq_getElem_cons hk, List.flatten_cons]
    have : Fs[k] = G := by rw [List.getElem?_eq_getElem hk] at h; exact Option.some.inj h
    rw [this]; exact List.mem_append_left _ hb
  exact (List.nodup_append.1 hn).2.2 b hm b hd rfl
theorem flatten_take_mem {Fs : List (List Nat)} {k b : Nat} (h : b ∈ (Fs.take k).flatten) : b ∈ Fs.flatten := by
  obtain ⟨G, hG, hb⟩ := List.mem_flatten.1 h
  exact List.mem_flatten_of_mem (List.mem_of_mem_take hG) hb
end Go.Sd
namespace Go.Proofs.Ytdohepngandajaa
open Go.RowKit Go.Deep Go.Sd

set_option maxHeartbeats 4000000 in
set_option maxRecDepth 10000 in
theorem spec_PartsOf_c {w : World} {v : Value} {row : List Int} (h : Ints w v row) :
    Calls Try.prog 150 #[v] w (Makes (OTab 3 50) w (partsV row)) := by
  have hlen := h.len
  obtain ⟨a, c, rfl, _, _, hcell⟩ := h.shape
  have Hi := Lib.hid h
  clear h
  have HV := Lib.hid (show partsV row = if row.length ≤ 4 ∧ rowOk row = true then (compo row []).filter (keepS row) else [] from rfl)
  generalize partsV row = V at HV ⊢
  have Hzr := Lib.hid (show ∀ x, keepS row x = (!decide (x = List.replicate row.length 0) && !decide (x = row)) from fun _ => rfl)
  obtain ⟨n, hn⟩ : ∃ n, n = row.length := ⟨_, rfl⟩
  have Hn := Lib.hid hn
  rw [← hn] at hlen hcell HV Hi Hzr ⊢
  clear hn
  have hn0 : New (OTab 3 50) w.heap.size (w.alloc (.cells #[] 50)) (.slice (some ⟨w.heap.size, 0, none⟩) 0 0) [] := New.empty w (Nat.le_refl _)
  have hb0 : Below w.heap.size w (w.alloc (.cells #[] 50)) := (Below.refl _ _).alloc (Nat.le_refl _) _
  have hz0 : (w.alloc (.cells #[] 50)).heap.size = w.heap.size + 1 := by simp
  go_enter Try.func150, Try.ntmps150
  go_wp2
  generalize w.alloc (.cells #[] 50) = w1 at *
  have Hn0 := Lib.hid hn0
  have Hz0 := Lib.hid hz0
  have Hb0 := Lib.hid hb0
  clear hn0 hz0 hb0
  go_loopg [4] n (fun g i wr => ∃ (k : Nat), i = .int .i64 k ∧ k + g = n ∧ Hid (rowOk row = rowOk (row.drop k)) ∧ w1 = wr)
  case atStart => exact ⟨0, rfl, by omega, Lib.hid rfl, rfl⟩
  case round =>
    obtain ⟨k, rfl, hk, HK, rfl⟩ := hrel
    by_cases hlt : k < n
    · obtain ⟨b, o, rfl, hb, hx0⟩ := hcell (by omega)
      obtain ⟨x, hx, hd⟩ := at_lt (xs := row) (k := k) (by have := Hn.out; omega)
      obtain ⟨u, hu, hux⟩ := hx0 k x hx
      obtain rfl : u = .int .i64 x := hux
      have hu1 : w1.cell? ⟨b, o + k, none⟩ = some (.int .i64 x) := (Hb0.out.cell (p := ⟨b, o + k, none⟩) hb).trans hu
      have HK1 := Lib.hid (show rowOk row = (decide (0 ≤ x ∧ x ≤ 3) && rowOk (row.drop (k + 1))) from by rw [HK.out, hd]; rfl)
      have Hin := Lib.hid (fun w1 => (show Calls Try.prog 75 #[.int .i64 x, .int .i64 0, .int .i64 3] w1 fun e w' => e = .returned (.bool (decide (0 ≤ x ∧ x ≤ 3))) ∧ w1 = w' from by rw [Bool.decide_and]; exact l1In_c x 0 3 w1))
      have hkn : (k : Int) < (n : Int) := by omega
      clear hx hd hx0 hcell hu HK
      generalize decide (0 ≤ x ∧ x ≤ 3) = d at HK1 Hin
      cases d with
      | false =>
        have HF := Lib.hid (show V = [] from by rw [HV.out, if_neg (fun h => by rw [HK1.out] at h; simp at h)])
        go_wp2_with fail
        refine (Hin.out _).mono ?_
        rintro e w' ⟨rfl, rfl⟩
        clear HK1 HV
        go_wp2
        go_ret
        exact ⟨_, rfl, by rw [HF.out]; exact Hn0.out, Hb0.out⟩
      | true =>
        have HF := Lib.hid (show rowOk row = rowOk (row.drop (k + 1)) from by rw [HK1.out]; rfl)
        go_wp2_with fail
        refine (Hin.out _).mono ?_
        rintro e w' ⟨rfl, rfl⟩
        clear HK1
        go_wp2
        go_roundg (n - (k + 1))
        case measure => omega
        case rel => exact ⟨k + 1, by go_num, by omega, HF, rfl⟩
    · have hok : rowOk row = true := by rw [HK.out, drop_len (by have := Hn.out; omega)]; rfl
      have Hok := Lib.hid hok
      clear HK hok hcell
      by_cases h4 : n ≤ 4
      rotate_left
      · have HF := Lib.hid (show V = [] from by rw [HV.out, if_neg (fun h => h4 h.1)])
        clear HV
        go_wp2
        go_ret
        exact ⟨_, rfl, by rw [HF.out]; exact Hn0.out, Hb0.out⟩
      have HVV := Lib.hid (show V = (compo row []).filter (keepS row) from by rw [HV.out, if_pos ⟨h4, Hok.out⟩])
      clear HV
      go_wp2_with (first
        | (at_make; refine wpl_make (R := OIntR) rfl (.tmp 27) (.tmp 27) 50 rfl 3 (.int .i64 0) 8 Try.underlying50 infoI rfl n (by rfl) (by rfl) (by omega) (by omega) (d := 0) (fun _ => ⟨rfl, rfl⟩) ?_; intro wm hzm hnm hbm; have Hzm := Lib.hid hzm; have Hnm := Lib.hid hnm; have Hbm := Lib.hid hbm; clear hzm hnm hbm)
        | fail)
      have Hbwm := Lib.hid (Hb0.out.trans (Hbm.out.mono Hb0.out.size))
      obtain ⟨G, hG, hGn, hGe⟩ := New.empty (e := 3) (R := OIntR) (lo := wm.heap.size) wm (Nat.le_refl _)
      obtain ⟨F, hF, hFn, hFe⟩ := New.empty (e := 50) (R := OInts 3) (lo := (wm.alloc (.cells #[] 3)).heap.size) (wm.alloc (.cells #[] 3)) (Nat.le_refl _)
      have hGlt := (OInts.kept _).lt _ _ _ _ hG
      have hFlt := (OTab.kept _ _).lt _ _ _ _ hF
      have hz1 : (wm.alloc (.cells #[] 3)).heap.size = wm.heap.size + 1 := by simp
      have hz2 : ((wm.alloc (.cells #[] 3)).alloc (.cells #[] 50)).heap.size = wm.heap.size + 1 + 1 := by simp
      have hb2 : Below wm.heap.size wm ((wm.alloc (.cells #[] 3)).alloc (.cells #[] 50)) := ((Below.refl _ _).alloc (Nat.le_refl _) _).alloc (by simp) _
      rw [hz1] at hFe hF hGlt
      rw [hz2] at hFlt
      have hp4 : 4 ^ n ≤ 256 := Nat.le_trans (Nat.pow_le_pow_right (by decide) h4) (by decide)
      have Hfill := Lib.hid (l17Fill_c (wl := wm) Hok.out (by rw [← Hn.out]; exact h4) (Ints.frame _ _ _ _ Hi.out Hbwm.out) n (head := []) (out := []) (by simp; exact Hn.out) hb2 (Kept.below (OInts.kept _) hG ((Below.refl _ _).alloc (Nat.le_refl _) _)) hGn hF hFn (fun b h1 h2 => by have := hGlt b h1; have := hFe b h2; omega) (fun b hb => by have := hFe b hb; omega) (by simp; omega))
      have HFG := Lib.hid (show (∀ b, b ∈ F → wm.heap.size ≤ b) ∧ (∀ b, b ∈ G → wm.heap.size ≤ b) ∧ (∀ b, b ∈ F → b < wm.heap.size + 1 + 1) from ⟨fun b hb => by have := hFe b hb; omega, hGe, hFlt⟩)
      have Hb2 := Lib.hid hb2
      have Hz2 := Lib.hid hz2
      clear hG hGn hGe hF hFn hFe hGlt hFlt hz1 hz2 hb2
      go_wp2_with fail
      refine Hfill.out.mono ?_
      rintro e w5 ⟨r, F', rfl, hall, hnd, hin, hoff⟩
      rw [List.nil_append, show row.drop ([] : List Int).length = row from rfl] at hall
      have hge : ∀ b, b ∈ F' → wm.heap.size ≤ b := fun b hb => by
        rcases hin b hb with h | h | h
        · exact HFG.out.1 b h
        · exact HFG.out.2.1 b h
        · have := Hz2.out; omega
      have hbw5 : Below wm.heap.size wm w5 := Hb2.out.trans (hoff.below HFG.out.1 Hb2.out.size)
      obtain ⟨hb9, hc9, Fs, rfl, hcap, hblt, rfl, hbF, hFsn, hFsl, hrows⟩ := OTab.rows hall hnd (comp_pos row [])
      obtain ⟨m, hm⟩ : ∃ m, m = (compo row []).length := ⟨_, rfl⟩
      have Hm := Lib.hid hm
      have hm256 : m ≤ 256 := by rw [hm]; have := comp_len row [] Hok.out; rw [← Hn.out] at this; omega
      rw [← hm] at hFsl hcap ⊢
      clear hm
      obtain ⟨Fo, hFo, hFon, hFoge⟩ := Hn0.out
      have hFolt := (OTab.kept _ _).lt _ _ _ _ hFo
      obtain ⟨Z, hZ, hZn, hZge⟩ := Hnm.out
      have hZlt := (OInts.kept _).lt _ _ _ _ hZ
      have hzmm := Hzm.out
      have HFo5 := Lib.hid (Kept.below (OTab.kept _ _) (Kept.below (OTab.kept _ _) hFo (Hbm.out)) (hbw5))
      have HZ5 := Lib.hid (Kept.below (OInts.kept _) hZ hbw5)
      have hsz5 := hbw5.size
      have Hdz := Lib.hid (show ∀ b, b ∈ Z → b ∉ Fo ∧ b ∉ Fs.flatten from fun b hb => ⟨fun h => by have := hZge b hb; have := hFolt b h; omega, fun h => by have := hZlt b hb; have := hge b (List.mem_cons_of_mem _ h); omega⟩)
      have Hdo := Lib.hid (show ∀ b, b ∈ Fo → b ∉ Fs.flatten ∧ b ≠ hb9 ∧ w.heap.size ≤ b from fun b hb => ⟨fun h => by have := hFolt b hb; have := hge b (List.mem_cons_of_mem _ h); omega, fun h => by have := hFolt b hb; have := hge b (by rw [h]; simp); omega, hFoge b hb⟩)
      have Hge := Lib.hid hge
      have Hrows := Lib.hid hrows
      have HFsn := Lib.hid hFsn
      have HbF := Lib.hid hbF
      have Hbw5 := Lib.hid (Hbwm.out.trans (hbw5.mono Hbwm.out.size))
      have Hblt := Lib.hid hblt
      have HFon := Lib.hid hFon
      have hwm : w.heap.size ≤ wm.heap.size := Hbwm.out.size
      clear hall hnd hin hoff hge hbw5 hblt hbF hFsn hrows hFo hFon hFoge hFolt hZ hZn hZge hZlt hzmm hsz5 Hfill HFG
      go_wp2
      go_loopg [3, 7] m (fun g vo i wr => ∃ (k : Nat) (Fk : List Nat), i = .int .i64 k ∧ k + g = m ∧ Hid (OTab 3 50 wr vo (((compo row []).take k).filter (keepS row)) Fk) ∧ Hid Fk.Nodup ∧ Hid (Out (Fo ++ (Fs.take k).flatten) w5 Fk) ∧ Hid (Off (Fo ++ (Fs.take k).flatten) w5 wr))
      case atStart => exact ⟨0, Fo, rfl, by omega, Lib.hid (by simpa using HFo5.out), HFon, Lib.hid (fun b hb => Or.inl (by simp [hb])), Lib.hid (Off.refl _ _)⟩
      case round =>
        obtain ⟨k, Fk, rfl, hk2, hown, hnd, hin, hoff⟩ := hrel
        have hge2 : ∀ b, b ∈ Fo ++ (Fs.take k).flatten → w.heap.size ≤ b := fun b hb => by
          rcases List.mem_append.1 hb with h | h
          · exact (Hdo.out b h).2.2
          · have := Hge.out b (List.mem_cons_of_mem _ (flatten_take_mem h)); omega
        have hbr : Below w.heap.size w wr := Hbw5.out.trans (hoff.out.below hge2 Hbw5.out.size)
        by_cases hlt2 : k < m
        · obtain ⟨x, hx, hd⟩ := at_lt (xs := compo row []) (k := k) (by have := Hm.out; omega)
          obtain ⟨u, Gk, hGk, hcu, hou⟩ := Hrows.out k x hx
          have hdk := flatten_disj HFsn.out hGk
          have hGkF : ∀ b, b ∈ Gk → b ∈ Fs.flatten := fun b hb => List.mem_flatten_of_mem (List.mem_of_getElem? hGk) hb
          have hbh : hb9 ∉ Fo ++ (Fs.take k).flatten := fun hm => by
            rcases List.mem_append.1 hm with h | h
            · exact (Hdo.out _ h).2.1 rfl
            · exact HbF.out (flatten_take_mem h)
          have hGd : ∀ b, b ∈ Gk → b ∉ Fo ++ (Fs.take k).flatten := fun b hb hm => by
            rcases List.mem_append.1 hm with h | h
            · exact (Hdo.out b h).1 (hGkF b hb)
            · exact hdk b hb h
          have hcr : wr.cell? ⟨hb9, k, none⟩ = some u := by
            rw [← hcu]; simp only [World.cell?, hoff.out.block _ Hblt.out hbh]
          have hour := Kept.off (OInts.kept _) hou hoff.out hGd
          have hzr := Kept.off (OInts.kept _) HZ5.out hoff.out (fun b hb hm => by
            rcases List.mem_append.1 hm with h | h
            · exact (Hdz.out b hb).1 h
            · exact (Hdz.out b hb).2 (flatten_take_mem h))
          have hGlt := (OInts.kept _).lt _ _ _ _ hou
          have hGkn : Gk.Nodup := (nodup_flatten.1 HFsn.out).1 _ (List.mem_of_getElem? hGk)
          have HC1 := Lib.hid (l4SameRow_c hour.reads hzr.reads)
          have HC2 := Lib.hid (fun wz (hz : Drawn wr wz) => l4SameRow_c (hz.read Ints.frame hour.reads) (hz.read Ints.frame (Ints.frame _ _ _ _ Hi.out hbr)))
          have HKp := Lib.hid (show keepS row x = (!decide (x = List.replicate n 0) && !decide (x = row)) from Hzr.out x)
          have HT := Lib.hid (show (compo row []).take (k + 1) = (compo row []).take k ++ [x] from (take_snoc' hx).symm)
          have HFk := Lib.hid (show (Fs.take (k + 1)).flatten = (Fs.take k).flatten ++ Gk from flatten_take_succ hGk)
          obtain ⟨ua, uc, rfl, _, _, _⟩ := hour.reads.shape
          have Hour := Lib.hid hour
          have HGd := Lib.hid hGd
          have HGkn := Lib.hid hGkn
          have hlen3 : (((compo row []).take k).filter (keepS row)).length ≤ 256 := by
            have h1 := List.length_filter_le (keepS row) ((compo row []).take k)
            have h2 : ((compo row []).take k).length ≤ k := List.length_take_le _ _
            omega
          have Hlen3 := Lib.hid hlen3
          have Hmono := Lib.hid (show ∀ b, b ∈ Fo ++ (Fs.take k).flatten → b ∈ Fo ++ (Fs.take (k + 1)).flatten from fun b hb => by
            rw [HFk.out, ← List.append_assoc]; exact List.mem_append_left _ hb)
          have HinG := Lib.hid (show ∀ b, b ∈ Gk → b ∈ Fo ++ (Fs.take (k + 1)).flatten from fun b hb => by
            rw [HFk.out, ← List.append_assoc]; exact List.mem_append_right _ hb)
          have HFkd := Lib.hid (show ∀ b, b ∈ Gk → b ∉ Fk from fun b hb hm => by
            rcases hin.out b hm with h | h
            · exact hGd b hb h
            · have := hGlt b hb; omega)
          have hkm : (k : Int) < (m : Int) := by omega
          have hbr9 : hb9 < wr.heap.size := Nat.lt_of_lt_of_le Hblt.out hoff.out.size
          clear hx hd hGk hcu hou hdk hGkF hbh hGd hzr hGlt hGkn hlen3 hour
          generalize decide (x = List.replicate n 0) = s1 at HC1 HKp
          generalize decide (x = row) = s2 at HC2 HKp
          have keepOut : ∀ (wz : World), Drawn wr wz → keepS row x = false → (Hid (OTab 3 50 wz _ (((compo row []).take (k + 1)).filter (keepS row)) Fk) ∧ Hid (Out (Fo ++ (Fs.take (k + 1)).flatten) w5 Fk) ∧ Hid (Off (Fo ++ (Fs.take (k + 1)).flatten) w5 wz)) := fun wz hz hke =>
            ⟨Lib.hid (by rw [HT.out, List.filter_append, List.filter_cons_of_neg (by rw [hke]; simp), List.filter_nil, List.append_nil]; exact Kept.below (OTab.kept _ _) hown.out (hz.below _)), Lib.hid (fun b hb => (hin.out b hb).imp (Hmono.out b) id), Lib.hid ((hoff.out.mono Hmono.out).trans (Off.of_below (hz.below _)))⟩
          have HkeepOut := Lib.hid keepOut
          clear keepOut
          cases s1 with
          | true =>
            go_wp2_with fail
            refine HC1.out.mono ?_
            rintro e w6 ⟨rfl, hd1⟩
            obtain ⟨R1, R2, R3⟩ := HkeepOut.out w6 hd1 (by rw [HKp.out]; rfl)
            have hcr6 := (hd1.cell ⟨hb9, k, none⟩).trans hcr
            clear hd1
            go_wp2
            go_roundg (m - (k + 1))
            case measure => omega
            case rel => exact ⟨k + 1, Fk, by go_num, by omega, R1, hnd, R2, R3⟩
          | false =>
          go_wp2_with fail
          refine HC1.out.mono ?_
          rintro e w6 ⟨rfl, hd1⟩
          have hcr6 := (hd1.cell ⟨hb9, k, none⟩).trans hcr
          have Hd1 := Lib.hid hd1
          clear hd1
          cases s2 with
          | true =>
            go_wp2_with fail
            refine (HC2.out _ Hd1.out).mono ?_
            rintro e w7 ⟨rfl, hd2⟩
            obtain ⟨R1, R2, R3⟩ := HkeepOut.out w7 (Hd1.out.trans hd2) (by rw [HKp.out]; rfl)
            clear hd2
            go_wp2
            go_roundg (m - (k + 1))
            case measure => omega
            case rel => exact ⟨k + 1, Fk, by go_num, by omega, R1, hnd, R2, R3⟩
          | false =>
          go_wp2_with fail
          refine (HC2.out _ Hd1.out).mono ?_
          rintro e w7 ⟨rfl, hd2⟩
          have hcr7 := (hd2.cell ⟨hb9, k, none⟩).trans hcr6
          have Hd7 := Lib.hid (Hd1.out.trans hd2)
          have hb7 : hb9 < w7.heap.size := by have := (Hd7.out.below 0).size; omega
          have HB7 := Lib.hid (Hd7.out.below wr.heap.size)
          have Hs7 := Lib.hid (show wr.heap.size ≤ w7.heap.size from HB7.out.size)
          clear hd2 hcr6 hcr
          go_wp2_with (first
            | (at_builtin; refine wpl_pushF (OInts.kept _) rfl (.tmp 55) (.tmp 60) 41 rfl 50 (.slice none 0 0) 24 Try.underlying41 infoR rfl (Kept.below (OTab.kept _ _) hown.out (HB7.out.alloc Hs7.out _)) hnd.out (Kept.below (OInts.kept _) Hour.out (HB7.out.alloc Hs7.out _)) HGkn.out HFkd.out (bb := w7.heap.size) (c := 1) (by simp) rfl rfl (by have := Hlen3.out; omega) (by have := Hlen3.out; omega) ?_; intro r8 w8 F8 hown8 hnd8 hin8 hoff8; have Hown8 := Lib.hid hown8; have Hnd8 := Lib.hid hnd8; have Hin8 := Lib.hid hin8; have Hoff8 := Lib.hid hoff8; clear hown8 hnd8 hin8 hoff8)
            | fail)
          have R1 := Lib.hid (show OTab 3 50 w8 r8 (((compo row []).take (k + 1)).filter (keepS row)) F8 from by
            rw [HT.out, List.filter_append, List.filter_cons_of_pos (by rw [HKp.out]; rfl), List.filter_nil]; exact Hown8.out)
          have hs8 := hoff.out.size
          have R2 := Lib.hid (show Out (Fo ++ (Fs.take (k + 1)).flatten) w5 F8 from fun b hb => by
            rcases Hin8.out b hb with h | h | h
            · exact (hin.out b h).imp (Hmono.out b) id
            · exact Or.inl (HinG.out b h)
            · have := Hs7.out; simp at h; exact Or.inr (by omega))
          have R3 := Lib.hid (show Off (Fo ++ (Fs.take (k + 1)).flatten) w5 w8 from
            (((hoff.out.mono Hmono.out).trans (Off.of_below (HB7.out.alloc Hs7.out _))).step (fun b hb => (hin.out b hb).imp (Hmono.out b) id) Hoff8.out))
          go_roundg (m - (k + 1))
          case measure => omega
          case rel => exact ⟨k + 1, F8, by go_num, by omega, R1, Hnd8, R2, R3⟩
        · have e : k = m := by omega
          subst e
          have HF := Lib.hid (show V = ((compo row []).take k).filter (keepS row) from by rw [HVV.out, List.take_of_length_le (by rw [← Hm.out]; exact Nat.le_refl _)])
          have hgeF : ∀ b, b ∈ Fk → w.heap.size ≤ b := fun b hb => by
            rcases hin.out b hb with h | h
            · exact hge2 b h
            · have := Hbw5.out.size; omega
          have HgeF := Lib.hid hgeF
          have Hbr := Lib.hid hbr
          clear hgeF hbr hge2
          go_wp2
          go_ret
          exact ⟨_, rfl, ⟨Fk, by rw [HF.out]; exact hown.out, hnd.out, HgeF.out⟩, Hbr.out⟩
end Go.Proofs.Ytdohepngandajaa
