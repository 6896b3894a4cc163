/-
  slices.DeleteFunc at a list of rows, the predicate of PartsOf.
-/
import Derived.Test.YtdohepngandajaaRows
import Derived.Test.YtdohepngandajaaBase
import Derived.Test.YtdohepngandajaaHarn
import Derived.Test.YtdohepngandajaaPush
import Derived.Test.YtdohepngandajaaPartsM
import Derived.Test.YtdohepngandajaaPartsS
import Derived.Test.YtdohepngandajaaPartsI
import Derived.IntWalk
import Derived.Lib.SliceRun
import Derived.Laws.IdiomCopy
namespace Go.Sd
open Go.RowKit Go.Deep
/-- A row's value, the row, its blocks. -/
abbrev Row3 := Value × List Int × List Nat
theorem triples : ∀ {us : List Value} {xs : Tbl} {Fs : List (List Nat)}, us.length = xs.length → Fs.length = xs.length → ∃ ts : List Row3, ts.map (·.1) = us ∧ ts.map (fun t => t.2.1) = xs ∧ ts.map (fun t => t.2.2) = Fs
  | [], [], [], _, _ => ⟨[], rfl, rfl, rfl⟩
  | u :: us, x :: xs, F :: Fs, h1, h2 => by
    obtain ⟨ts, e1, e2, e3⟩ := triples (us := us) (xs := xs) (Fs := Fs) (by simpa using h1) (by simpa using h2)
    exact ⟨(u, x, F) :: ts, by simp [e1], by simp [e2], by simp [e3]⟩
theorem setCells_owns {base g n cap : Nat} {e : TypeId} : ∀ (vs : List Value) (o : Nat) (w : World) (us : List Value), w.ownsRow base e 1 (.slice (some ⟨g, 0, none⟩) n cap) n us →
    ∃ us', (w.setCells g o vs).ownsRow base e 1 (.slice (some ⟨g, 0, none⟩) n cap) n us' ∧ us'.take o = us.take o
  | [], o, w, us, h => ⟨us, h, rfl⟩
  | v :: vs, o, w, us, h => by
    obtain ⟨us', h1, h2⟩ := setCells_owns vs (o + 1) _ _ (h.stored o v).1
    refine ⟨us', h1, ?_⟩
    have h3 : (us'.take (o + 1)).take o = ((us.set o v).take (o + 1)).take o := by rw [h2]
    rw [List.take_take, List.take_take, show min o (o + 1) = o by omega] at h3
    rw [h3, List.take_set_of_le (Nat.le_refl o)]
theorem setCells_off (g : Nat) : ∀ (vs : List Value) (o : Nat) (w : World), Off [g] w (w.setCells g o vs)
  | [], _, w => Off.refl _ _
  | v :: vs, o, w => (Off.setCell (w := w) (p := ⟨g, o, none⟩) (by simp) v).trans (setCells_off g vs (o + 1) _)
theorem owns_take {base g n cap i : Nat} {e : TypeId} {w : World} {us : List Value} (h : w.ownsRow base e 1 (.slice (some ⟨g, 0, none⟩) n cap) n us) (hi : i ≤ n) : w.ownsRow base e 1 (.slice (some ⟨g, 0, none⟩) i cap) i (us.take i) := by
  obtain ⟨h1, h2⟩ := h
  rcases h2 with ⟨h', _⟩ | ⟨g', cap', cur, h', hb, hg, hnc, hcm, hcs, htake⟩
  · simp at h'
  · simp only [Value.slice.injEq, Option.some.injEq, Addr.mk.injEq, and_true, true_and] at h'
    obtain ⟨rfl, rfl⟩ := h'
    refine ⟨by simp at h1 ⊢; omega, Or.inr ⟨g, cap, cur, rfl, hb, hg, by omega, hcm, hcs, ?_⟩⟩
    rw [← htake, List.take_take]
    congr 1
    simp only [Nat.mul_one]; omega
theorem findL_spec (p : List Int → Bool) : ∀ (xs : Tbl) (k : Nat), (findL p xs k = -1 ∧ ∀ x, x ∈ xs → p x = false) ∨ ∃ i x, xs[i]? = some x ∧ p x = true ∧ findL p xs k = ((k + i : Nat) : Int) ∧ ∀ j y, j < i → xs[j]? = some y → p y = false
  | [], k => Or.inl ⟨rfl, fun x hx => by cases hx⟩
  | x :: xs, k => by
    cases hp : p x with
    | true => exact Or.inr ⟨0, x, rfl, hp, by simp [findL, hp], fun j y hj => by omega⟩
    | false =>
      have e : findL p (x :: xs) k = findL p xs (k + 1) := by simp [findL, hp]
      rcases findL_spec p xs (k + 1) with ⟨h1, h2⟩ | ⟨i, y, h1, h2, h3, h4⟩
      · exact Or.inl ⟨by rw [e, h1], fun y hy => by rcases List.mem_cons.1 hy with rfl | hy; exact hp; exact h2 y hy⟩
      · refine Or.inr ⟨i + 1, y, by simpa using h1, h2, by rw [e, h3]; congr 1; omega, fun j z hj hz => ?_⟩
        cases j with
        | zero => simp at hz; subst hz; exact hp
        | succ j => exact h4 j z (by omega) (by simpa using hz)
theorem mem_filt {α : Type} {p : α → Bool} {x : α} {l : List α} (h : x ∈ l.filter p) : x ∈ l := (List.mem_filter.1 h).1
theorem sub_flatten {a b : List (List Nat)} (h : List.Sublist a b) : List.Sublist a.flatten b.flatten := by
  induction h with
  | slnil => exact List.Sublist.refl _
  | cons x _ ih => exact ih.trans (List.sublist_append_right _ _)
  | cons_cons x _ ih => exact List.Sublist.append (List.Sublist.refl _) ih
theorem nodup_sub {a b : List (List Nat)} (h : List.Sublist a b) (hn : b.flatten.Nodup) : a.flatten.Nodup := List.Nodup.sublist (sub_flatten h) hn
/-- The rows that are kept. -/
def kept (row : List Int) (ts : List Row3) : List Row3 := ts.filter (fun t => keepI row t.2.1)
theorem kept_next {row : List Int} {ts : List Row3} {j : Nat} {t : Row3} (h : ts[j]? = some t) : kept row (ts.take (j + 1)) = if keepI row t.2.1 = true then kept row (ts.take j) ++ [t] else kept row (ts.take j) := by
  unfold kept
  rw [List.take_add_one, h, List.filter_append]
  simp only [Option.toList, List.filter_cons, List.filter_nil]
  split <;> simp
end Go.Sd
namespace Go.Proofs.Ytdohepngandajaa
open Go.RowKit Go.Deep Go.Sd

/-- What DeleteFunc leaves. -/
def DelP (F : List Nat) (w : World) (V : Tbl) (e : Ending) (w' : World) : Prop :=
  ∃ r F', e = .returned r ∧ OTab 3 50 w' r V F' ∧ F'.Nodup ∧ (∀ b, b ∈ F' → b ∈ F) ∧ Off F w w'
set_option maxHeartbeats 4000000 in
set_option maxRecDepth 10000 in
theorem DeleteFunc_c {w0 w : World} {B : Nat} {vrow v : Value} {row : List Int} {xs : Tbl} {F : List Nat} (hB : w0.cell? ⟨B, 0, none⟩ = some vrow) (hlt : B < w0.heap.size) (hr : Ints w0 vrow row) (hs : Small row) (hb : Below w0.heap.size w0 w) (h : OTab 3 50 w v xs F) (hF : F.Nodup) (hFl : ∀ b, b ∈ F → w0.heap.size ≤ b) (hsx : ∀ l, l ∈ xs → Small l) :
    Calls Try.prog 156 #[v, .func (.func 157) #[] #[.pointer (some ⟨B, 0, none⟩)]] w (DelP F w (xs.filter (keepI row))) := by
  have Hif := Lib.hid (IndexFunc_c hB hlt hr hs hb h.reads hsx)
  rcases findL_spec (fun l => !keepI row l) xs 0 with ⟨he, hall⟩ | ⟨k0, x0, hx0, hp0, he, hbefore⟩
  · have HV := Lib.hid (show xs.filter (keepI row) = xs from List.filter_eq_self.2 fun x hx => by have := hall x hx; simpa using this)
    rw [he] at Hif
    generalize xs.filter (keepI row) = V at HV ⊢
    obtain ⟨a, c, rfl, _, _, _⟩ := h.reads.shape
    have Hh := Lib.hid h
    have HF := Lib.hid hF
    generalize xs.length = n at *
    clear h hF hFl hsx hB hr hs hb hlt he hall
    go_enter Try.func156, Try.ntmps156
    go_wp2_with fail
    refine Hif.out.mono ?_
    rintro e w2 ⟨rfl, hd⟩
    have HZ := Lib.hid (hd.below w.heap.size)
    clear hd
    go_wp2
    go_ret
    exact ⟨_, F, rfl, by rw [HV.out]; exact Kept.below (OTab.kept _ _) Hh.out HZ.out, HF.out, fun b hb => hb, Off.of_below HZ.out⟩
  · rw [Nat.zero_add] at he
    rw [he] at Hif
    have hk0 := (List.getElem?_eq_some_iff.1 hx0).1
    have hvlen := h.reads.len
    obtain ⟨us, Fs, ho, hFsl, hrr, rfl⟩ := h
    have hul : us.length = xs.length := by simpa using ho.1
    rcases ho.2 with ⟨rfl, hz⟩ | ⟨g, cap, cur, rfl, _, hg, hnc, hcm, hcs, htake⟩
    · omega
    obtain ⟨ts, e1, e2, e3⟩ := triples hul hFsl
    have hFs := List.nodup_append.1 hF
    have hgF : g ∉ Fs.flatten := fun hm => hFs.2.2 g (by simp [Value.ownBlock]) g hm rfl
    have hglt : g < w.heap.size := (ho.lt g rfl).2
    have htl : ts.length = xs.length := by rw [← e2]; simp
    have Hrow := Lib.hid (show ∀ (k : Nat) (t : Row3), ts[k]? = some t → OInts 3 w t.1 t.2.1 t.2.2 ∧ us[k]? = some t.1 ∧ xs[k]? = some t.2.1 from fun k t ht => by
      have h1 : us[k]? = some t.1 := by rw [← e1, List.getElem?_map, ht]; rfl
      have h2 : xs[k]? = some t.2.1 := by rw [← e2, List.getElem?_map, ht]; rfl
      have h3 : Fs[k]? = some t.2.2 := by rw [← e3, List.getElem?_map, ht]; rfl
      exact ⟨hrr k _ _ _ h1 h2 h3, h1, h2⟩)
    have HtF := Lib.hid (show ∀ (t : Row3), t ∈ ts → ∀ b, b ∈ t.2.2 → b ∈ Fs.flatten from fun t ht b hb => by
      rw [← e3]; exact List.mem_flatten_of_mem (List.mem_map_of_mem ht) hb)
    have HFsn := Lib.hid (show (ts.map (fun (t : Row3) => t.2.2)).flatten.Nodup from by rw [e3]; exact hFs.2.1)
    have HV := Lib.hid (show xs.filter (keepI row) = (kept row ts).map (fun (t : Row3) => t.2.1) from by rw [← e2, List.filter_map]; rfl)
    generalize xs.filter (keepI row) = V at HV ⊢
    have hgl : w0.heap.size ≤ g := hFl g (by simp [Value.ownBlock])
    have Hclo := Lib.hid (fun (wr : World) (hd : Off [g] w wr) vl l (hl : Ints wr vl l) (hsl : Small l) => clo_c hB hlt hr hs (hb.trans (hd.below (fun b hb => by simp at hb; omega) hb.size)) hl hsl)
    have Hsx := Lib.hid hsx
    have HkF := Lib.hid (show ∀ (t : Row3), t ∈ ts.take k0 → keepI row t.2.1 = true from fun t ht => by
      obtain ⟨j, hj⟩ := List.getElem?_of_mem ht
      rw [List.getElem?_take] at hj
      split at hj
      · rename_i hjk
        have := hbefore j _ hjk (Hrow.out j t hj).2.2
        simpa using this
      · cases hj)
    have Hk0 := Lib.hid (show ∀ (t : Row3), ts[k0]? = some t → keepI row t.2.1 = false from fun t ht => by
      have h1 := (Hrow.out k0 t ht).2.2
      rw [hx0] at h1
      rw [← Option.some.inj h1]
      simpa using hp0)
    have HgF := Lib.hid hgF
    have Hus := Lib.hid e1
    have Hho := Lib.hid ho
    have HFin := Lib.hid (show ∀ b, b = g ∨ b ∈ Fs.flatten → b ∈ (Value.slice (some ⟨g, 0, none⟩) xs.length cap).ownBlock.toList ++ Fs.flatten from fun b hb => by simpa [Value.ownBlock] using hb)
    generalize (Value.slice (some ⟨g, 0, none⟩) xs.length cap).ownBlock.toList ++ Fs.flatten = F0 at HFin ⊢
    have Hul := Lib.hid hul
    generalize hxn : xs.length = n at *
    have Hxn := Lib.hid hxn
    have Htl := Lib.hid htl
    clear ho hF hFl hsx hB hr hs hb hlt he hbefore hx0 hp0 hrr hFsl e1 e2 e3 hFs hgF hul hg hcs htake htl hxn hgl
    go_enter Try.func156, Try.ntmps156
    have tne : ((k0 : Int) == -1) = false := beq_eq_false_iff_ne.2 (by omega)
    go_wp2_with fail
    refine Hif.out.mono ?_
    rintro e w2 ⟨rfl, hd2⟩
    have H2 := Lib.hid (show w2.ownsRow 0 50 1 (.slice (some ⟨g, 0, none⟩) n cap) n us from ownsRow_keep Hho.out fun b _ => by rw [hd2.heap])
    have Ho2 := Lib.hid (show Off [g] w w2 from Off.of_below (hd2.below _))
    clear hd2
    go_wp2
    go_loopg [5, 6] (n - (k0 + 1)) (fun gg s5 s6 wr => ∃ (i j : Nat) (usk : List Value), s5 = .int .i64 i ∧ s6 = .int .i64 j ∧ j + gg = n ∧ i < j ∧ Hid (wr.ownsRow 0 50 1 (.slice (some ⟨g, 0, none⟩) n cap) n usk) ∧ Hid (usk.take i = (kept row (ts.take j)).map (·.1) ∧ i = (kept row (ts.take j)).length ∧ usk.drop j = us.drop j) ∧ Hid (Off [g] w wr))
    case atStart =>
      have hkt : kept row (ts.take (k0 + 1)) = ts.take k0 := by
        obtain ⟨t, ht, _⟩ := at_lt (xs := ts) (k := k0) (by have := Htl.out; omega)
        rw [kept_next ht, if_neg (by rw [Hk0.out t ht]; simp)]
        exact List.filter_eq_self.2 fun t ht => HkF.out t ht
      refine ⟨k0, k0 + 1, us, rfl, by go_num, by omega, by omega, H2, Lib.hid ⟨?_, ?_, rfl⟩, Ho2⟩
      · rw [hkt, ← Hus.out, List.map_take]
      · rw [hkt, List.length_take]; have := Htl.out; omega
    case round =>
      obtain ⟨i, j, usk, rfl, rfl, hj, hij, hown, hinv, hoff⟩ := hrel
      have huskl : usk.length = n := by have := hown.out.1; simpa using this
      by_cases hlt : j < n
      · obtain ⟨t, ht, _⟩ := at_lt (xs := ts) (k := j) (by have := Htl.out; omega)
        obtain ⟨hoi, huj, hxj⟩ := Hrow.out j t ht
        have hc0 : usk[j]? = some t.1 := by
          have h1 : (usk.drop j)[0]? = (us.drop j)[0]? := by rw [hinv.out.2.2]
          rw [List.getElem?_drop, List.getElem?_drop, Nat.add_zero] at h1
          rw [h1, huj]
        have hcj : wr.cell? ⟨g, j, none⟩ = some t.1 := by rw [hown.out.cellAt j (by omega), hc0]
        have hci : ∃ ui, wr.cell? ⟨g, i, none⟩ = some ui := by
          rw [hown.out.cellAt i (by omega)]
          exact ⟨usk[i], List.getElem?_eq_getElem (by omega)⟩
        have hfi : wr.frozen? ⟨g, i, none⟩ = false := hown.out.frozenAt i
        obtain ⟨ui, hci⟩ := hci
        have hnd : ∀ b, b ∈ t.2.2 → b ∉ [g] := fun b hb hm => by
          simp at hm; subst hm
          exact HgF.out (HtF.out t (List.mem_of_getElem? ht) _ hb)
        have hoir := Kept.off (OInts.kept _) hoi hoff.out hnd
        have Hc := Lib.hid (Hclo.out wr hoff.out t.1 t.2.1 hoir.reads (Hsx.out _ (List.mem_of_getElem? hxj)))
        have HN := Lib.hid (kept_next (row := row) ht)
        obtain ⟨ta, tc, hts, _, _, _⟩ := hoir.reads.shape
        generalize t.2.1.length = tn at hts
        have Hts := Lib.hid hts
        rw [hts] at hcj
        rw [hts] at Hc
        have Hcj := Lib.hid hcj
        have Hci := Lib.hid hci
        have Hfi := Lib.hid hfi
        have Huskl := Lib.hid huskl
        have hjn : (j : Int) < (n : Int) := by omega
        have hin : (i : Int) < (n : Int) := by omega
        clear hoi huj hxj hc0 hnd hoir hts ht hci hfi huskl
        generalize keepI row t.2.1 = d at Hc HN
        cases d with
        | false =>
          go_wp2_with fail
          refine Hc.out.mono ?_
          rintro e w6 ⟨rfl, hd6⟩
          have R1 := Lib.hid (show w6.ownsRow 0 50 1 (.slice (some ⟨g, 0, none⟩) n cap) n usk from ownsRow_keep hown.out fun b _ => by rw [hd6.heap])
          have R2 := Lib.hid (show usk.take i = (kept row (ts.take (j + 1))).map (·.1) ∧ i = (kept row (ts.take (j + 1))).length ∧ usk.drop (j + 1) = us.drop (j + 1) from by
            rw [HN.out, if_neg (by simp)]
            refine ⟨hinv.out.1, hinv.out.2.1, ?_⟩
            have h1 := congrArg (List.drop 1) hinv.out.2.2
            rwa [List.drop_drop, List.drop_drop] at h1)
          have R3 := Lib.hid (hoff.out.trans (Off.of_below (hd6.below wr.heap.size)))
          clear hd6 hown hinv hoff
          go_wp2
          go_roundg (n - (j + 1))
          case measure => omega
          case rel => exact ⟨i, j + 1, usk, rfl, by go_num, by omega, by omega, R1, R2, R3⟩
        | true =>
          go_wp2_with fail
          refine Hc.out.mono ?_
          rintro e w6 ⟨rfl, hd6⟩
          have h6 : w6.ownsRow 0 50 1 (.slice (some ⟨g, 0, none⟩) n cap) n usk := ownsRow_keep hown.out fun b _ => by rw [hd6.heap]
          have R1 := Lib.hid ((h6.stored i (.slice ta tn tc)).1)
          have R2 := Lib.hid (show (usk.set i (.slice ta tn tc)).take (i + 1) = (kept row (ts.take (j + 1))).map (·.1) ∧ i + 1 = (kept row (ts.take (j + 1))).length ∧ (usk.set i (.slice ta tn tc)).drop (j + 1) = us.drop (j + 1) from by
            rw [HN.out]
            simp only [if_true]
            refine ⟨?_, by rw [List.length_append, ← hinv.out.2.1]; rfl, ?_⟩
            · rw [List.take_add_one, List.take_set_of_le (Nat.le_refl i), List.getElem?_set_self (by have := Huskl.out; omega), hinv.out.1, List.map_append]
              simp [Hts.out]
            · rw [List.drop_set_of_lt (by omega)]
              have h1 := congrArg (List.drop 1) hinv.out.2.2
              rwa [List.drop_drop, List.drop_drop] at h1)
          have R3 := Lib.hid ((hoff.out.trans (Off.of_below (hd6.below wr.heap.size))).trans (Off.setCell (p := ⟨g, i, none⟩) (by simp) (.slice ta tn tc)))
          have hci6 := (hd6.cell ⟨g, i, none⟩).trans Hci.out
          have hfi6 : w6.frozen? ⟨g, i, none⟩ = false := h6.frozenAt i
          clear hd6 hown hinv hoff h6 hcj
          go_wp2
          go_roundg (n - (j + 1))
          case measure => omega
          case rel => exact ⟨i + 1, j + 1, _, by go_num, by go_num, by omega, by omega, R1, R2, R3⟩
      · have e : j = n := by omega
        subst e
        have hcl : ∀ ty, (Builtin.clear_ #[41] ty #[.slice (some ⟨g, i, none⟩) (j - i) (cap - i)]).run Try.prog wr = .ok (.tuple #[]) (wr.setCells g i (List.replicate (j - i) (.slice none 0 0))) :=
          fun ty => Lib.run_clear_slice wr _ _ ty (.slice none 0 0) Try.underlying41 (fun _ => by rfl) rfl rfl g i _ _ (by omega) (fun t ht => by rw [hown.out.cellAt (i + t) (by omega), List.getElem?_eq_getElem (by omega)]; rfl) (fun t ht => hown.out.frozenAt (i + t))
        have HT := Lib.hid (show ts.take j = ts from List.take_of_length_le (by have := Htl.out; omega))
        obtain ⟨us', hown', htk⟩ := setCells_owns (List.replicate (j - i) (Value.slice none 0 0)) i wr usk hown.out
        have hoff' := hoff.out.trans (setCells_off g (List.replicate (j - i) (Value.slice none 0 0)) i wr)
        have hfin := owns_take hown' (Nat.le_of_lt hij)
        have hi9 := hinv.out
        rw [htk, hi9.1, HT.out] at hfin
        rw [HT.out] at hi9
        have hVl : V.length = i := by rw [HV.out, List.length_map]; exact hi9.2.1.symm
        have hsub : List.Sublist ((kept row ts).map (fun (t : Row3) => t.2.2)) (ts.map (fun (t : Row3) => t.2.2)) := List.Sublist.map _ List.filter_sublist
        have Hres := Lib.hid (show DelP F0 w V (.returned (.slice (some ⟨g, 0, none⟩) i cap)) (wr.setCells g i (List.replicate (j - i) (.slice none 0 0))) from
          ⟨_, [g] ++ ((kept row ts).map (fun (t : Row3) => t.2.2)).flatten, rfl, ⟨(kept row ts).map (·.1), (kept row ts).map (fun (t : Row3) => t.2.2), by rw [hVl]; exact hfin, by rw [hVl, List.length_map]; exact hi9.2.1.symm, fun q u x G hu hx hG => by
            rw [HV.out] at hx
            rw [List.getElem?_map, Option.map_eq_some_iff] at hu hx hG
            obtain ⟨t1, q1, rfl⟩ := hu
            obtain ⟨t2, q2, rfl⟩ := hx
            obtain ⟨t3, q3, rfl⟩ := hG
            rw [q1] at q2 q3
            obtain rfl := Option.some.inj q2
            obtain rfl := Option.some.inj q3
            have hm : t1 ∈ ts := mem_filt (List.mem_of_getElem? q1)
            obtain ⟨p, hp⟩ := List.getElem?_of_mem hm
            exact Kept.off (OInts.kept _) (Hrow.out p t1 hp).1 hoff' (fun b hb hm2 => by simp at hm2; subst hm2; exact HgF.out (HtF.out t1 hm _ hb)), rfl⟩,
            List.nodup_append.2 ⟨by simp, nodup_sub hsub HFsn.out, fun p hp q hq e => by
              simp at hp; subst hp; subst e
              obtain ⟨G, hG, hb⟩ := List.mem_flatten.1 hq
              obtain ⟨t, ht, rfl⟩ := List.mem_map.1 hG
              exact HgF.out (HtF.out t (mem_filt ht) _ hb)⟩,
            fun b hb => HFin.out b (by
              rcases List.mem_append.1 hb with h | h
              · exact Or.inl (by simpa using h)
              · obtain ⟨G, hG, hb⟩ := List.mem_flatten.1 h
                obtain ⟨t, ht, rfl⟩ := List.mem_map.1 hG
                exact Or.inr (HtF.out t (mem_filt ht) _ hb)),
            hoff'.mono (fun b hb => HFin.out b (Or.inl (by simpa using hb)))⟩)
        have hin : (i : Int) ≤ (j : Int) := by omega
        have hin2 : (i : Int) < (j : Int) := by omega
        have hicap : (i : Int) ≤ (cap : Int) := by omega
        have hne : i ≠ cap := by omega
        clear hown' htk hoff' hfin hi9 hVl hsub hown hinv hoff
        go_wp2
        go_ret
        exact Hres.out
end Go.Proofs.Ytdohepngandajaa
