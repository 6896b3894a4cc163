/-
  Texts of this claim joined: laws for its walks, contracts of the functions that the law reaches.
-/
import Derived.Test.YtdohepngandajaaRows
import Derived.Test.YtdohepngandajaaFnPureM1
import Derived.Test.YtdohepngandajaaFnPureM11
import Derived.IntWalk
import Derived.Test.YtdohepngandajaaFnPureM2
import Derived.Test.YtdohepngandajaaFnPureM10
import Derived.Lib.SliceRun
import Derived.Laws.IdiomCopy
import Derived.Test.YtdohepngandajaaFnPureM4
import Derived.Test.YtdohepngandajaaFnPureM5
import Derived.Test.YtdohepngandajaaFnPureM6
import Derived.Test.YtdohepngandajaaFnPureM8
import Derived.Test.YtdohepngandajaaFnPureM3
import Derived.WalkSpells
section
/-
  PartsOf, the program's: sums, the predicate, the search.
-/
namespace Go.Sd
open Go.RowKit Go.Deep
def Small (l : List Int) : Prop := l.length ≤ 4 ∧ ∀ x, x ∈ l → 0 ≤ x ∧ x ≤ 3
theorem isum_bd : ∀ {l : List Int}, (∀ x, x ∈ l → 0 ≤ x ∧ x ≤ 3) → 0 ≤ isum l ∧ isum l ≤ 3 * (l.length : Int)
  | [], _ => by simp [isum]
  | x :: r, h => by
    have h1 := h x (by simp)
    have h2 := isum_bd (l := r) fun y hy => h y (List.mem_cons_of_mem _ hy)
    simp only [isum, List.length_cons]; omega
def findL (p : List Int → Bool) : Tbl → Nat → Int
  | [], _ => -1
  | x :: xs, k => if p x = true then (k : Int) else findL p xs (k + 1)
end Go.Sd
namespace Go.Proofs.Ytdohepngandajaa
open Go.RowKit Go.Deep Go.Sd
set_option maxHeartbeats 400000 in
theorem total_c {w : World} {v : Value} {xs : List Int} (h : Ints w v xs) (hs : Small xs) :
    Calls Try.prog 158 #[v] w fun e w' => e = .returned (.int .i64 (isum xs)) ∧ w = w' := by
  obtain ⟨a, c, rfl, _, _, hcell⟩ := h.shape
  clear h
  obtain ⟨hl4, hx3⟩ := hs
  obtain ⟨n, hn⟩ : ∃ n, n = xs.length := ⟨_, rfl⟩
  have Hn := Lib.hid hn
  have H0 := Lib.hid (show isum xs = 0 + isum (xs.drop 0) from by simp)
  generalize isum xs = T at H0 ⊢
  have Hx3 := Lib.hid hx3
  rw [← hn] at hl4 hcell ⊢
  clear hn hx3
  go_enter Try.func158, Try.ntmps158
  go_wp2
  go_loopg [3, 8] n (fun g s i wr => ∃ (k : Nat) (z : Int), i = .int .i64 k ∧ s = .int .i64 z ∧ k + g = n ∧ 0 ≤ z ∧ z ≤ 3 * (k : Int) ∧ Hid (T = z + isum (xs.drop k)) ∧ w = wr)
  case atStart => exact ⟨0, 0, rfl, rfl, by omega, by omega, by omega, H0, rfl⟩
  case round =>
    obtain ⟨k, z, rfl, rfl, hk, hz0, hz1, HK, rfl⟩ := hrel
    by_cases hlt : k < n
    · obtain ⟨b, o, rfl, hb, hx0⟩ := hcell (by omega)
      obtain ⟨x, hx, hd⟩ := at_lt (xs := xs) (k := k) (by have := Hn.out; omega)
      obtain ⟨u, hu, hux⟩ := hx0 k x hx
      obtain rfl : u = .int .i64 x := hux
      obtain ⟨hx1, hx2⟩ := Hx3.out x (List.mem_of_getElem? hx)
      have HK1 := Lib.hid (show T = (z + x) + isum (xs.drop (k + 1)) from by rw [HK.out, hd, isum]; omega)
      clear hx hd hx0 hcell HK H0
      go_wp2
      go_roundg (n - (k + 1))
      case measure => omega
      case rel => exact ⟨k + 1, z + x, by go_num, rfl, by omega, by omega, by omega, HK1, rfl⟩
    · have HF := Lib.hid (show T = z from by rw [HK.out, drop_len (by have := Hn.out; omega)]; simp [isum])
      clear HK H0 hcell
      go_wp2
      go_ret
      exact ⟨by rw [HF.out]; rfl, rfl⟩
set_option maxHeartbeats 1000000 in
theorem clo_c {w0 w : World} {B : Nat} {vrow vl : Value} {row l : List Int} (hB : w0.cell? ⟨B, 0, none⟩ = some vrow) (hlt : B < w0.heap.size) (hr : Ints w0 vrow row) (hs : Small row) (hb : Below w0.heap.size w0 w) (hl : Ints w vl l) (hsl : Small l) :
    Calls Try.prog 157 #[vl, .pointer (some ⟨B, 0, none⟩)] w (Reads w (.bool (!keepI row l))) := by
  have hc := (hb.cell (p := ⟨B, 0, none⟩) hlt).trans hB
  have hr2 := Ints.frame _ _ _ _ hr hb
  have Q0 := Lib.hid (fun q => Calls.quiet_of_same ((total_c (hl.dn q) hsl).mono fun e w' h => ⟨h.1, h.2.symm⟩))
  have Q1 := Lib.hid (fun q => Calls.quiet_of_same ((total_c (hr2.dn q) hs).mono fun e w' h => ⟨h.1, h.2.symm⟩))
  have H := Lib.hid (show (!keepI row l) = (decide (isum l = 0) || decide (isum l = isum row)) from by unfold keepI; simp)
  generalize (!keepI row l) = T at H ⊢
  generalize isum l = sl at Q0 H
  generalize isum row = sr at Q1 H
  obtain ⟨ra, rc, rfl, _, _, _⟩ := hr.shape
  obtain ⟨la, lc, rfl, _, _, _⟩ := hl.shape
  generalize row.length = rn at *
  generalize l.length = ln at *
  clear hr2 hr hl hs hsl hB
  by_cases h0 : sl = 0
  · have HF := Lib.hid (show T = true from by rw [H.out]; simp [h0])
    have t0 : (sl == 0) = true := by simp [h0]
    clear H h0
    go_enter Try.func157, Try.ntmps157
    go_wp2
    refine wp_region_quiet_lit (by kernel_rfl) (by kernel_rfl) ?_
    repeat (go_big_quiet_step (fail))
    go_big_quiet_step ((with_reducible exact Q0.out _))
    repeat (go_big_quiet_step (fail))
    refine wpQuiet_nil ?_
    intro _ hw'
    obtain ⟨nq, hw''⟩ := hw'
    subst hw''
    go_wp2
    go_ret
    exact ⟨by rw [HF.out]; rfl, ⟨nq, rfl⟩⟩
  · have t0 : (sl == 0) = false := by simp [h0]
    by_cases h1 : sl = sr
    · have HF := Lib.hid (show T = true from by rw [H.out]; simp [h1])
      have t1 : (sl == sr) = true := by simp [h1]
      clear H h0 h1
      go_enter Try.func157, Try.ntmps157
      go_wp2
      refine wp_region_quiet_lit (by kernel_rfl) (by kernel_rfl) ?_
      repeat (go_big_quiet_step (fail))
      go_big_quiet_step ((with_reducible exact Q0.out _))
      repeat (go_big_quiet_step (fail))
      go_big_quiet_step ((with_reducible exact Q0.out _))
      repeat (go_big_quiet_step (fail))
      go_big_quiet_step ((with_reducible exact Q1.out _))
      repeat (go_big_quiet_step (fail))
      refine wpQuiet_nil ?_
      intro _ hw'
      obtain ⟨nq, hw''⟩ := hw'
      subst hw''
      go_wp2
      go_ret
      exact ⟨by rw [HF.out]; rfl, ⟨nq, rfl⟩⟩
    · have HF := Lib.hid (show T = false from by rw [H.out]; simp [h0, h1])
      have t1 : (sl == sr) = false := by simp [h1]
      clear H h0 h1
      go_enter Try.func157, Try.ntmps157
      go_wp2
      refine wp_region_quiet_lit (by kernel_rfl) (by kernel_rfl) ?_
      repeat (go_big_quiet_step (fail))
      go_big_quiet_step ((with_reducible exact Q0.out _))
      repeat (go_big_quiet_step (fail))
      go_big_quiet_step ((with_reducible exact Q0.out _))
      repeat (go_big_quiet_step (fail))
      go_big_quiet_step ((with_reducible exact Q1.out _))
      repeat (go_big_quiet_step (fail))
      refine wpQuiet_nil ?_
      intro _ hw'
      obtain ⟨nq, hw''⟩ := hw'
      subst hw''
      go_wp2
      go_ret
      exact ⟨by rw [HF.out]; rfl, ⟨nq, rfl⟩⟩
set_option maxHeartbeats 1000000 in
theorem IndexFunc_c {w0 w : World} {B : Nat} {vrow v : Value} {row : List Int} {xs : Tbl} (hB : w0.cell? ⟨B, 0, none⟩ = some vrow) (hlt : B < w0.heap.size) (hr : Ints w0 vrow row) (hs : Small row) (hb : Below w0.heap.size w0 w) (h : Tab w v xs) (hsx : ∀ l, l ∈ xs → Small l) :
    Calls Try.prog 199 #[v, .func (.func 157) #[] #[.pointer (some ⟨B, 0, none⟩)]] w (Reads w (.int .i64 (findL (fun l => !keepI row l) xs 0))) := by
  have hlen := h.len
  obtain ⟨a, c, rfl, _, _, hcell⟩ := h.shape
  clear h
  have H0 := Lib.hid (show findL (fun l => !keepI row l) xs 0 = findL (fun l => !keepI row l) (xs.drop 0) 0 from rfl)
  generalize findL (fun l => !keepI row l) xs 0 = T at H0 ⊢
  have Hclo := Lib.hid (fun (wr : World) (hd : Drawn w wr) vl l (hl : Ints wr vl l) (hsl : Small l) => clo_c hB hlt hr hs (hb.trans (hd.below _)) hl hsl)
  have Hsx := Lib.hid hsx
  obtain ⟨n, hn⟩ : ∃ n, n = xs.length := ⟨_, rfl⟩
  have Hn := Lib.hid hn
  rw [← hn] at hlen hcell ⊢
  clear hn hB hr hs hb hsx hlt
  go_enter Try.func199, Try.ntmps199
  go_wp2
  go_loopg [8] n (fun g i wr => ∃ (k : Nat), i = .int .i64 k ∧ k + g = n ∧ Hid (T = findL (fun l => !keepI row l) (xs.drop k) k) ∧ Drawn w wr)
  case atStart => exact ⟨0, rfl, by omega, H0, Drawn.refl _⟩
  case round =>
    obtain ⟨k, rfl, hk, HK, hdr⟩ := hrel
    by_cases hlt : k < n
    · obtain ⟨b, o, rfl, hb, hx0⟩ := hcell (by omega)
      obtain ⟨x, hx, hd⟩ := at_lt (xs := xs) (k := k) (by have := Hn.out; omega)
      obtain ⟨u, hu, hux⟩ := hx0 k x hx
      rw [← hdr.cell] at hu
      have Hc := Lib.hid (Hclo.out wr hdr u x (hdr.read Ints.frame hux) (Hsx.out x (List.mem_of_getElem? hx)))
      have HK1 := Lib.hid (show T = if (!keepI row x) = true then (k : Int) else findL (fun l => !keepI row l) (xs.drop (k + 1)) (k + 1) from by rw [HK.out, hd]; rfl)
      obtain ⟨ua, uc, rfl, _, _, _⟩ := hux.shape
      generalize x.length = xn at *
      have Hdr := Lib.hid hdr
      have hkn : (k : Int) < (n : Int) := by omega
      clear hx hd hx0 hcell HK H0 hux hdr
      generalize (!keepI row x) = d at Hc HK1
      cases d with
      | true =>
        have HF := Lib.hid (show T = (k : Int) from by rw [HK1.out, if_pos rfl])
        go_wp2_with fail
        refine Hc.out.mono ?_
        rintro e w2 ⟨rfl, hd2⟩
        have HZ := Lib.hid (Hdr.out.trans hd2)
        clear hd2 HK1
        go_wp2
        go_ret
        exact ⟨by rw [HF.out]; rfl, HZ.out⟩
      | false =>
        have HF := Lib.hid (show T = findL (fun l => !keepI row l) (xs.drop (k + 1)) (k + 1) from by rw [HK1.out, if_neg (by simp)])
        go_wp2_with fail
        refine Hc.out.mono ?_
        rintro e w2 ⟨rfl, hd2⟩
        have HZ := Hdr.out.trans hd2
        clear hd2 HK1
        go_wp2
        go_roundg (n - (k + 1))
        case measure => omega
        case rel => exact ⟨k + 1, by go_num, by omega, HF, HZ⟩
    · have HF := Lib.hid (show T = -1 from by rw [HK.out, drop_len (by have := Hn.out; omega)]; rfl)
      clear HK H0 hcell
      go_wp2
      go_ret
      exact ⟨by rw [HF.out]; rfl, hdr⟩
end Go.Proofs.Ytdohepngandajaa
end

section
/-
  slices.DeleteFunc at a list of rows, the predicate of PartsOf.
-/
namespace Go.Sd
open Go.RowKit Go.Deep
/-- A row's value, the row, its blocks. -/
abbrev Row3 := Value × List Int × List Nat
theorem triples : ∀ {us : List Value} {xs : Tbl} {Fs : List (List Nat)}, us.length = xs.length → Fs.length = xs.length → ∃ ts : List Row3, ts.map (·.1) = us ∧ ts.map (fun t => t.2.1) = xs ∧ ts.map (fun t => t.2.2) = Fs
  | [], [], [], _, _ => ⟨[], rfl, rfl, rfl⟩
  | u :: us, x :: xs, F :: Fs, h1, h2 => by
    obtain ⟨ts, e1, e2, e3⟩ := triples (us := us) (xs := xs) (Fs := Fs) (by simpa using h1) (by simpa using h2)
    exact ⟨(u, x, F) :: ts, by simp [e1], by simp [e2], by simp [e3]⟩
theorem setCells_owns {base g n cap : Nat} {e : TypeId} : ∀ (vs : List Value) (o : Nat) (w : World) (us : List Value), w.ownsRow base e 1 (.slice (some ⟨g, 0, none⟩) n cap) n us →
    ∃ us', (w.setCells g o vs).ownsRow base e 1 (.slice (some ⟨g, 0, none⟩) n cap) n us' ∧ us'.take o = us.take o
  | [], o, w, us, h => ⟨us, h, rfl⟩
  | v :: vs, o, w, us, h => by
    obtain ⟨us', h1, h2⟩ := setCells_owns vs (o + 1) _ _ (h.stored o v).1
    refine ⟨us', h1, ?_⟩
    have h3 : (us'.take (o + 1)).take o = ((us.set o v).take (o + 1)).take o := by rw [h2]
    rw [List.take_take, List.take_take, show min o (o + 1) = o by omega] at h3
    rw [h3, List.take_set_of_le (Nat.le_refl o)]
theorem setCells_off (g : Nat) : ∀ (vs : List Value) (o : Nat) (w : World), Off [g] w (w.setCells g o vs)
  | [], _, w => Off.refl _ _
  | v :: vs, o, w => (Off.setCell (w := w) (p := ⟨g, o, none⟩) (by simp) v).trans (setCells_off g vs (o + 1) _)
theorem owns_take {base g n cap i : Nat} {e : TypeId} {w : World} {us : List Value} (h : w.ownsRow base e 1 (.slice (some ⟨g, 0, none⟩) n cap) n us) (hi : i ≤ n) : w.ownsRow base e 1 (.slice (some ⟨g, 0, none⟩) i cap) i (us.take i) := by
  obtain ⟨h1, h2⟩ := h
  rcases h2 with ⟨h', _⟩ | ⟨g', cap', cur, h', hb, hg, hnc, hcm, hcs, htake⟩
  · simp at h'
  · simp only [Value.slice.injEq, Option.some.injEq, Addr.mk.injEq, and_true, true_and] at h'
    obtain ⟨rfl, rfl⟩ := h'
    refine ⟨by simp at h1 ⊢; omega, Or.inr ⟨g, cap, cur, rfl, hb, hg, by omega, hcm, hcs, ?_⟩⟩
    rw [← htake, List.take_take]
    congr 1
    simp only [Nat.mul_one]; omega
theorem findL_spec (p : List Int → Bool) : ∀ (xs : Tbl) (k : Nat), (findL p xs k = -1 ∧ ∀ x, x ∈ xs → p x = false) ∨ ∃ i x, xs[i]? = some x ∧ p x = true ∧ findL p xs k = ((k + i : Nat) : Int) ∧ ∀ j y, j < i → xs[j]? = some y → p y = false
  | [], k => Or.inl ⟨rfl, fun x hx => by cases hx⟩
  | x :: xs, k => by
    cases hp : p x with
    | true => exact Or.inr ⟨0, x, rfl, hp, by simp [findL, hp], fun j y hj => by omega⟩
    | false =>
      have e : findL p (x :: xs) k = findL p xs (k + 1) := by simp [findL, hp]
      rcases findL_spec p xs (k + 1) with ⟨h1, h2⟩ | ⟨i, y, h1, h2, h3, h4⟩
      · exact Or.inl ⟨by rw [e, h1], fun y hy => by rcases List.mem_cons.1 hy with rfl | hy; exact hp; exact h2 y hy⟩
      · refine Or.inr ⟨i + 1, y, by simpa using h1, h2, by rw [e, h3]; congr 1; omega, fun j z hj hz => ?_⟩
        cases j with
        | zero => simp at hz; subst hz; exact hp
        | succ j => exact h4 j z (by omega) (by simpa using hz)
theorem mem_filt {α : Type} {p : α → Bool} {x : α} {l : List α} (h : x ∈ l.filter p) : x ∈ l := (List.mem_filter.1 h).1
theorem sub_flatten {a b : List (List Nat)} (h : List.Sublist a b) : List.Sublist a.flatten b.flatten := by
  induction h with
  | slnil => exact List.Sublist.refl _
  | cons x _ ih => exact ih.trans (List.sublist_append_right _ _)
  | cons_cons x _ ih => exact List.Sublist.append (List.Sublist.refl _) ih
theorem nodup_sub {a b : List (List Nat)} (h : List.Sublist a b) (hn : b.flatten.Nodup) : a.flatten.Nodup := List.Nodup.sublist (sub_flatten h) hn
/-- The rows that are kept. -/
def kept (row : List Int) (ts : List Row3) : List Row3 := ts.filter (fun t => keepI row t.2.1)
theorem kept_next {row : List Int} {ts : List Row3} {j : Nat} {t : Row3} (h : ts[j]? = some t) : kept row (ts.take (j + 1)) = if keepI row t.2.1 = true then kept row (ts.take j) ++ [t] else kept row (ts.take j) := by
  unfold kept
  rw [List.take_add_one, h, List.filter_append]
  simp only [Option.toList, List.filter_cons, List.filter_nil]
  split <;> simp
end Go.Sd
namespace Go.Proofs.Ytdohepngandajaa
open Go.RowKit Go.Deep Go.Sd

/-- What DeleteFunc leaves. -/
def DelP (F : List Nat) (w : World) (V : Tbl) (e : Ending) (w' : World) : Prop :=
  ∃ r F', e = .returned r ∧ OTab 3 50 w' r V F' ∧ F'.Nodup ∧ (∀ b, b ∈ F' → b ∈ F) ∧ Off F w w'
set_option maxHeartbeats 4000000 in
set_option maxRecDepth 10000 in
theorem DeleteFunc_c {w0 w : World} {B : Nat} {vrow v : Value} {row : List Int} {xs : Tbl} {F : List Nat} (hB : w0.cell? ⟨B, 0, none⟩ = some vrow) (hlt : B < w0.heap.size) (hr : Ints w0 vrow row) (hs : Small row) (hb : Below w0.heap.size w0 w) (h : OTab 3 50 w v xs F) (hF : F.Nodup) (hFl : ∀ b, b ∈ F → w0.heap.size ≤ b) (hsx : ∀ l, l ∈ xs → Small l) :
    Calls Try.prog 156 #[v, .func (.func 157) #[] #[.pointer (some ⟨B, 0, none⟩)]] w (DelP F w (xs.filter (keepI row))) := by
  have Hif := Lib.hid (IndexFunc_c hB hlt hr hs hb h.reads hsx)
  rcases findL_spec (fun l => !keepI row l) xs 0 with ⟨he, hall⟩ | ⟨k0, x0, hx0, hp0, he, hbefore⟩
  · have HV := Lib.hid (show xs.filter (keepI row) = xs from List.filter_eq_self.2 fun x hx => by have := hall x hx; simpa using this)
    rw [he] at Hif
    generalize xs.filter (keepI row) = V at HV ⊢
    obtain ⟨a, c, rfl, _, _, _⟩ := h.reads.shape
    have Hh := Lib.hid h
    have HF := Lib.hid hF
    generalize xs.length = n at *
    clear h hF hFl hsx hB hr hs hb hlt he hall
    go_enter Try.func156, Try.ntmps156
    go_wp2_with fail
    refine Hif.out.mono ?_
    rintro e w2 ⟨rfl, hd⟩
    have HZ := Lib.hid (hd.below w.heap.size)
    clear hd
    go_wp2
    go_ret
    exact ⟨_, F, rfl, by rw [HV.out]; exact Kept.below (OTab.kept _ _) Hh.out HZ.out, HF.out, fun b hb => hb, Off.of_below HZ.out⟩
  · rw [Nat.zero_add] at he
    rw [he] at Hif
    have hk0 := (List.getElem?_eq_some_iff.1 hx0).1
    have hvlen := h.reads.len
    obtain ⟨us, Fs, ho, hFsl, hrr, rfl⟩ := h
    have hul : us.length = xs.length := by simpa using ho.1
    rcases ho.2 with ⟨rfl, hz⟩ | ⟨g, cap, cur, rfl, _, hg, hnc, hcm, hcs, htake⟩
    · omega
    obtain ⟨ts, e1, e2, e3⟩ := triples hul hFsl
    have hFs := List.nodup_append.1 hF
    have hgF : g ∉ Fs.flatten := fun hm => hFs.2.2 g (by simp [Value.ownBlock]) g hm rfl
    have hglt : g < w.heap.size := (ho.lt g rfl).2
    have htl : ts.length = xs.length := by rw [← e2]; simp
    have Hrow := Lib.hid (show ∀ (k : Nat) (t : Row3), ts[k]? = some t → OInts 3 w t.1 t.2.1 t.2.2 ∧ us[k]? = some t.1 ∧ xs[k]? = some t.2.1 from fun k t ht => by
      have h1 : us[k]? = some t.1 := by rw [← e1, List.getElem?_map, ht]; rfl
      have h2 : xs[k]? = some t.2.1 := by rw [← e2, List.getElem?_map, ht]; rfl
      have h3 : Fs[k]? = some t.2.2 := by rw [← e3, List.getElem?_map, ht]; rfl
      exact ⟨hrr k _ _ _ h1 h2 h3, h1, h2⟩)
    have HtF := Lib.hid (show ∀ (t : Row3), t ∈ ts → ∀ b, b ∈ t.2.2 → b ∈ Fs.flatten from fun t ht b hb => by
      rw [← e3]; exact List.mem_flatten_of_mem (List.mem_map_of_mem ht) hb)
    have HFsn := Lib.hid (show (ts.map (fun (t : Row3) => t.2.2)).flatten.Nodup from by rw [e3]; exact hFs.2.1)
    have HV := Lib.hid (show xs.filter (keepI row) = (kept row ts).map (fun (t : Row3) => t.2.1) from by rw [← e2, List.filter_map]; rfl)
    generalize xs.filter (keepI row) = V at HV ⊢
    have hgl : w0.heap.size ≤ g := hFl g (by simp [Value.ownBlock])
    have Hclo := Lib.hid (fun (wr : World) (hd : Off [g] w wr) vl l (hl : Ints wr vl l) (hsl : Small l) => clo_c hB hlt hr hs (hb.trans (hd.below (fun b hb => by simp at hb; omega) hb.size)) hl hsl)
    have Hsx := Lib.hid hsx
    have HkF := Lib.hid (show ∀ (t : Row3), t ∈ ts.take k0 → keepI row t.2.1 = true from fun t ht => by
      obtain ⟨j, hj⟩ := List.getElem?_of_mem ht
      rw [List.getElem?_take] at hj
      split at hj
      · rename_i hjk
        have := hbefore j _ hjk (Hrow.out j t hj).2.2
        simpa using this
      · cases hj)
    have Hk0 := Lib.hid (show ∀ (t : Row3), ts[k0]? = some t → keepI row t.2.1 = false from fun t ht => by
      have h1 := (Hrow.out k0 t ht).2.2
      rw [hx0] at h1
      rw [← Option.some.inj h1]
      simpa using hp0)
    have HgF := Lib.hid hgF
    have Hus := Lib.hid e1
    have Hho := Lib.hid ho
    have HFin := Lib.hid (show ∀ b, b = g ∨ b ∈ Fs.flatten → b ∈ (Value.slice (some ⟨g, 0, none⟩) xs.length cap).ownBlock.toList ++ Fs.flatten from fun b hb => by simpa [Value.ownBlock] using hb)
    generalize (Value.slice (some ⟨g, 0, none⟩) xs.length cap).ownBlock.toList ++ Fs.flatten = F0 at HFin ⊢
    have Hul := Lib.hid hul
    generalize hxn : xs.length = n at *
    have Hxn := Lib.hid hxn
    have Htl := Lib.hid htl
    clear ho hF hFl hsx hB hr hs hb hlt he hbefore hx0 hp0 hrr hFsl e1 e2 e3 hFs hgF hul hg hcs htake htl hxn hgl
    go_enter Try.func156, Try.ntmps156
    have tne : ((k0 : Int) == -1) = false := beq_eq_false_iff_ne.2 (by omega)
    go_wp2_with fail
    refine Hif.out.mono ?_
    rintro e w2 ⟨rfl, hd2⟩
    have H2 := Lib.hid (show w2.ownsRow 0 50 1 (.slice (some ⟨g, 0, none⟩) n cap) n us from ownsRow_keep Hho.out fun b _ => by rw [hd2.heap])
    have Ho2 := Lib.hid (show Off [g] w w2 from Off.of_below (hd2.below _))
    clear hd2
    go_wp2
    go_loopg [5, 6] (n - (k0 + 1)) (fun gg s5 s6 wr => ∃ (i j : Nat) (usk : List Value), s5 = .int .i64 i ∧ s6 = .int .i64 j ∧ j + gg = n ∧ i < j ∧ Hid (wr.ownsRow 0 50 1 (.slice (some ⟨g, 0, none⟩) n cap) n usk) ∧ Hid (usk.take i = (kept row (ts.take j)).map (·.1) ∧ i = (kept row (ts.take j)).length ∧ usk.drop j = us.drop j) ∧ Hid (Off [g] w wr))
    case atStart =>
      have hkt : kept row (ts.take (k0 + 1)) = ts.take k0 := by
        obtain ⟨t, ht, _⟩ := at_lt (xs := ts) (k := k0) (by have := Htl.out; omega)
        rw [kept_next ht, if_neg (by rw [Hk0.out t ht]; simp)]
        exact List.filter_eq_self.2 fun t ht => HkF.out t ht
      refine ⟨k0, k0 + 1, us, rfl, by go_num, by omega, by omega, H2, Lib.hid ⟨?_, ?_, rfl⟩, Ho2⟩
      · rw [hkt, ← Hus.out, List.map_take]
      · rw [hkt, List.length_take]; have := Htl.out; omega
    case round =>
      obtain ⟨i, j, usk, rfl, rfl, hj, hij, hown, hinv, hoff⟩ := hrel
      have huskl : usk.length = n := by have := hown.out.1; simpa using this
      by_cases hlt : j < n
      · obtain ⟨t, ht, _⟩ := at_lt (xs := ts) (k := j) (by have := Htl.out; omega)
        obtain ⟨hoi, huj, hxj⟩ := Hrow.out j t ht
        have hc0 : usk[j]? = some t.1 := by
          have h1 : (usk.drop j)[0]? = (us.drop j)[0]? := by rw [hinv.out.2.2]
          rw [List.getElem?_drop, List.getElem?_drop, Nat.add_zero] at h1
          rw [h1, huj]
        have hcj : wr.cell? ⟨g, j, none⟩ = some t.1 := by rw [hown.out.cellAt j (by omega), hc0]
        have hci : ∃ ui, wr.cell? ⟨g, i, none⟩ = some ui := by
          rw [hown.out.cellAt i (by omega)]
          exact ⟨usk[i], List.getElem?_eq_getElem (by omega)⟩
        have hfi : wr.frozen? ⟨g, i, none⟩ = false := hown.out.frozenAt i
        obtain ⟨ui, hci⟩ := hci
        have hnd : ∀ b, b ∈ t.2.2 → b ∉ [g] := fun b hb hm => by
          simp at hm; subst hm
          exact HgF.out (HtF.out t (List.mem_of_getElem? ht) _ hb)
        have hoir := Kept.off (OInts.kept _) hoi hoff.out hnd
        have Hc := Lib.hid (Hclo.out wr hoff.out t.1 t.2.1 hoir.reads (Hsx.out _ (List.mem_of_getElem? hxj)))
        have HN := Lib.hid (kept_next (row := row) ht)
        obtain ⟨ta, tc, hts, _, _, _⟩ := hoir.reads.shape
        generalize t.2.1.length = tn at hts
        have Hts := Lib.hid hts
        rw [hts] at hcj
        rw [hts] at Hc
        have Hcj := Lib.hid hcj
        have Hci := Lib.hid hci
        have Hfi := Lib.hid hfi
        have Huskl := Lib.hid huskl
        have hjn : (j : Int) < (n : Int) := by omega
        have hin : (i : Int) < (n : Int) := by omega
        clear hoi huj hxj hc0 hnd hoir hts ht hci hfi huskl
        generalize keepI row t.2.1 = d at Hc HN
        cases d with
        | false =>
          go_wp2_with fail
          refine Hc.out.mono ?_
          rintro e w6 ⟨rfl, hd6⟩
          have R1 := Lib.hid (show w6.ownsRow 0 50 1 (.slice (some ⟨g, 0, none⟩) n cap) n usk from ownsRow_keep hown.out fun b _ => by rw [hd6.heap])
          have R2 := Lib.hid (show usk.take i = (kept row (ts.take (j + 1))).map (·.1) ∧ i = (kept row (ts.take (j + 1))).length ∧ usk.drop (j + 1) = us.drop (j + 1) from by
            rw [HN.out, if_neg (by simp)]
            refine ⟨hinv.out.1, hinv.out.2.1, ?_⟩
            have h1 := congrArg (List.drop 1) hinv.out.2.2
            rwa [List.drop_drop, List.drop_drop] at h1)
          have R3 := Lib.hid (hoff.out.trans (Off.of_below (hd6.below wr.heap.size)))
          clear hd6 hown hinv hoff
          go_wp2
          go_roundg (n - (j + 1))
          case measure => omega
          case rel => exact ⟨i, j + 1, usk, rfl, by go_num, by omega, by omega, R1, R2, R3⟩
        | true =>
          go_wp2_with fail
          refine Hc.out.mono ?_
          rintro e w6 ⟨rfl, hd6⟩
          have h6 : w6.ownsRow 0 50 1 (.slice (some ⟨g, 0, none⟩) n cap) n usk := ownsRow_keep hown.out fun b _ => by rw [hd6.heap]
          have R1 := Lib.hid ((h6.stored i (.slice ta tn tc)).1)
          have R2 := Lib.hid (show (usk.set i (.slice ta tn tc)).take (i + 1) = (kept row (ts.take (j + 1))).map (·.1) ∧ i + 1 = (kept row (ts.take (j + 1))).length ∧ (usk.set i (.slice ta tn tc)).drop (j + 1) = us.drop (j + 1) from by
            rw [HN.out]
            simp only [if_true]
            refine ⟨?_, by rw [List.length_append, ← hinv.out.2.1]; rfl, ?_⟩
            · rw [List.take_add_one, List.take_set_of_le (Nat.le_refl i), List.getElem?_set_self (by have := Huskl.out; omega), hinv.out.1, List.map_append]
              simp [Hts.out]
            · rw [List.drop_set_of_lt (by omega)]
              have h1 := congrArg (List.drop 1) hinv.out.2.2
              rwa [List.drop_drop, List.drop_drop] at h1)
          have R3 := Lib.hid ((hoff.out.trans (Off.of_below (hd6.below wr.heap.size))).trans (Off.setCell (p := ⟨g, i, none⟩) (by simp) (.slice ta tn tc)))
          have hci6 := (hd6.cell ⟨g, i, none⟩).trans Hci.out
          have hfi6 : w6.frozen? ⟨g, i, none⟩ = false := h6.frozenAt i
          clear hd6 hown hinv hoff h6 hcj
          go_wp2
          go_roundg (n - (j + 1))
          case measure => omega
          case rel => exact ⟨i + 1, j + 1, _, by go_num, by go_num, by omega, by omega, R1, R2, R3⟩
      · have e : j = n := by omega
        subst e
        have hcl : ∀ ty, (Builtin.clear_ #[41] ty #[.slice (some ⟨g, i, none⟩) (j - i) (cap - i)]).run Try.prog wr = .ok (.tuple #[]) (wr.setCells g i (List.replicate (j - i) (.slice none 0 0))) :=
          fun ty => Lib.run_clear_slice wr _ _ ty (.slice none 0 0) Try.underlying41 (fun _ => by rfl) rfl rfl g i _ _ (by omega) (fun t ht => by rw [hown.out.cellAt (i + t) (by omega), List.getElem?_eq_getElem (by omega)]; rfl) (fun t ht => hown.out.frozenAt (i + t))
        have HT := Lib.hid (show ts.take j = ts from List.take_of_length_le (by have := Htl.out; omega))
        obtain ⟨us', hown', htk⟩ := setCells_owns (List.replicate (j - i) (Value.slice none 0 0)) i wr usk hown.out
        have hoff' := hoff.out.trans (setCells_off g (List.replicate (j - i) (Value.slice none 0 0)) i wr)
        have hfin := owns_take hown' (Nat.le_of_lt hij)
        have hi9 := hinv.out
        rw [htk, hi9.1, HT.out] at hfin
        rw [HT.out] at hi9
        have hVl : V.length = i := by rw [HV.out, List.length_map]; exact hi9.2.1.symm
        have hsub : List.Sublist ((kept row ts).map (fun (t : Row3) => t.2.2)) (ts.map (fun (t : Row3) => t.2.2)) := List.Sublist.map _ List.filter_sublist
        have Hres := Lib.hid (show DelP F0 w V (.returned (.slice (some ⟨g, 0, none⟩) i cap)) (wr.setCells g i (List.replicate (j - i) (.slice none 0 0))) from
          ⟨_, [g] ++ ((kept row ts).map (fun (t : Row3) => t.2.2)).flatten, rfl, ⟨(kept row ts).map (·.1), (kept row ts).map (fun (t : Row3) => t.2.2), by rw [hVl]; exact hfin, by rw [hVl, List.length_map]; exact hi9.2.1.symm, fun q u x G hu hx hG => by
            rw [HV.out] at hx
            rw [List.getElem?_map, Option.map_eq_some_iff] at hu hx hG
            obtain ⟨t1, q1, rfl⟩ := hu
            obtain ⟨t2, q2, rfl⟩ := hx
            obtain ⟨t3, q3, rfl⟩ := hG
            rw [q1] at q2 q3
            obtain rfl := Option.some.inj q2
            obtain rfl := Option.some.inj q3
            have hm : t1 ∈ ts := mem_filt (List.mem_of_getElem? q1)
            obtain ⟨p, hp⟩ := List.getElem?_of_mem hm
            exact Kept.off (OInts.kept _) (Hrow.out p t1 hp).1 hoff' (fun b hb hm2 => by simp at hm2; subst hm2; exact HgF.out (HtF.out t1 hm _ hb)), rfl⟩,
            List.nodup_append.2 ⟨by simp, nodup_sub hsub HFsn.out, fun p hp q hq e => by
              simp at hp; subst hp; subst e
              obtain ⟨G, hG, hb⟩ := List.mem_flatten.1 hq
              obtain ⟨t, ht, rfl⟩ := List.mem_map.1 hG
              exact HgF.out (HtF.out t (mem_filt ht) _ hb)⟩,
            fun b hb => HFin.out b (by
              rcases List.mem_append.1 hb with h | h
              · exact Or.inl (by simpa using h)
              · obtain ⟨G, hG, hb⟩ := List.mem_flatten.1 h
                obtain ⟨t, ht, rfl⟩ := List.mem_map.1 hG
                exact Or.inr (HtF.out t (mem_filt ht) _ hb)),
            hoff'.mono (fun b hb => HFin.out b (Or.inl (by simpa using hb)))⟩)
        have hin : (i : Int) ≤ (j : Int) := by omega
        have hin2 : (i : Int) < (j : Int) := by omega
        have hicap : (i : Int) ≤ (cap : Int) := by omega
        have hne : i ≠ cap := by omega
        clear hown' htk hoff' hfin hi9 hVl hsub hown hinv hoff
        go_wp2
        go_ret
        exact Hres.out
end Go.Proofs.Ytdohepngandajaa
end

section
/-
  SplitOut, the program's: the arcs from a vertex divided.
-/
namespace Go.Proofs.Ytdohepngandajaa
open Go.RowKit Go.Deep Go.Sd

theorem clone_c {w : World} {v : Value} {xs : List Int} (h : Ints w v xs) (hl : xs.length ≤ 1048576) :
    Calls Try.prog 155 #[v] w (Makes (OInts 3) w xs) := by
  have hsh := h.shape
  obtain ⟨a, c, rfl, _, _, hcell⟩ := hsh
  have q : ∀ (w : World) (a : Option Addr) (n c n' c' : Nat), (binOp .eql 50 (.slice a n c) (.slice none n' c')).run Try.prog w = .ok (.bool a.isNone) w := fun w a n c n' c' => Lib.run_eql_slice_nil w _ _ a n c n' c' Try.underlying50
  cases a with
  | none =>
    have h0 : xs.length = 0 := by
      by_cases h1 : 0 < xs.length
      · obtain ⟨b, o, h2, _⟩ := hcell h1
        cases h2
      · omega
    obtain rfl : xs = [] := List.length_eq_zero_iff.1 h0
    clear h hcell
    go_enter Try.func155, Try.ntmps155
    go_wp2
    go_ret
    exact ⟨_, rfl, New.nil _ _, Below.refl _ _⟩
  | some p =>
    have Hp := Lib.hid (Ints.frame _ _ _ _ h ((Below.refl w.heap.size w).alloc (Nat.le_refl _) (.cells #[] 3)))
    clear h hcell
    go_enter Try.func155, Try.ntmps155
    go_wp2_with (at_builtin; refine wpl_append_vals (f := Value.int .i64) (fun _ => rfl) rfl (.tmp 5) (.tmp 6) 50 rfl 3 (.int .i64 0) 8 Try.underlying50 infoI rfl (New.empty (R := OValR (Value.int .i64)) (lo := w.heap.size) w (Nat.le_refl _)) (by simp) Hp.out rfl rfl (by simp; omega) (by simp; omega) ?_; intro v1 w1 hn1 _ _ hb1; have Hn1 := Lib.hid hn1; have Hb1 := Lib.hid (((Below.refl w.heap.size w).alloc (Nat.le_refl _) _).trans hb1); clear hn1 hb1)
    go_ret
    exact ⟨_, rfl, Hn1.out, Hb1.out⟩

/-- A slice of n numbers: where they lie. -/
theorem ints_at {w : World} {v : Value} {xs : List Int} {n : Nat} (h : Ints w v xs) (hn : xs.length = n) (h0 : 0 < n) :
    ∃ b o c, v = .slice (some ⟨b, o, none⟩) n c ∧ b < w.heap.size ∧ ∀ j, j < n → w.cell? ⟨b, o + j, none⟩ = some (.int .i64 (xs.getD j 0)) := by
  subst hn
  obtain ⟨a, c, rfl, _, _, hc⟩ := h.shape
  obtain ⟨b, o, rfl, hb, hx⟩ := hc h0
  refine ⟨b, o, c, rfl, hb, fun j hj => ?_⟩
  obtain ⟨x, hxj, _⟩ := at_lt hj
  obtain ⟨u, hu, rfl⟩ := hx j x hxj
  rw [hu]
  simp [List.getD, hxj]

/-- Row k of the divided matrix, ahead of its last number. -/
def splitR (m : List (List Int)) (I : Nat) (P : List Int) (n k l : Nat) : Int := if k = n then ent m I l - P.getD l 0 else if k = I then P.getD l 0 else ent m k l
def splitT (m : List (List Int)) (I : Nat) (P : List Int) (n : Nat) : List (List Int) := (List.range (n + 1)).map fun k => rowOf' n (splitR m I P n k) ++ [splitR m I P n k I]
theorem splitT_at {m : List (List Int)} {I : Nat} {P : List Int} {n k : Nat} (hk : k < n + 1) : (splitT m I P n)[k]? = some (rowOf' n (splitR m I P n k) ++ [splitR m I P n k I]) := by simp [splitT, hk]
theorem splitT_len (m : List (List Int)) (I : Nat) (P : List Int) (n : Nat) : (splitT m I P n).length = n + 1 := by simp [splitT]
theorem splitR_last (m : List (List Int)) (I : Nat) (P : List Int) (n : Nat) : splitR m I P n n = fun l => ent m I l - P.getD l 0 := by funext l; simp [splitR]
theorem splitR_part (m : List (List Int)) {I : Nat} (P : List Int) {n : Nat} (h : I < n) : splitR m I P n I = fun l => P.getD l 0 := by funext l; unfold splitR; rw [if_neg (by omega), if_pos rfl]
theorem splitR_row (m : List (List Int)) {I : Nat} (P : List Int) {n k : Nat} (h : k < n) (hI : k ≠ I) : splitR m I P n k = fun l => ent m k l := by funext l; unfold splitR; rw [if_neg (by omega), if_neg hI]
theorem row_full {r : List Int} {n : Nat} (h : r.length = n) : r = rowOf' n (fun l => r.getD l 0) := by subst h; exact row_eq r

def partOk (m : List (List Int)) (I : Nat) (P : List Int) (n : Nat) : Prop := ∀ l, l < n → 0 ≤ P.getD l 0 ∧ P.getD l 0 ≤ ent m I l ∧ ent m I l ≤ 1000000

set_option maxHeartbeats 4000000 in
set_option maxRecDepth 100000 in
theorem split_c {w : World} {va vp : Value} {m : List (List Int)} {P : List Int} {I n : Nat} (h1 : Tab w va m) (h2 : Ints w vp P) (hm : Sq n m) (hp : P.length = n) (hI : I < n) (hn : n ≤ 8) (hok : partOk m I P n) :
    Calls Try.prog 164 #[va, .int .i64 I, vp] w (Makes (OTab 3 50) w (splitT m I P n)) := by
  have hn0 : 0 < n := by omega
  have Hms := Lib.hid (fun k (hk : k < n) (hr : (m.getD k []).length = n) => row_full hr)
  have Hlen := Lib.hid (fun k (hk : k < n) => (hm.row hk).2)
  obtain ⟨ab, ao, ac, rfl, hab, hae⟩ := h1.entAt hm.1 hm.2 hn0
  obtain ⟨pb, po, pc, rfl, hpb, hpe⟩ := ints_at h2 hp hn0
  have H2 := Lib.hid h2
  have Hp := Lib.hid hp
  have Hok := Lib.hid hok
  obtain ⟨ib, io, ic, hI1, hib, _, hI2⟩ := hae.at hI hn0
  have hIi : (I : Int) < (n : Int) := by omega
  clear h1 h2 hm hp hok
  go_enter Try.func164, Try.ntmps164
  go_wp2
  go_loopg [7, 19] n (fun g v ii wr => ∃ (k : Nat), ii = .int .i64 k ∧ k + g = n ∧ New (OInts 3) w.heap.size wr v ((rowOf' n (splitR m I P n n)).take k) ∧ Below w.heap.size w wr)
  case atStart => exact ⟨0, rfl, by omega, New.empty w (Nat.le_refl _), (Below.refl _ _).alloc (Nat.le_refl _) _⟩
  case round =>
    obtain ⟨k, rfl, hk, hnew, hbel⟩ := hrel
    obtain ⟨wo, rfl⟩ : ∃ wo : World, wo = wr := ⟨_, rfl⟩
    have hle := hbel.size
    have hrule := hbel.rule
    have Hn := Lib.hid hnew
    have Hb := Lib.hid hbel
    have Hlk := Lib.hid (show ((rowOf' n (splitR m I P n n)).take k).length ≤ n from by rw [List.length_take]; omega)
    by_cases hlt : k < n
    · have hA3 := hI2 k hlt
      have hP3 := hpe k hlt
      obtain ⟨hd1, hd2, hd3⟩ := Hok.out k hlt
      have Hs := Lib.hid (show _ = _ from take_snoc' (show (rowOf' n (splitR m I P n n))[k]? = some (ent m I k - P.getD k 0) from by rw [rowOf_at hlt, splitR_last]))
      generalize ent m I k = X at *
      generalize P.getD k 0 = Y at *
      clear hnew hbel hI2 hpe hae
      go_wp2_with (at_builtin; refine wpl_push (w0 := wo) (lo := w.heap.size) (y := X - Y) OIntR.kept rfl (.tmp 24) (.tmp 31) 50 rfl 3 (.int .i64 0) 8 Try.underlying50 infoI rfl Hn.out hle ((Below.refl _ _).alloc (Nat.le_refl _) _) ⟨[], ⟨rfl, rfl⟩, by simp [Fresh]⟩ (bb := wo.heap.size) (c := 1) (by simp) rfl rfl (by have := Hlk.out; omega) (by have := Hlk.out; omega) ?_; intro v1 w1 hn1 _ _ hb1)
      go_roundg (n - (k + 1))
      case measure => omega
      case rel => exact ⟨k + 1, by go_num, by omega, by rw [← Hs.out]; exact hn1, Hb.out.trans hb1⟩
    · have e : k = n := by omega
      subst e
      clear hk
      rw [rowOf_full] at hnew
      obtain ⟨gb, gc, hv, _, _, hgb, _, _, _⟩ := hnew.int_at (show (rowOf' k (splitR m I P k k))[I]? = some (splitR m I P k k I) from rowOf_at hI)
      rw [rowOf_len] at hv
      subst hv
      obtain ⟨wa, rfl⟩ : ∃ wa : World, wa = wo := ⟨_, rfl⟩
      obtain ⟨n, rfl⟩ : ∃ n : Nat, n = k := ⟨_, rfl⟩
      have Hrest := Lib.hid hnew
      have Hba := Lib.hid hbel
      have hae1 := hae.frame hab hbel
      have hab1 : ab < wa.heap.size := by omega
      have hpb1 : pb < wa.heap.size := by omega
      have Hp1 := Lib.hid (Ints.frame _ _ _ _ H2.out hbel)
      have hpI : wa.cell? ⟨pb, po + I, none⟩ = some (.int .i64 (P.getD I 0)) := (hbel.cell (p := ⟨pb, po + I, none⟩) hpb).trans (hpe I hI)
      have hle0 := hle
      clear hnew hbel hae hI1 hI2 hpe hrule Hn Hb Hlk hib hle
      go_wp2
      go_loopg [10, 37] n (fun g v ii wr => ∃ (k : Nat), ii = .int .i64 k ∧ k + g = n ∧ New (OTab 3 50) wa.heap.size wr v ((splitT m I P n).take k) ∧ Below wa.heap.size wa wr)
      case atStart => exact ⟨0, rfl, by omega, New.empty wa (Nat.le_refl _), (Below.refl _ _).alloc (Nat.le_refl _) _⟩
      case round =>
        obtain ⟨k, rfl, hk, hnew, hbel⟩ := hrel
        obtain ⟨wo, rfl⟩ : ∃ wo : World, wo = wr := ⟨_, rfl⟩
        have hle := hbel.size
        have hrule := hbel.rule
        have Hn := Lib.hid hnew
        have Hb := Lib.hid hbel
        have Hlk := Lib.hid (show ((splitT m I P n).take k).length ≤ n from by rw [List.length_take]; omega)
        by_cases hlt : k < n
        · obtain ⟨rb, ro, rc, hA1, hrb, hIn, hA2⟩ := hae1.at hlt hn0
          have hA3 := hA2 I hI
          have Hs0 := Lib.hid (show _ = _ from take_snoc' (splitT_at (m := m) (I := I) (P := P) (show k < n + 1 by omega)))
          have Hml := Lib.hid (Hlen.out k hlt)
          have Hmr := Lib.hid (Hms.out k hlt Hml.out)
          clear hae1 hA2
          by_cases hkI : k = I
          · subst hkI
            have t1 : ((k : Int) == (k : Int)) = true := by simp
            have Hs := Lib.hid (show (splitT m k P n).take k ++ [P ++ [P.getD k 0]] = (splitT m k P n).take (k + 1) from by rw [← Hs0.out, splitR_part m P hlt, ← row_full Hp.out])
            clear Hs0 hA3 hrb hIn Hml Hmr
            have Hin := Lib.hid (show Ints wo (.slice (some ⟨pb, po, none⟩) n pc) (P) from Ints.frame _ _ _ _ Hp1.out hbel)
            have hS0 : wo.cell? ⟨pb, po + k, none⟩ = some (.int .i64 (P.getD k 0)) := (hbel.cell (p := ⟨pb, po + k, none⟩) hpb1).trans hpI
            have hrbo : pb < wo.heap.size := by omega
            have Hxl := Lib.hid (show (P).length = n from Hp.out)
            have Hcl := Lib.hid (fun (W : World) (hW : Below wo.heap.size wo W) => clone_c (Ints.frame _ _ _ _ Hin.out hW) (by rw [Hxl.out]; omega))
            obtain ⟨xs, hxs⟩ : ∃ xs : List Int, xs = P := ⟨_, rfl⟩
            rw [← hxs] at Hin Hxl Hcl
            have Hxs := Lib.hid hxs
            clear hxs
            generalize P.getD k 0 = X at *
            clear hnew hbel
            go_wp2_with fail
            go_region_held3 (fun w' => w'.cell? ⟨pb, po + k, none⟩ = some (.int .i64 X))
              (first
                | exact hS3
                | exact hS2
                | exact hS1
                | exact hS0
                | go_keep)
              ((first
                | (refine (Hcl.out _ ((Below.refl _ _).drew)).mono ?_
                   rintro e w1 ⟨v1, rfl, hn1, hb1⟩
                   have hn1' : New (OInts 3) wo.heap.size w1 v1 xs := hn1
                   have hz1 : wo.heap.size ≤ w1.heap.size := hb1.size
                   have Hb1 := Lib.hid (show Below wo.heap.size wo w1 from ((Below.refl _ _).drew).trans hb1)
                   have Hn1 := Lib.hid hn1'
                   have hS1 : w1.cell? ⟨pb, po + k, none⟩ = some (.int .i64 X) := (Hb1.out.cell (p := ⟨pb, po + k, none⟩) hrbo).trans hS0
                   clear hn1 hb1 hn1')
                | (refine (Hcl.out _ (((Below.refl _ _).alloc (Nat.le_refl _) (.cells #[.int .i64 X] 3)).drew)).mono ?_
                   rintro e w1 ⟨v1, rfl, hn1, hb1⟩
                   have hn1' : New (OInts 3) wo.heap.size w1 v1 xs := hn1.mono (show wo.heap.size ≤ (wo.alloc (.cells #[.int .i64 X] 3)).heap.size by simp)
                   have hsz0 : (wo.alloc (.cells #[.int .i64 X] 3)).heap.size ≤ w1.heap.size := hb1.size
                   have hsz1 : (wo.alloc (.cells #[.int .i64 X] 3)).heap.size = wo.heap.size + 1 := by simp
                   have hsz : wo.heap.size + 1 ≤ w1.heap.size := by omega
                   have hz1 : wo.heap.size ≤ w1.heap.size := by omega
                   have Hb1 := Lib.hid (show Below wo.heap.size wo w1 from (((Below.refl _ _).alloc (Nat.le_refl _) (.cells #[.int .i64 X] 3)).drew).trans (hb1.mono (show wo.heap.size ≤ (wo.alloc (.cells #[.int .i64 X] 3)).heap.size by simp)))
                   have hcx : w1.cell? ⟨wo.heap.size, 0, none⟩ = some (.int .i64 X) := (hb1.cell (p := ⟨wo.heap.size, 0, none⟩) (show wo.heap.size < (wo.alloc (.cells #[.int .i64 X] 3)).heap.size by simp)).trans (show (wo.alloc (.cells #[.int .i64 X] 3)).cell? ⟨wo.heap.size, 0, none⟩ = _ by simp)
                   have Hn1 := Lib.hid hn1'
                   have hS1 : w1.cell? ⟨pb, po + k, none⟩ = some (.int .i64 X) := (Hb1.out.cell (p := ⟨pb, po + k, none⟩) hrbo).trans hS0
                   clear hn1 hb1 hn1' hsz hsz0 hsz1)
                | (refine step_push (w0 := w1) (lo := wo.heap.size) (y := X) OIntR.kept (by rfl) (.tmp 48) (.tmp 53) 50 (by rfl) 3 (.int .i64 0) 8 Try.underlying50 infoI (by rfl) Hn1.out hz1 ((Below.refl _ _).alloc (Nat.le_refl _) _) ⟨[], ⟨rfl, rfl⟩, by simp [Fresh]⟩ (bb := w1.heap.size) (c := 1) (by simp) (by rfl) (by rfl) (by rw [Hxl.out]; omega) (by rw [Hxl.out]; omega) ?_
                   intro v2 w2 hn2 _ _ hb2
                   obtain ⟨ya, yn, yc, rfl⟩ := hn2.slice
                   have Hn2 := Lib.hid hn2
                   have Hb2 := Lib.hid (Hb1.out.trans hb2)
                   have hz2 : wo.heap.size ≤ w2.heap.size := Hb2.out.size
                   have hS2 : w2.cell? ⟨pb, po + k, none⟩ = some (.int .i64 X) := (Hb2.out.cell (p := ⟨pb, po + k, none⟩) hrbo).trans hS0
                   clear hn2 hb2)
                | (refine step_push (w0 := w1) (lo := wo.heap.size) (y := X) OIntR.kept (by rfl) (.tmp 48) (.tmp 53) 50 (by rfl) 3 (.int .i64 0) 8 Try.underlying50 infoI (by rfl) Hn1.out hz1 (Below.refl _ _) ⟨[], ⟨rfl, rfl⟩, by simp [Fresh]⟩ (bb := wo.heap.size) (c := 1) hcx (by rfl) (by rfl) (by rw [Hxl.out]; omega) (by rw [Hxl.out]; omega) ?_
                   intro v2 w2 hn2 _ _ hb2
                   obtain ⟨ya, yn, yc, rfl⟩ := hn2.slice
                   have Hn2 := Lib.hid hn2
                   have Hb2 := Lib.hid (Hb1.out.trans hb2)
                   have hz2 : wo.heap.size ≤ w2.heap.size := Hb2.out.size
                   have hS2 : w2.cell? ⟨pb, po + k, none⟩ = some (.int .i64 X) := (Hb2.out.cell (p := ⟨pb, po + k, none⟩) hrbo).trans hS0
                   clear hn2 hb2)
                | (refine step_push (w0 := wo) (lo := wa.heap.size) (OInts.kept _) (by rfl) (.tmp 46) (.tmp 55) 41 (by rfl) 50 (.slice none 0 0) 24 Try.underlying41 infoR (by rfl) Hn.out hle (Hb2.out.alloc hz2 _) (New.keep (OInts.kept _) Hn2.out ((Below.refl w2.heap.size _).alloc (Nat.le_refl _) _) (Nat.le_refl _)) (bb := w2.heap.size) (c := 1) (by simp) (by rfl) (by rfl) (by have := Hlk.out; omega) (by have := Hlk.out; omega) ?_
                   intro v3 w3 hn3 _ _ hb3
                   have Hn3 := Lib.hid hn3
                   have Hb3 := Lib.hid hb3
                   have hS3 : w3.cell? ⟨pb, po + k, none⟩ = some (.int .i64 X) := (Hb3.out.cell (p := ⟨pb, po + k, none⟩) (by omega)).trans hS0
                   clear hn3 hb3)
                | fail))
            all_goals (
              go_wp2
              go_roundg (n - (k + 1))
              case measure => omega
              case rel => exact ⟨k + 1, by go_num, by omega, by have h := Hn3.out; rw [Hxs.out, Hs.out] at h; exact h, Hb.out.trans Hb3.out⟩)
          · have t1 : ((k : Int) == (I : Int)) = false := by simp; omega
            have Hs := Lib.hid (show (splitT m I P n).take k ++ [m.getD k [] ++ [ent m k I]] = (splitT m I P n).take (k + 1) from by rw [← Hs0.out, splitR_row m P hlt hkI, show rowOf' n (fun l => ent m k l) = m.getD k [] from Hmr.out.symm])
            clear Hs0 hkI
            have Hin := Lib.hid (show Ints wo (.slice (some ⟨rb, ro, none⟩) n rc) (m.getD k []) from Ints.frame _ _ _ _ hIn hbel)
            have hS0 : wo.cell? ⟨rb, ro + I, none⟩ = some (.int .i64 (ent m k I)) := (hbel.cell (p := ⟨rb, ro + I, none⟩) hrb).trans hA3
            have hrbo : rb < wo.heap.size := by omega
            have Hxl := Lib.hid (show (m.getD k []).length = n from Hml.out)
            have Hcl := Lib.hid (fun (W : World) (hW : Below wo.heap.size wo W) => clone_c (Ints.frame _ _ _ _ Hin.out hW) (by rw [Hxl.out]; omega))
            obtain ⟨xs, hxs⟩ : ∃ xs : List Int, xs = m.getD k [] := ⟨_, rfl⟩
            rw [← hxs] at Hin Hxl Hcl
            have Hxs := Lib.hid hxs
            clear hxs
            generalize ent m k I = X at *
            clear hnew hbel
            go_wp2_with fail
            go_region_held3 (fun w' => w'.cell? ⟨rb, ro + I, none⟩ = some (.int .i64 X))
              (first
                | exact hS3
                | exact hS2
                | exact hS1
                | exact hS0
                | go_keep)
              ((first
                | (refine (Hcl.out _ ((Below.refl _ _).drew)).mono ?_
                   rintro e w1 ⟨v1, rfl, hn1, hb1⟩
                   have hn1' : New (OInts 3) wo.heap.size w1 v1 xs := hn1
                   have hz1 : wo.heap.size ≤ w1.heap.size := hb1.size
                   have Hb1 := Lib.hid (show Below wo.heap.size wo w1 from ((Below.refl _ _).drew).trans hb1)
                   have Hn1 := Lib.hid hn1'
                   have hS1 : w1.cell? ⟨rb, ro + I, none⟩ = some (.int .i64 X) := (Hb1.out.cell (p := ⟨rb, ro + I, none⟩) hrbo).trans hS0
                   clear hn1 hb1 hn1')
                | (refine (Hcl.out _ (((Below.refl _ _).alloc (Nat.le_refl _) (.cells #[.int .i64 X] 3)).drew)).mono ?_
                   rintro e w1 ⟨v1, rfl, hn1, hb1⟩
                   have hn1' : New (OInts 3) wo.heap.size w1 v1 xs := hn1.mono (show wo.heap.size ≤ (wo.alloc (.cells #[.int .i64 X] 3)).heap.size by simp)
                   have hsz0 : (wo.alloc (.cells #[.int .i64 X] 3)).heap.size ≤ w1.heap.size := hb1.size
                   have hsz1 : (wo.alloc (.cells #[.int .i64 X] 3)).heap.size = wo.heap.size + 1 := by simp
                   have hsz : wo.heap.size + 1 ≤ w1.heap.size := by omega
                   have hz1 : wo.heap.size ≤ w1.heap.size := by omega
                   have Hb1 := Lib.hid (show Below wo.heap.size wo w1 from (((Below.refl _ _).alloc (Nat.le_refl _) (.cells #[.int .i64 X] 3)).drew).trans (hb1.mono (show wo.heap.size ≤ (wo.alloc (.cells #[.int .i64 X] 3)).heap.size by simp)))
                   have hcx : w1.cell? ⟨wo.heap.size, 0, none⟩ = some (.int .i64 X) := (hb1.cell (p := ⟨wo.heap.size, 0, none⟩) (show wo.heap.size < (wo.alloc (.cells #[.int .i64 X] 3)).heap.size by simp)).trans (show (wo.alloc (.cells #[.int .i64 X] 3)).cell? ⟨wo.heap.size, 0, none⟩ = _ by simp)
                   have Hn1 := Lib.hid hn1'
                   have hS1 : w1.cell? ⟨rb, ro + I, none⟩ = some (.int .i64 X) := (Hb1.out.cell (p := ⟨rb, ro + I, none⟩) hrbo).trans hS0
                   clear hn1 hb1 hn1' hsz hsz0 hsz1)
                | (refine step_push (w0 := w1) (lo := wo.heap.size) (y := X) OIntR.kept (by rfl) (.tmp 48) (.tmp 53) 50 (by rfl) 3 (.int .i64 0) 8 Try.underlying50 infoI (by rfl) Hn1.out hz1 ((Below.refl _ _).alloc (Nat.le_refl _) _) ⟨[], ⟨rfl, rfl⟩, by simp [Fresh]⟩ (bb := w1.heap.size) (c := 1) (by simp) (by rfl) (by rfl) (by rw [Hxl.out]; omega) (by rw [Hxl.out]; omega) ?_
                   intro v2 w2 hn2 _ _ hb2
                   obtain ⟨ya, yn, yc, rfl⟩ := hn2.slice
                   have Hn2 := Lib.hid hn2
                   have Hb2 := Lib.hid (Hb1.out.trans hb2)
                   have hz2 : wo.heap.size ≤ w2.heap.size := Hb2.out.size
                   have hS2 : w2.cell? ⟨rb, ro + I, none⟩ = some (.int .i64 X) := (Hb2.out.cell (p := ⟨rb, ro + I, none⟩) hrbo).trans hS0
                   clear hn2 hb2)
                | (refine step_push (w0 := w1) (lo := wo.heap.size) (y := X) OIntR.kept (by rfl) (.tmp 48) (.tmp 53) 50 (by rfl) 3 (.int .i64 0) 8 Try.underlying50 infoI (by rfl) Hn1.out hz1 (Below.refl _ _) ⟨[], ⟨rfl, rfl⟩, by simp [Fresh]⟩ (bb := wo.heap.size) (c := 1) hcx (by rfl) (by rfl) (by rw [Hxl.out]; omega) (by rw [Hxl.out]; omega) ?_
                   intro v2 w2 hn2 _ _ hb2
                   obtain ⟨ya, yn, yc, rfl⟩ := hn2.slice
                   have Hn2 := Lib.hid hn2
                   have Hb2 := Lib.hid (Hb1.out.trans hb2)
                   have hz2 : wo.heap.size ≤ w2.heap.size := Hb2.out.size
                   have hS2 : w2.cell? ⟨rb, ro + I, none⟩ = some (.int .i64 X) := (Hb2.out.cell (p := ⟨rb, ro + I, none⟩) hrbo).trans hS0
                   clear hn2 hb2)
                | (refine step_push (w0 := wo) (lo := wa.heap.size) (OInts.kept _) (by rfl) (.tmp 46) (.tmp 55) 41 (by rfl) 50 (.slice none 0 0) 24 Try.underlying41 infoR (by rfl) Hn.out hle (Hb2.out.alloc hz2 _) (New.keep (OInts.kept _) Hn2.out ((Below.refl w2.heap.size _).alloc (Nat.le_refl _) _) (Nat.le_refl _)) (bb := w2.heap.size) (c := 1) (by simp) (by rfl) (by rfl) (by have := Hlk.out; omega) (by have := Hlk.out; omega) ?_
                   intro v3 w3 hn3 _ _ hb3
                   have Hn3 := Lib.hid hn3
                   have Hb3 := Lib.hid hb3
                   have hS3 : w3.cell? ⟨rb, ro + I, none⟩ = some (.int .i64 X) := (Hb3.out.cell (p := ⟨rb, ro + I, none⟩) (by omega)).trans hS0
                   clear hn3 hb3)
                | fail))
            all_goals (
              go_wp2
              go_roundg (n - (k + 1))
              case measure => omega
              case rel => exact ⟨k + 1, by go_num, by omega, by have h := Hn3.out; rw [Hxs.out, Hs.out] at h; exact h, Hb.out.trans Hb3.out⟩)
        · have e : n = k := by omega
          subst e
          clear hk hae1 hpI
          have Hs := Lib.hid (show (splitT m I P n).take n ++ [rowOf' n (splitR m I P n n) ++ [splitR m I P n n I]] = splitT m I P n from by rw [take_snoc' (splitT_at (by omega)), List.take_of_length_le (by rw [splitT_len]; omega)])
          have Ha := Lib.hid ((Apart.of_new (OInts.kept _) Hrest.out hnew hbel hle0).symm)
          have hB : w.heap.size ≤ wo.heap.size := by omega
          obtain ⟨gb', gc', hv', _, _, hgb', hcell, _, _⟩ := Ha.out.right.int_at (show (rowOf' n (splitR m I P n n))[I]? = some (splitR m I P n n I) from rowOf_at hI)
          obtain rfl : gb' = gb := by simp at hv'; exact hv'.1.symm
          have Hal := Lib.hid (Ha.out.keep (OTab.kept _ _) (OInts.kept _) ((Below.refl wo.heap.size wo).alloc (Nat.le_refl _) (.cells #[.int .i64 (splitR m I P n n I)] 3)) (Nat.le_refl _))
          have Hlr := Lib.hid (rowOf_len n (splitR m I P n n))
          obtain ⟨xa, xn, xc, rfl⟩ := hnew.slice
          generalize rowOf' n (splitR m I P n n) = rs at *
          generalize splitR m I P n n I = X at *
          have Hbo := Lib.hid (Hba.out.trans (hbel.mono hle0))
          clear hnew hbel hrule hv' Hn Hb Hrest
          go_wp2_with (first
            | (at_builtin; obtain ⟨v1, w1, hr1, hA1, hb1⟩ := Apart.push2 (P := Try.prog) (bb := wo.heap.size) (c := 1) (q := .int .i64 X) (y := X) (OTab.kept _ _) OIntR.kept 50 50 (.int .i64 0) 8 Try.underlying50 infoI rfl Hal.out (by simp; omega) (by simp) ⟨rfl, rfl⟩ (by rw [Hlr.out]; omega) (by rw [Hlr.out]; omega); refine wpl_append_run rfl (.tmp 59) (.tmp 64) 50 rfl rfl rfl hr1 ?_; obtain ⟨ya, yn, yc, rfl⟩ := hA1.right.slice; have HA1 := Lib.hid hA1; have Hb1 := Lib.hid hb1; have hz1 := hb1.size; clear hr1 hA1 hb1)
            | (at_builtin; obtain ⟨v2, w2, hr2, hn2, hb2⟩ := Apart.push (P := Try.prog) (bb := w1.heap.size) (c := 1) (OInts.kept _) 41 41 (.slice none 0 0) 24 Try.underlying41 infoR rfl (HA1.out.keep (OTab.kept _ _) (OInts.kept _) ((Below.refl w1.heap.size w1).alloc (Nat.le_refl _) (.cells #[.slice ya yn yc] 50)) (Nat.le_refl _)) (by simp at hz1 ⊢; omega) (by simp) (by have := Hlk.out; omega) (by have := Hlk.out; omega); refine wpl_append_run rfl (.tmp 58) (.tmp 66) 41 rfl rfl rfl hr2 ?_; have Hn2 := Lib.hid hn2; have Hb2 := Lib.hid hb2; clear hr2 hn2 hb2)
            | fail)
          go_ret
          exact ⟨_, rfl, by rw [← Hs.out]; exact Hn2.out, Hbo.out.trans ((((Below.refl _ _).alloc hB _).trans Hb1.out).trans (((Below.refl _ _).alloc (by simp at hz1; omega) _).trans Hb2.out))⟩
end Go.Proofs.Ytdohepngandajaa
end

section
/-
  PartsOf, the program's.
-/
namespace Go.Sd
open Go.RowKit Go.Deep
theorem New.one {α : Type} {e : TypeId} {R : OwnRel α} (hR : Kept R) {lo : Nat} {w : World} {u : Value} {x : α} (h : New R lo w u x) (hlo : lo ≤ w.heap.size) :
    New (OwnOf e R) lo (w.alloc (.cells #[u] e)) (.slice (some ⟨w.heap.size, 0, none⟩) 1 1) [x] := by
  obtain ⟨F, hF, hn, hge⟩ := h
  have hlt := hR.lt _ _ _ _ hF
  refine ⟨w.heap.size :: F, ⟨[u], [F], ⟨by simp, .inr ⟨w.heap.size, 1, #[u], rfl, Nat.zero_le _, heap_alloc_new w _, Nat.le_refl _, by simp [maxLen], by simp, by simp⟩⟩, rfl, ?_, by simp [Value.ownBlock]⟩, List.nodup_cons.2 ⟨fun hm => by have := hlt _ hm; omega, hn⟩, fun b hb => by
    rcases List.mem_cons.1 hb with rfl | hb
    · exact hlo
    · exact hge b hb⟩
  intro i u' x' G hu hx hG
  cases i with
  | zero =>
    simp at hu hx hG
    subst hu hx hG
    exact Kept.below hR hF ((Below.refl _ _).alloc (Nat.le_refl _) _)
  | succ i => simp at hu
theorem exts_len (l : List Int) (x : Int) : (exts l x).length = x.toNat + 1 := by simp [exts]
theorem flat_len (x : Int) : ∀ ls : Tbl, (ls.flatMap fun l => exts l x).length = ls.length * (x.toNat + 1)
  | [] => by simp
  | l :: ls => by
    rw [List.flatMap_cons, List.length_append, flat_len x ls, exts_len, List.length_cons, Nat.succ_mul]; omega
/-- Rows of k small numbers. -/
def RowsK (k : Nat) (cur : Tbl) : Prop := cur.length ≤ 4 ^ k ∧ ∀ l, l ∈ cur → l.length = k ∧ ∀ y, y ∈ l → 0 ≤ y ∧ y ≤ 3
theorem RowsK.next {k : Nat} {cur : Tbl} {x : Int} (h : RowsK k cur) (h0 : 0 ≤ x) (h3 : x ≤ 3) : RowsK (k + 1) (ext cur x) := by
  constructor
  · unfold ext
    rw [flat_len, Nat.pow_succ]
    exact Nat.mul_le_mul h.1 (by omega)
  · intro l hl
    obtain ⟨l0, hl0, hl1⟩ := List.mem_flatMap.1 hl
    obtain ⟨y, hy, rfl⟩ := List.mem_map.1 hl1
    have h1 := h.2 l0 hl0
    have hy2 := List.mem_range.1 hy
    refine ⟨by rw [List.length_append, h1.1]; rfl, fun z hz => ?_⟩
    rcases List.mem_append.1 hz with hz | hz
    · exact h1.2 z hz
    · simp at hz; omega
end Go.Sd
namespace Go.Proofs.Ytdohepngandajaa
open Go.RowKit Go.Deep Go.Sd
set_option maxHeartbeats 8000000 in
set_option maxRecDepth 100000 in
theorem impl_PartsOf_c {w : World} {v : Value} {row : List Int} (h : Ints w v row) :
    Calls Try.prog 95 #[v] w (Makes (OTab 3 50) w (partsV row)) := by
  have hlen := h.len
  obtain ⟨a, c, rfl, _, _, hcell⟩ := h.shape
  have Hi := Lib.hid h
  clear h
  have HV := Lib.hid (partsV_impl row)
  generalize partsV row = V at HV ⊢
  obtain ⟨n, hn⟩ : ∃ n, n = row.length := ⟨_, rfl⟩
  have Hn := Lib.hid hn
  rw [← hn] at hlen hcell HV Hi ⊢
  clear hn
  have hmf : ∀ (fn : Fn) (first cap : Array Value) (w : World), (Instr.makeFunc fn first cap).run Try.prog w = .ok (.func fn first cap) w := fun _ _ _ _ => rfl
  have qb : (w.alloc (.cells #[.slice a n c] 50)).cell? ⟨w.heap.size, 0, none⟩ = some (.slice a n c) := by simp
  have hb0 : Below w.heap.size w (w.alloc (.cells #[.slice a n c] 50)) := (Below.refl _ _).alloc (Nat.le_refl _) _
  have hz0 : (w.alloc (.cells #[.slice a n c] 50)).heap.size = w.heap.size + 1 := by simp
  by_cases h4 : n ≤ 4
  rotate_left
  · have HF := Lib.hid (show V = [] from by rw [HV.out, if_neg h4])
    have Hb0 := Lib.hid hb0
    clear HV hcell qb hb0 hz0 hmf
    go_enter Try.func95, Try.ntmps95
    go_wp2
    go_ret
    exact ⟨_, rfl, by rw [HF.out]; exact New.nil _ _, Hb0.out⟩
  have HV0 := Lib.hid (show V = goOn (keepI row) (row.drop 0) [[]] from by rw [HV.out, if_pos h4]; rfl)
  clear HV
  have Hn1 := Lib.hid (show New (OTab 3 50) (w.heap.size + 1) (((w.alloc (.cells #[.slice a n c] 50)).alloc (.cells #[] 3)).alloc (.cells #[.slice (some ⟨w.heap.size + 1, 0, none⟩) 0 0] 50)) (.slice (some ⟨w.heap.size + 1 + 1, 0, none⟩) 1 1) [[]] from by
    have h1 := New.one (e := 50) (OInts.kept 3) (New.empty (e := 3) (R := OIntR) (lo := w.heap.size + 1) (w.alloc (.cells #[.slice a n c] 50)) (by simp)) (by simp)
    rw [show ((w.alloc (.cells #[.slice a n c] 50)).alloc (.cells #[] 3)).heap.size = w.heap.size + 1 + 1 from by simp, hz0] at h1
    exact h1)
  have Hb1 := Lib.hid (show Below (w.heap.size + 1) (w.alloc (.cells #[.slice a n c] 50)) (((w.alloc (.cells #[.slice a n c] 50)).alloc (.cells #[] 3)).alloc (.cells #[.slice (some ⟨w.heap.size + 1, 0, none⟩) 0 0] 50)) from ((Below.refl _ _).alloc (by simp) _).alloc (by simp) _)
  have Hb0 := Lib.hid hb0
  have Hz0 := Lib.hid hz0
  clear hb0 hz0
  go_enter Try.func95, Try.ntmps95
  go_wp2
  generalize w.alloc (.cells #[.slice a n c] 50) = w1 at *
  have Hqb := Lib.hid qb
  generalize (w1.alloc (.cells #[] 3)).alloc (.cells #[.slice (some ⟨w.heap.size + 1, 0, none⟩) 0 0] 50) = wS at *
  clear qb
  go_loopg [3, 17] n (fun g v i wr => ∃ (k : Nat) (cur : Tbl), i = .int .i64 k ∧ k + g = n ∧ Hid (V = goOn (keepI row) (row.drop k) cur) ∧ Hid (RowsK k cur) ∧ Hid (New (OTab 3 50) (w.heap.size + 1) wr v cur) ∧ Hid (Below (w.heap.size + 1) w1 wr) ∧ Hid (∀ y, y ∈ row.take k → 0 ≤ y ∧ y ≤ 3))
  case atStart => exact ⟨0, [[]], rfl, by omega, HV0, Lib.hid ⟨by simp, by simp⟩, Hn1, Hb1, Lib.hid (fun y hy => by simp at hy)⟩
  case round =>
    obtain ⟨k, cur, rfl, hk, HK, hrk, hnew, hbel, htk⟩ := hrel
    have hsz1 := hbel.out.size
    have hb1 := Hz0.out
    by_cases hlt : k < n
    · obtain ⟨b, o, rfl, hb, hx0⟩ := hcell (by omega)
      obtain ⟨x, hx, hd⟩ := at_lt (xs := row) (k := k) (by have := Hn.out; omega)
      obtain ⟨u, hu, hux⟩ := hx0 k x hx
      obtain rfl : u = .int .i64 x := hux
      have hu1 : wr.cell? ⟨b, o + k, none⟩ = some (.int .i64 x) := (hbel.out.cell (p := ⟨b, o + k, none⟩) (by simp; omega)).trans ((Hb0.out.cell (p := ⟨b, o + k, none⟩) hb).trans hu)
      have HK1 := Lib.hid (show V = if 0 ≤ x ∧ x ≤ 3 then goOn (keepI row) (row.drop (k + 1)) (ext cur x) else [] from by rw [HK.out, hd]; rfl)
      have hbw : Below w.heap.size w wr := Hb0.out.trans (hbel.out.mono (by omega))
      have Hbw := Lib.hid hbw
      have hkn : (k : Int) < (n : Int) := by omega
      have Htk1 := Lib.hid (show ∀ y, y ∈ row.take (k + 1) → y = x ∨ (0 ≤ y ∧ y ≤ 3) from fun y hy => by
        rw [List.take_add_one, hx] at hy
        rcases List.mem_append.1 hy with hy | hy
        · exact Or.inr (htk.out y hy)
        · simp at hy; exact Or.inl hy)
      clear hx hd hx0 hcell hu HK hbw
      by_cases hxa : x < 0
      · have HF := Lib.hid (show V = [] from by rw [HK1.out, if_neg (by omega)])
        have d0 : decide (x < 0) = true := decide_eq_true hxa
        clear HK1
        go_wp2
        go_ret
        exact ⟨_, rfl, by rw [HF.out]; exact New.nil _ _, Hbw.out⟩
      by_cases hxb : 3 < x
      · have HF := Lib.hid (show V = [] from by rw [HK1.out, if_neg (by omega)])
        have d0 : decide (x < 0) = false := decide_eq_false hxa
        have d1 : decide (3 < x) = true := decide_eq_true hxb
        clear HK1
        go_wp2
        go_ret
        exact ⟨_, rfl, by rw [HF.out]; exact New.nil _ _, Hbw.out⟩
      obtain ⟨X, rfl⟩ := Int.eq_ofNat_of_zero_le (show 0 ≤ x by omega)
      have hX3 : X ≤ 3 := by omega
      have HF := Lib.hid (show V = goOn (keepI row) (row.drop (k + 1)) (ext cur (X : Int)) from by rw [HK1.out, if_pos (by omega)])
      have d0 : decide ((X : Int) < 0) = false := decide_eq_false hxa
      have d1 : decide (3 < (X : Int)) = false := decide_eq_false hxb
      have HtkN := Lib.hid (show ∀ y, y ∈ row.take (k + 1) → 0 ≤ y ∧ y ≤ 3 from fun y hy => by rcases Htk1.out y hy with h | h; subst h; omega; exact h)
      have HrkN := Lib.hid (hrk.out.next (x := (X : Int)) (by omega) (by omega))
      have hm64 : cur.length ≤ 64 := Nat.le_trans hrk.out.1 (Nat.le_trans (Nat.pow_le_pow_right (by decide) (show k ≤ 3 by omega)) (by decide))
      obtain ⟨ca, cc, rfl, _, _, hcx⟩ := hnew.out.tab.shape
      have Hcx := Lib.hid hcx
      have Htab := Lib.hid hnew.out.tab
      obtain ⟨m, hm⟩ : ∃ m, m = cur.length := ⟨_, rfl⟩
      have Hm := Lib.hid hm
      rw [← hm] at hm64 Hcx Htab hnew ⊢
      have hn0 : New (OTab 3 50) wr.heap.size (wr.alloc (.cells #[] 50)) (.slice (some ⟨wr.heap.size, 0, none⟩) 0 0) [] := New.empty wr (Nat.le_refl _)
      have Hn0 := Lib.hid hn0
      have Hbr0 := Lib.hid (show Below wr.heap.size wr (wr.alloc (.cells #[] 50)) from (Below.refl _ _).alloc (Nat.le_refl _) _)
      have Hfl := Lib.hid (fun (j : Nat) => show ((cur.take j).flatMap fun l => exts l (X : Int)).length ≤ 4 * j from by
        rw [flat_len]
        have h1 : (cur.take j).length ≤ j := List.length_take_le _ _
        have h2 : (X : Int).toNat + 1 ≤ 4 := by omega
        have h3 := Nat.mul_le_mul h1 h2
        omega)
      have Hrl := Lib.hid (fun l (hl : l ∈ cur) => show l.length ≤ 4 from by have := (hrk.out.2 l hl).1; omega)
      clear hcx hm hn0 HK1 hxa hxb hrk hnew
      obtain ⟨wa, rfl⟩ : ∃ x, x = wr := ⟨_, rfl⟩
      go_wp2
      go_loopg [6, 30] m (fun g vl i wj => ∃ (j : Nat), i = .int .i64 j ∧ j + g = m ∧ Hid (New (OTab 3 50) wa.heap.size wj vl ((cur.take j).flatMap fun l => exts l (X : Int))) ∧ Hid (Below wa.heap.size wa wj))
      case atStart => exact ⟨0, rfl, by omega, Lib.hid (by simpa using Hn0.out), Hbr0⟩
      case round =>
        obtain ⟨wj, rfl⟩ : ∃ x, x = wr := ⟨_, rfl⟩
        obtain ⟨j, rfl, hj, hnj, hbj⟩ := hrel
        by_cases hlt2 : j < m
        · obtain ⟨ob, oo, rfl, hob, hox⟩ := Hcx.out (by omega)
          obtain ⟨l, hl, hld⟩ := at_lt (xs := cur) (k := j) (by have := Hm.out; omega)
          obtain ⟨ul, hul, hurl⟩ := hox j l hl
          have hulj : wj.cell? ⟨ob, oo + j, none⟩ = some ul := (hbj.out.cell (p := ⟨ob, oo + j, none⟩) hob).trans hul
          have Hlr := Lib.hid hurl
          have hl4 := Hrl.out l (List.mem_of_getElem? hl)
          have HT := Lib.hid (show (cur.take (j + 1)).flatMap (fun l => exts l (X : Int)) = (cur.take j).flatMap (fun l => exts l (X : Int)) ++ exts l (X : Int) from by rw [List.take_add_one, hl, List.flatMap_append]; simp)
          obtain ⟨la, lc, rfl, _, _, _⟩ := hurl.shape
          generalize hll : l.length = ll at *
          have Hll := Lib.hid hll
          have hfl := Hfl.out j
          have hjm : (j : Int) < (m : Int) := by omega
          clear hl hld hul hurl hox hll
          go_wp2
          go_loopg [6, 36] (X + 1) (fun g vl i wy => ∃ (y : Nat), i = .int .i64 y ∧ y + g = X + 1 ∧ Hid (New (OTab 3 50) wa.heap.size wy vl (((cur.take j).flatMap fun l => exts l (X : Int)) ++ (List.range y).map fun (z : Nat) => l ++ [(z : Int)])) ∧ Hid (Below wa.heap.size wa wy))
          case atStart => exact ⟨0, rfl, by omega, Lib.hid (by simpa using hnj.out), hbj⟩
          case round =>
            obtain ⟨wy, rfl⟩ : ∃ x, x = wr := ⟨_, rfl⟩
            obtain ⟨y, rfl, hy, hny, hby⟩ := hrel
            have hly := Lib.hid (Ints.frame _ _ _ _ Hlr.out hby.out)
            by_cases hlt3 : y < X + 1
            · have Hcl := Lib.hid (clone_c hly.out (by rw [Hll.out]; omega))
              have HTy := Lib.hid (show ((cur.take j).flatMap fun l => exts l (X : Int)) ++ (List.range (y + 1)).map (fun (z : Nat) => l ++ [(z : Int)]) = (((cur.take j).flatMap fun l => exts l (X : Int)) ++ (List.range y).map fun (z : Nat) => l ++ [(z : Int)]) ++ [l ++ [(y : Int)]] from by rw [List.range_succ, List.map_append, ← List.append_assoc]; rfl)
              have hyX : decide ((y : Int) < (X : Int) + 1) = true := decide_eq_true (by omega)
              have hle := hby.out.size
              have Hlen := Lib.hid (show (((cur.take j).flatMap fun l => exts l (X : Int)) ++ (List.range y).map fun (z : Nat) => l ++ [(z : Int)]).length ≤ 300 from by rw [List.length_append, List.length_map, List.length_range]; omega)
              go_wp2_with fail
              refine Hcl.out.mono ?_
              rintro e w2 ⟨u2, rfl, hn2, hb2⟩
              have Hn2 := Lib.hid hn2
              have Hb2 := Lib.hid hb2
              have hle2 := hb2.size
              clear hn2 hb2
              go_wp2_with (first
                | (at_builtin; refine wpl_push (w0 := w2) (lo := wy.heap.size) (y := (y : Int)) OIntR.kept rfl (.tmp 41) (.tmp 43) 50 rfl 3 (.int .i64 0) 8 Try.underlying50 infoI rfl Hn2.out hle2 ((Below.refl _ _).alloc (Nat.le_refl _) _) ⟨[], ⟨rfl, rfl⟩, by simp [Fresh]⟩ (bb := w2.heap.size) (c := 1) (by simp) rfl rfl (by rw [Hll.out]; omega) (by rw [Hll.out]; omega) ?_; intro v3 w3 hn3 _ _ hb3; obtain ⟨p3, n3, c3, rfl⟩ := hn3.slice; have Hn3 := Lib.hid hn3; have Hb3 := Lib.hid (Hb2.out.trans (hb3.mono (Nat.le_refl _))); clear hn3 hb3)
                | (at_builtin; refine wpl_push (w0 := wy) (lo := wa.heap.size) (OInts.kept _) rfl (.tmp 39) (.tmp 45) 41 rfl 50 (.slice none 0 0) 24 Try.underlying41 infoR rfl hny.out hle (Hb3.out.alloc Hb3.out.size _) (New.keep (OInts.kept _) Hn3.out ((Below.refl w3.heap.size _).alloc (Nat.le_refl _) _) (Nat.le_refl _)) (bb := w3.heap.size) (c := 1) (by simp) rfl rfl (by have := Hlen.out; omega) (by have := Hlen.out; omega) ?_; intro v5 w5 hn5 _ _ hb5; have Hn5 := Lib.hid hn5; have Hb5 := Lib.hid hb5; clear hn5 hb5)
                | fail)
              have R1 := Lib.hid (show New (OTab 3 50) wa.heap.size w5 v5 (((cur.take j).flatMap fun l => exts l (X : Int)) ++ (List.range (y + 1)).map fun (z : Nat) => l ++ [(z : Int)]) from by rw [HTy.out]; exact Hn5.out)
              have R2 := Lib.hid (hby.out.trans Hb5.out)
              clear hny hby hly
              go_roundg (X + 1 - (y + 1))
              case measure => omega
              case rel => exact ⟨y + 1, by go_num, by omega, R1, R2⟩
            · have e : y = X + 1 := by omega
              subst e
              have R1 := Lib.hid (show New (OTab 3 50) wa.heap.size wy _ ((cur.take (j + 1)).flatMap fun l => exts l (X : Int)) from by rw [HT.out]; exact hny.out)
              clear hly hny
              go_wp2
              go_roundg (m - (j + 1))
              case measure => omega
              case rel => exact ⟨j + 1, by go_num, by omega, R1, hby⟩
        · have e : j = m := by omega
          subst e
          have R1 := Lib.hid (show New (OTab 3 50) (w.heap.size + 1) wj _ (ext cur (X : Int)) from by
            have h1 := hnj.out
            rw [List.take_of_length_le (by rw [← Hm.out]; exact Nat.le_refl _)] at h1
            exact h1.mono (by omega))
          have R2 := Lib.hid (hbel.out.trans (hbj.out.mono (by omega)))
          have R3 := Lib.hid (show ∀ y, y ∈ row.take (k + 1) → 0 ≤ y ∧ y ≤ 3 from HtkN.out)
          clear hnj hbj
          go_wp2
          go_roundg (n - (k + 1))
          case measure => omega
          case rel => exact ⟨k + 1, ext cur (X : Int), by go_num, by omega, HF, HrkN, R1, R2, R3⟩
    · have e : k = n := by omega
      subst e
      have HF := Lib.hid (show V = cur.filter (keepI row) from by rw [HK.out, drop_len (by have := Hn.out; omega)]; rfl)
      obtain ⟨F, hF, hFn, hFe⟩ := hnew.out
      have hsm : Small row := ⟨by rw [← Hn.out]; exact h4, fun y hy => htk.out y (by rw [List.take_of_length_le (by have := Hn.out; omega)]; exact hy)⟩
      have Hdel := Lib.hid (DeleteFunc_c (w0 := w1) Hqb.out (by omega) (Ints.frame _ _ _ _ Hi.out Hb0.out) hsm (hbel.out.mono (by omega)) hF hFn (fun b hb => by have := hFe b hb; omega) (fun l hl => ⟨by have := (hrk.out.2 l hl).1; omega, (hrk.out.2 l hl).2⟩))
      have HFe := Lib.hid hFe
      have HB := Lib.hid (Hb0.out.trans (hbel.out.mono (by omega)))
      obtain ⟨ca, cc, rfl, _, _, _⟩ := hnew.out.tab.shape
      generalize cur.length = cn at *
      clear hF hFn hFe hsm hcell hnew hbel HK
      go_wp2_with fail
      refine Hdel.out.mono ?_
      rintro e w5 ⟨r, F', rfl, hown, hnd, hin, hoff⟩
      have HR := Lib.hid (show New (OTab 3 50) w.heap.size w5 r V from ⟨F', by rw [HF.out]; exact hown, hnd, fun b hb => by have := HFe.out b (hin b hb); omega⟩)
      have HZ := Lib.hid (HB.out.trans (hoff.below (fun b hb => by have := HFe.out b hb; omega) HB.out.size))
      clear hown hnd hin hoff
      go_wp2
      go_ret
      exact ⟨_, rfl, HR.out, HZ.out⟩
end Go.Proofs.Ytdohepngandajaa
end
