/-
  PartsOf, the reference's.
-/
import Derived.Test.YtdohepngandajaaRows
import Derived.Test.YtdohepngandajaaBase
import Derived.Test.YtdohepngandajaaHarn
import Derived.Test.YtdohepngandajaaMoeb
import Derived.Test.YtdohepngandajaaPush
import Derived.Test.YtdohepngandajaaPartsM
namespace Go.Sd
open Go.RowKit Go.Deep
theorem Kept.below {α : Type} {R : OwnRel α} (hR : Kept R) {w w' : World} {v : Value} {x : α} {F : List Nat} (h : R w v x F) (hb : Below w.heap.size w w') : R w' v x F := hR.keep _ _ _ _ _ h fun b hb' => hb.block b (hR.lt _ _ _ _ h b hb')
theorem Kept.off {α : Type} {R : OwnRel α} (hR : Kept R) {w w' : World} {v : Value} {x : α} {F F' : List Nat} (h : R w v x F) (ho : Off F' w w') (hd : ∀ b, b ∈ F → b ∉ F') : R w' v x F := hR.keep _ _ _ _ _ h fun b hb' => ho.block b (hR.lt _ _ _ _ h b hb') (hd b hb')
theorem rowOk_mem : ∀ {r : List Int}, rowOk r = true → ∀ x, x ∈ r → 0 ≤ x ∧ x ≤ 3
  | [], _, x, hx => by cases hx
  | y :: r, h, x, hx => by
    unfold rowOk at h
    rw [Bool.and_eq_true, decide_eq_true_eq] at h
    rcases List.mem_cons.1 hx with rfl | hx
    · exact h.1
    · exact rowOk_mem h.2 x hx
theorem rowOk_drop : ∀ {r : List Int} (k : Nat), rowOk r = true → rowOk (r.drop k) = true
  | [], k, _ => by simp [rowOk]
  | y :: r, 0, h => h
  | y :: r, k + 1, h => by
    unfold rowOk at h
    rw [Bool.and_eq_true] at h
    exact rowOk_drop k h.2
/-- What l17Fill leaves. -/
def FillP (eI eR : TypeId) (G F : List Nat) (w : World) (V : Tbl) (e : Ending) (w' : World) : Prop :=
  ∃ r F', e = .returned r ∧ OTab eI eR w' r V F' ∧ F'.Nodup ∧ (∀ b, b ∈ F' → b ∈ F ∨ b ∈ G ∨ w.heap.size ≤ b) ∧ Off F w w'
theorem partial_len {r h : List Int} (ho : rowOk r = true) : ∀ m : Nat, ((List.range m).flatMap fun (y : Nat) => compo r (h ++ [(y : Int)])).length ≤ m * 4 ^ r.length := by
  intro m
  induction m with
  | zero => simp
  | succ m ih =>
    rw [List.range_succ, List.flatMap_append, List.length_append]
    simp only [List.flatMap_cons, List.flatMap_nil, List.append_nil]
    have := comp_len r (h ++ [(m : Int)]) ho
    rw [Nat.succ_mul]; omega
end Go.Sd
namespace Go.Proofs.Ytdohepngandajaa
open Go.RowKit Go.Deep Go.Sd

set_option maxHeartbeats 400000 in
theorem l4SameRow_c {w : World} {v1 v2 : Value} {xs ys : List Int} (h1 : Ints w v1 xs) (h2 : Ints w v2 ys) :
    Calls Try.prog 108 #[v1, v2] w (Reads w (.bool (decide (xs = ys)))) := by
  have hlen1 := h1.len
  have hlen2 := h2.len
  obtain ⟨a1, c1, rfl, _, _, hc1⟩ := h1.shape
  obtain ⟨a2, c2, rfl, _, _, hc2⟩ := h2.shape
  clear h1 h2
  by_cases hl : xs.length = ys.length
  · have H0 := Lib.hid (show decide (xs = ys) = eqLoop (xs.drop 0) (ys.drop 0) from (eqLoop_iff xs ys hl).symm)
    have hl1 : ((ys.length : Int) != ys.length) = false := by simp
    have hl2 := Lib.hid hl
    obtain ⟨n, hn⟩ : ∃ n, n = xs.length := ⟨_, rfl⟩
    rw [← hl, ← hn]
    have hnb : n ≤ 9223372036854775807 := by omega
    have hl3 := Lib.hid hn
    clear hl hn
    go_enter Try.func108, Try.ntmps108
    go_wp2
    go_loopg [5] n (fun g i wr => ∃ (k : Nat), i = .int .i64 k ∧ k + g = n ∧ Hid (decide (xs = ys) = eqLoop (xs.drop k) (ys.drop k)) ∧ Drawn w wr)
    case atStart => exact ⟨0, rfl, by omega, H0, Drawn.refl _⟩
    case round =>
      obtain ⟨k, rfl, hk, H, hdr⟩ := hrel
      by_cases hlt : k < n
      · obtain ⟨b1, o1, rfl, _, hx1⟩ := hc1 (by have := hl3.out; omega)
        obtain ⟨b2, o2, rfl, _, hx2⟩ := hc2 (by have := hl3.out; have := hl2.out; omega)
        obtain ⟨x, hx, hdx⟩ := at_lt (xs := xs) (k := k) (by have := hl3.out; omega)
        obtain ⟨y, hy, hdy⟩ := at_lt (xs := ys) (k := k) (by have := hl3.out; have := hl2.out; omega)
        obtain ⟨u1, hu1, rfl⟩ := hx1 k x hx
        obtain ⟨u2, hu2, rfl⟩ := hx2 k y hy
        rw [← hdr.cell] at hu1 hu2
        have H1 := Lib.hid (show decide (xs = ys) = if x = y then eqLoop (xs.drop (k + 1)) (ys.drop (k + 1)) else false from by rw [H.out, hdx, hdy]; rfl)
        clear H hx hdx hy hdy hx1 hx2 hc1 hc2 H0
        by_cases hxy : x = y
        · have H2 := Lib.hid (show decide (xs = ys) = eqLoop (xs.drop (k + 1)) (ys.drop (k + 1)) from by rw [H1.out, if_pos hxy])
          have hd : (x != y) = false := by simp [hxy]
          have hi1 : (k : Int) < (n : Int) := by omega
          clear hxy H1
          go_wp2
          go_quiet (fail)
          go_wp2
          go_roundg (n - (k + 1))
          case measure => omega
          case rel => exact ⟨k + 1, by go_num, by omega, H2, hdr.drewN _⟩
        · have H2 := Lib.hid (show decide (xs = ys) = false from by rw [H1.out, if_neg hxy])
          have hd : (x != y) = true := by simp [hxy]
          have hi1 : (k : Int) < (n : Int) := by omega
          clear hxy H1
          go_wp2
          go_quiet (fail)
          go_wp2
          go_ret
          exact ⟨by rw [H2.out]; rfl, hdr.drewN _⟩
      · have H1 := Lib.hid (show decide (xs = ys) = true from by rw [H.out, drop_len (by have := hl3.out; omega)]; rfl)
        clear H
        go_wp2
        go_ret
        exact ⟨by rw [H1.out]; rfl, hdr⟩
  · have H := Lib.hid (show decide (xs = ys) = false from by simp; intro h; exact hl (by rw [h]))
    have hl1 : ((xs.length : Int) != ys.length) = true := by simp; omega
    go_enter Try.func108, Try.ntmps108
    go_wp2
    go_ret
    exact ⟨by rw [H.out]; rfl, Drawn.refl _⟩
set_option maxHeartbeats 4000000 in
set_option maxRecDepth 10000 in
theorem l17Fill_c {wl : World} {vr : Value} {row : List Int} (hrow : rowOk row = true) (hr4 : row.length ≤ 4) (hr : Ints wl vr row) : ∀ (d : Nat) {w : World} {vh vo : Value} {head : List Int} {out : Tbl} {G F : List Nat},
    head.length + d = row.length → Below wl.heap.size wl w → OInts 3 w vh head G → G.Nodup → OTab 3 50 w vo out F → F.Nodup → (∀ b, b ∈ G → b ∉ F) → (∀ b, b ∈ F → wl.heap.size ≤ b) → out.length + 4 ^ d ≤ 1024 →
    Calls Try.prog 195 #[vr, vh, vo] w (FillP 3 50 G F w (out ++ compo (row.drop head.length) head)) := by
  obtain ⟨ra, rc, rfl, _, _, hrc⟩ := hr.shape
  have Hr := Lib.hid hr
  clear hr
  intro d
  induction d with
  | zero =>
    intro w vh vo head out G F hlen hbl h2 hG h3 hF hd hFl hsz
    obtain ⟨ha, hc, rfl, _, _, _⟩ := h2.reads.shape
    obtain ⟨oa, oc, rfl, _, _, _⟩ := h3.reads.shape
    have t1 : ((head.length : Int) == (row.length : Int)) = true := by simp; omega
    have HV := Lib.hid (show out ++ compo (row.drop head.length) head = out ++ [head] from by rw [drop_len (by omega)]; rfl)
    generalize out ++ compo (row.drop head.length) head = V at HV ⊢
    have H2 := Lib.hid h2
    have H3 := Lib.hid h3
    have HG := Lib.hid hG
    have HF := Lib.hid hF
    have Hd := Lib.hid hd
    have hos : out.length ≤ 1024 := by omega
    generalize hol : out.length = on at *
    have Hol := Lib.hid hol
    generalize head.length = hn at *
    generalize row.length = rn at *
    clear h2 h3 hG hF hd hFl hsz hrc hol
    go_enter Try.func195, Try.ntmps195
    go_wp2_with (at_builtin; refine wpl_pushF (OInts.kept _) rfl (.tmp 13) (.tmp 15) 41 rfl 50 (.slice none 0 0) 24 Try.underlying41 infoR rfl (Kept.below (OTab.kept _ _) H3.out ((Below.refl _ _).alloc (Nat.le_refl _) _)) HF.out (Kept.below (OInts.kept _) H2.out ((Below.refl _ _).alloc (Nat.le_refl _) _)) HG.out Hd.out (bb := w.heap.size) (c := 1) (by simp) rfl rfl (by rw [Hol.out]; omega) (by rw [Hol.out]; omega) ?_; intro r w' F' hown hnd hin hoff; have Hown := Lib.hid hown; have Hnd := Lib.hid hnd; have Hin := Lib.hid hin; have Hoff := Lib.hid ((Off.of_below (F := F) ((Below.refl w.heap.size w).alloc (Nat.le_refl _) _)).trans hoff); clear hown hnd hin hoff)
    go_ret
    exact ⟨r, F', rfl, by rw [HV.out]; exact Hown.out, Hnd.out, fun b hb => (Hin.out b hb).imp id (fun h => h.imp id (fun h => by simp at h; omega)), Hoff.out⟩
  | succ d ih =>
    intro w vh vo head out G F hlen hbl h2 hG h3 hF hd hFl hsz
    obtain ⟨ha, hc, rfl, _, _, _⟩ := h2.reads.shape
    have t1 : ((head.length : Int) == (row.length : Int)) = false := by simp; omega
    obtain ⟨rb, ro, rfl, hrb, hrx⟩ := hrc (by omega)
    obtain ⟨X, hX, hdX⟩ := at_lt (xs := row) (k := head.length) (by omega)
    obtain ⟨uX, hcX, hvX⟩ := hrx _ X hX
    obtain rfl : uX = .int .i64 X := hvX
    have hXb := rowOk_mem hrow X (List.mem_of_getElem? hX)
    obtain ⟨X', rfl⟩ := Int.eq_ofNat_of_zero_le hXb.1
    have hX3 : X' ≤ 3 := by have := hXb.2; omega
    have HV := Lib.hid (show out ++ compo (row.drop head.length) head = out ++ ((List.range (X' + 1)).flatMap fun (y : Nat) => compo (row.drop (head.length + 1)) (head ++ [(y : Int)])) from by rw [hdX]; rfl)
    generalize out ++ compo (row.drop head.length) head = V at HV ⊢
    have Hpl := Lib.hid (fun m => partial_len (r := row.drop (head.length + 1)) (h := head) (rowOk_drop (head.length + 1) hrow) m)
    have Hd4 := Lib.hid (show (row.drop (head.length + 1)).length = d from by rw [List.length_drop]; omega)
    have Hih := Lib.hid (fun (x : Nat) {w : World} {vh vo : Value} {out : Tbl} {G F : List Nat} a b c e f g h i => ih (w := w) (vh := vh) (vo := vo) (head := head ++ [(x : Int)]) (out := out) (G := G) (F := F) (by simp; omega) a b c e f g h i)
    have He := Lib.hid (fun (x : Nat) => show compo (row.drop (head ++ [(x : Int)]).length) (head ++ [(x : Int)]) = compo (row.drop (head.length + 1)) (head ++ [(x : Int)]) from by rw [List.length_append]; rfl)
    have H2 := Lib.hid h2
    have HG := Lib.hid hG
    have Hd := Lib.hid hd
    have HFl := Lib.hid hFl
    have hp4 : 4 ^ (d + 1) = 4 ^ d * 4 := Nat.pow_succ _ _
    have Hsz := Lib.hid (show out.length + 4 ^ d * 4 ≤ 1024 from by omega)
    have hhl : head.length ≤ 4 := by omega
    have hkr : (head.length : Int) < (row.length : Int) := by omega
    have H3 := Lib.hid h3
    have HF := Lib.hid hF
    have hf0 : (fun (y : Nat) => compo (row.drop (head.length + 1)) (head ++ [(y : Int)])) = (fun (y : Nat) => compo (row.drop (head.length + 1)) (head ++ [(y : Int)])) := rfl
    obtain ⟨f, hf⟩ : ∃ f, f = (fun (y : Nat) => compo (row.drop (head.length + 1)) (head ++ [(y : Int)])) := ⟨_, rfl⟩
    rw [← hf] at HV
    have Hf := Lib.hid (fun (x : Nat) => show compo (row.drop (head ++ [(x : Int)]).length) (head ++ [(x : Int)]) = f x from by rw [He.out, hf])
    have Hfl := Lib.hid (fun m => show ((List.range m).flatMap f).length ≤ m * 4 ^ d from by have := Hpl.out m; rw [Hd4.out] at this; rw [hf]; exact this)
    generalize hhn : head.length = hn at *
    have Hhn := Lib.hid hhn
    generalize row.length = rn at *
    clear h2 h3 hG hF hd hFl hsz hrc hrx hX hdX hp4 ih hf hf0 Hpl Hd4 He hhn hXb hlen
    have hbw := hbl
    go_enter Try.func195, Try.ntmps195
    go_wp2
    go_loopg [2, 7] (X' + 1) (fun g v i wr => ∃ (x : Nat) (Fx : List Nat), i = .int .i64 x ∧ x + g = X' + 1 ∧ Hid (OTab 3 50 wr v (out ++ (List.range x).flatMap f) Fx) ∧ Hid (Fx.Nodup) ∧ Hid (Out F w Fx) ∧ Hid (Off F w wr))
    case atStart => exact ⟨0, F, rfl, by omega, Lib.hid (by simpa using H3.out), HF, Lib.hid (fun b hb => Or.inl hb), Lib.hid (Off.refl _ _)⟩
    case round =>
      obtain ⟨x, Fx, rfl, hx, hown, hnd, hin, hoff⟩ := hrel
      have hbr : Below wl.heap.size wl wr := hbl.trans (hoff.out.below HFl.out hbl.size)
      have hcXr : wr.cell? ⟨rb, ro + hn, none⟩ = some (.int .i64 (X' : Int)) := (hbr.cell (p := ⟨rb, ro + hn, none⟩) hrb).trans hcX
      have hrbr : rb < wr.heap.size := Nat.lt_of_lt_of_le hrb hbr.size
      by_cases hlt : x < X' + 1
      · have hxX : decide ((x : Int) ≤ (X' : Int)) = true := decide_eq_true (by omega)
        have hhead := Kept.off (OInts.kept _) H2.out hoff.out Hd.out
        have Hsrc := Lib.hid (Ints.frame _ _ _ _ hhead.reads ((Below.refl wr.heap.size wr).alloc (Nat.le_refl _) (.cells #[] 3)))
        have Hbr := Lib.hid hbr
        clear hhead hbr
        go_wp2_with (first
          | (at_builtin; refine wpl_append_vals (f := Value.int .i64) (fun _ => rfl) rfl (.tmp 27) (.tmp 28) 50 rfl 3 (.int .i64 0) 8 Try.underlying50 infoI rfl (New.empty (R := OValR (Value.int .i64)) (lo := wr.heap.size) wr (Nat.le_refl _)) (by simp) Hsrc.out rfl rfl (by rw [Hhn.out]; simp; omega) (by rw [Hhn.out]; simp; omega) ?_; intro v1 w3 hn1 hg1 hv1 hb3; have Hn1 := Lib.hid hn1; have Hb3 := Lib.hid hb3; clear hn1 hg1 hv1 hb3)
          | (at_builtin; refine wpl_push (w0 := w3) (lo := wr.heap.size) (y := (x : Int)) OIntR.kept rfl (.tmp 29) (.tmp 31) 50 rfl 3 (.int .i64 0) 8 Try.underlying50 infoI rfl Hn1.out (by have := Hb3.out.size; simp at this; omega) ((Below.refl _ _).alloc (Nat.le_refl _) _) ⟨[], ⟨rfl, rfl⟩, by simp [Fresh]⟩ (bb := w3.heap.size) (c := 1) (by simp) rfl rfl (by simp [Hhn.out]; omega) (by simp [Hhn.out]; omega) ?_; intro v2 w4 hn2 hg2 hv2 hb4; have Hn2 := Lib.hid hn2; have Hb4 := Lib.hid hb4; clear hn2 hg2 hv2 hb4)
          | fail)
        have hb4 : Below wr.heap.size wr w4 := ((((Below.refl wr.heap.size wr).alloc (Nat.le_refl _) _).trans (Hb3.out.mono (by simp))).trans (Hb4.out.mono (by simp)))
        obtain ⟨G', hG', hGn', hGe'⟩ := Hn2.out
        rw [List.nil_append] at hG'
        have hownlt := (OTab.kept _ _).lt _ _ _ _ hown.out
        have hown4 := Kept.below (OTab.kept _ _) hown.out hb4
        have hlen2 := Hfl.out x
        have hle4 : x * 4 ^ d + 4 ^ d ≤ 4 ^ d * 4 := by
          have : (x + 1) * 4 ^ d ≤ 4 * 4 ^ d := Nat.mul_le_mul_right _ (by omega)
          rw [Nat.succ_mul] at this; omega
        refine (Hih.out x (Hbr.out.trans (hb4.mono Hbr.out.size)) hG' hGn' hown4 hnd.out (fun b hb hm => by have := hGe' b hb; have := hownlt b hm; omega) (fun b hb => by rcases hin.out b hb with h | h; exact HFl.out b h; have := hbl.size; omega) (by rw [List.length_append]; have := Hsz.out; omega)).mono ?_
        rintro e w5 ⟨r, F', rfl, hown5, hnd5, hin5, hoff5⟩
        rw [Hf.out] at hown5
        have Hown5 := Lib.hid (show OTab 3 50 w5 r (out ++ (List.range (x + 1)).flatMap f) F' from by
          rw [List.range_succ, List.flatMap_append, ← List.append_assoc]
          simpa using hown5)
        have Hnd5 := Lib.hid hnd5
        have hsz0 := hoff.out.size
        have hsz4 := hb4.size
        have Hin5 := Lib.hid (show Out F w F' from fun b hb => by
          rcases hin5 b hb with h | h | h
          · exact hin.out b h
          · exact Or.inr (by have := hGe' b h; omega)
          · exact Or.inr (by omega))
        have Hoff5 := Lib.hid ((hoff.out.trans (Off.of_below hb4)).step hin.out hoff5)
        clear hown5 hnd5 hin5 hoff5 hG' hGn' hGe' hownlt hown4 hb4
        go_wp2
        go_roundg (X' + 1 - (x + 1))
        case measure => omega
        case rel => exact ⟨x + 1, F', by go_num, by omega, Hown5, Hnd5, Hin5, Hoff5⟩
      · have e : x = X' + 1 := by omega
        subst e
        have hxX : decide (((X' + 1 : Nat) : Int) ≤ (X' : Int)) = false := decide_eq_false (by omega)
        have hxX2 : decide ((X' : Int) + 1 ≤ (X' : Int)) = false := decide_eq_false (by omega)
        clear hbr
        go_wp2
        go_ret
        exact ⟨_, Fx, rfl, by rw [HV.out]; exact hown.out, hnd.out, fun b hb => (hin.out b hb).imp id Or.inr, hoff.out⟩
end Go.Proofs.Ytdohepngandajaa
