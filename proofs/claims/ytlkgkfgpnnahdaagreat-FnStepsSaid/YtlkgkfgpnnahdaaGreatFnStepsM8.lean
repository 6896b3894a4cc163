/-
  Texts of this claim joined: laws for its walks, contracts of the functions that the law reaches.
-/
import Derived.Test.YtlkgkfgpnnahdaaGreatRows
import Derived.Test.YtlkgkfgpnnahdaaGreatFnStepsM1
import Derived.Test.YtlkgkfgpnnahdaaGreatFnStepsM2
import Derived.Test.YtlkgkfgpnnahdaaGreatFnStepsM6
import Derived.Test.YtlkgkfgpnnahdaaGreatFnStepsM7
import Derived.IntWalk
import Derived.Lib.SliceRun
import Derived.Laws.IdiomCopy
import Derived.Test.YtlkgkfgpnnahdaaGreatFnStepsM3
import Derived.Test.YtlkgkfgpnnahdaaGreatFnStepsM4
import Derived.Test.YtlkgkfgpnnahdaaGreatFnStepsM5
import Derived.WalkSpells
section
/-
  PartsOf, the reference's.
-/
namespace Go.Sd
open Go.RowKit Go.Deep
theorem Kept.below {α : Type} {R : OwnRel α} (hR : Kept R) {w w' : World} {v : Value} {x : α} {F : List Nat} (h : R w v x F) (hb : Below w.heap.size w w') : R w' v x F := hR.keep _ _ _ _ _ h fun b hb' => hb.block b (hR.lt _ _ _ _ h b hb')
theorem Kept.off {α : Type} {R : OwnRel α} (hR : Kept R) {w w' : World} {v : Value} {x : α} {F F' : List Nat} (h : R w v x F) (ho : Off F' w w') (hd : ∀ b, b ∈ F → b ∉ F') : R w' v x F := hR.keep _ _ _ _ _ h fun b hb' => ho.block b (hR.lt _ _ _ _ h b hb') (hd b hb')
theorem rowLe3_mem : ∀ {r : List Int}, rowLe3 r = true → ∀ x, x ∈ r → 0 ≤ x ∧ x ≤ 3
  | [], _, x, hx => by cases hx
  | y :: r, h, x, hx => by
    unfold rowLe3 at h
    rw [Bool.and_eq_true, decide_eq_true_eq] at h
    rcases List.mem_cons.1 hx with rfl | hx
    · exact h.1
    · exact rowLe3_mem h.2 x hx
theorem rowLe3_drop : ∀ {r : List Int} (k : Nat), rowLe3 r = true → rowLe3 (r.drop k) = true
  | [], k, _ => by simp [rowLe3]
  | y :: r, 0, h => h
  | y :: r, k + 1, h => by
    unfold rowLe3 at h
    rw [Bool.and_eq_true] at h
    exact rowLe3_drop k h.2
/-- What l17Fill leaves. -/
def FillP (eI eR : TypeId) (G F : List Nat) (w : World) (V : Tbl) (e : Ending) (w' : World) : Prop :=
  ∃ r F', e = .returned r ∧ OTab eI eR w' r V F' ∧ F'.Nodup ∧ (∀ b, b ∈ F' → b ∈ F ∨ b ∈ G ∨ w.heap.size ≤ b) ∧ Off F w w'
theorem partial_len {r h : List Int} (ho : rowLe3 r = true) : ∀ m : Nat, ((List.range m).flatMap fun (y : Nat) => compo r (h ++ [(y : Int)])).length ≤ m * 4 ^ r.length := by
  intro m
  induction m with
  | zero => simp
  | succ m ih =>
    rw [List.range_succ, List.flatMap_append, List.length_append]
    simp only [List.flatMap_cons, List.flatMap_nil, List.append_nil]
    have := comp_len r (h ++ [(m : Int)]) ho
    rw [Nat.succ_mul]; omega
end Go.Sd
namespace Go.Proofs.YtlkgkfgpnnahdaaGreat
open Go.RowKit Go.Deep Go.Sd

set_option maxHeartbeats 400000 in
theorem l4SameRow_p {w : World} {v1 v2 : Value} {xs ys : List Int} (h1 : Ints w v1 xs) (h2 : Ints w v2 ys) :
    Calls Tryz.prog 64 #[v1, v2] w (Reads w (.bool (decide (xs = ys)))) := by
  have hlen1 := h1.len
  have hlen2 := h2.len
  obtain ⟨a1, c1, rfl, _, _, hc1⟩ := h1.shape
  obtain ⟨a2, c2, rfl, _, _, hc2⟩ := h2.shape
  clear h1 h2
  by_cases hl : xs.length = ys.length
  · have H0 := Lib.hid (show decide (xs = ys) = eqLoop (xs.drop 0) (ys.drop 0) from (eqLoop_iff xs ys hl).symm)
    have hl1 : ((ys.length : Int) != ys.length) = false := by simp
    have hl2 := Lib.hid hl
    obtain ⟨n, hn⟩ : ∃ n, n = xs.length := ⟨_, rfl⟩
    rw [← hl, ← hn]
    have hnb : n ≤ 9223372036854775807 := by omega
    have hl3 := Lib.hid hn
    clear hl hn
    go_enter Tryz.func64, Tryz.ntmps64
    go_wp2
    go_loopg [5] n (fun g i wr => ∃ (k : Nat), i = .int .i64 k ∧ k + g = n ∧ Hid (decide (xs = ys) = eqLoop (xs.drop k) (ys.drop k)) ∧ Drawn w wr)
    case atStart => exact ⟨0, rfl, by omega, H0, Drawn.refl _⟩
    case round =>
      obtain ⟨k, rfl, hk, H, hdr⟩ := hrel
      by_cases hlt : k < n
      · obtain ⟨b1, o1, rfl, _, hx1⟩ := hc1 (by have := hl3.out; omega)
        obtain ⟨b2, o2, rfl, _, hx2⟩ := hc2 (by have := hl3.out; have := hl2.out; omega)
        obtain ⟨x, hx, hdx⟩ := at_lt (xs := xs) (k := k) (by have := hl3.out; omega)
        obtain ⟨y, hy, hdy⟩ := at_lt (xs := ys) (k := k) (by have := hl3.out; have := hl2.out; omega)
        obtain ⟨u1, hu1, rfl⟩ := hx1 k x hx
        obtain ⟨u2, hu2, rfl⟩ := hx2 k y hy
        rw [← hdr.cell] at hu1 hu2
        have H1 := Lib.hid (show decide (xs = ys) = if x = y then eqLoop (xs.drop (k + 1)) (ys.drop (k + 1)) else false from by rw [H.out, hdx, hdy]; rfl)
        clear H hx hdx hy hdy hx1 hx2 hc1 hc2 H0
        by_cases hxy : x = y
        · have H2 := Lib.hid (show decide (xs = ys) = eqLoop (xs.drop (k + 1)) (ys.drop (k + 1)) from by rw [H1.out, if_pos hxy])
          have hd : (x != y) = false := by simp [hxy]
          have hi1 : (k : Int) < (n : Int) := by omega
          clear hxy H1
          go_wp2
          go_quiet (fail)
          go_wp2
          go_roundg (n - (k + 1))
          case measure => omega
          case rel => exact ⟨k + 1, by go_num, by omega, H2, hdr.drewN _⟩
        · have H2 := Lib.hid (show decide (xs = ys) = false from by rw [H1.out, if_neg hxy])
          have hd : (x != y) = true := by simp [hxy]
          have hi1 : (k : Int) < (n : Int) := by omega
          clear hxy H1
          go_wp2
          go_quiet (fail)
          go_wp2
          go_ret
          exact ⟨by rw [H2.out]; rfl, hdr.drewN _⟩
      · have H1 := Lib.hid (show decide (xs = ys) = true from by rw [H.out, drop_len (by have := hl3.out; omega)]; rfl)
        clear H
        go_wp2
        go_ret
        exact ⟨by rw [H1.out]; rfl, hdr⟩
  · have H := Lib.hid (show decide (xs = ys) = false from by simp; intro h; exact hl (by rw [h]))
    have hl1 : ((xs.length : Int) != ys.length) = true := by simp; omega
    go_enter Tryz.func64, Tryz.ntmps64
    go_wp2
    go_ret
    exact ⟨by rw [H.out]; rfl, Drawn.refl _⟩
set_option maxHeartbeats 4000000 in
set_option maxRecDepth 10000 in
theorem l17Fill_c {wl : World} {vr : Value} {row : List Int} (hrow : rowLe3 row = true) (hr4 : row.length ≤ 4) (hr : Ints wl vr row) : ∀ (d : Nat) {w : World} {vh vo : Value} {head : List Int} {out : Tbl} {G F : List Nat},
    head.length + d = row.length → Below wl.heap.size wl w → OInts 3 w vh head G → G.Nodup → OTab 3 46 w vo out F → F.Nodup → (∀ b, b ∈ G → b ∉ F) → (∀ b, b ∈ F → wl.heap.size ≤ b) → out.length + 4 ^ d ≤ 1024 →
    Calls Tryz.prog 107 #[vr, vh, vo] w (FillP 3 46 G F w (out ++ compo (row.drop head.length) head)) := by
  obtain ⟨ra, rc, rfl, _, _, hrc⟩ := hr.shape
  have Hr := Lib.hid hr
  clear hr
  intro d
  induction d with
  | zero =>
    intro w vh vo head out G F hlen hbl h2 hG h3 hF hd hFl hsz
    obtain ⟨ha, hc, rfl, _, _, _⟩ := h2.reads.shape
    obtain ⟨oa, oc, rfl, _, _, _⟩ := h3.reads.shape
    have t1 : ((head.length : Int) == (row.length : Int)) = true := by simp; omega
    have HV := Lib.hid (show out ++ compo (row.drop head.length) head = out ++ [head] from by rw [drop_len (by omega)]; rfl)
    generalize out ++ compo (row.drop head.length) head = V at HV ⊢
    have H2 := Lib.hid h2
    have H3 := Lib.hid h3
    have HG := Lib.hid hG
    have HF := Lib.hid hF
    have Hd := Lib.hid hd
    have hos : out.length ≤ 1024 := by omega
    generalize hol : out.length = on at *
    have Hol := Lib.hid hol
    generalize head.length = hn at *
    generalize row.length = rn at *
    clear h2 h3 hG hF hd hFl hsz hrc hol
    go_enter Tryz.func107, Tryz.ntmps107
    go_wp2_with (at_builtin; refine wpl_pushF (OInts.kept _) rfl (.tmp 13) (.tmp 15) 24 rfl 46 (.slice none 0 0) 24 Tryz.underlying24 infoR rfl (Kept.below (OTab.kept _ _) H3.out ((Below.refl _ _).alloc (Nat.le_refl _) _)) HF.out (Kept.below (OInts.kept _) H2.out ((Below.refl _ _).alloc (Nat.le_refl _) _)) HG.out Hd.out (bb := w.heap.size) (c := 1) (by simp) rfl rfl (by rw [Hol.out]; omega) (by rw [Hol.out]; omega) ?_; intro r w' F' hown hnd hin hoff; have Hown := Lib.hid hown; have Hnd := Lib.hid hnd; have Hin := Lib.hid hin; have Hoff := Lib.hid ((Off.of_below (F := F) ((Below.refl w.heap.size w).alloc (Nat.le_refl _) _)).trans hoff); clear hown hnd hin hoff)
    go_ret
    exact ⟨r, F', rfl, by rw [HV.out]; exact Hown.out, Hnd.out, fun b hb => (Hin.out b hb).imp id (fun h => h.imp id (fun h => by simp at h; omega)), Hoff.out⟩
  | succ d ih =>
    intro w vh vo head out G F hlen hbl h2 hG h3 hF hd hFl hsz
    obtain ⟨ha, hc, rfl, _, _, _⟩ := h2.reads.shape
    have t1 : ((head.length : Int) == (row.length : Int)) = false := by simp; omega
    obtain ⟨rb, ro, rfl, hrb, hrx⟩ := hrc (by omega)
    obtain ⟨X, hX, hdX⟩ := at_lt (xs := row) (k := head.length) (by omega)
    obtain ⟨uX, hcX, hvX⟩ := hrx _ X hX
    obtain rfl : uX = .int .i64 X := hvX
    have hXb := rowLe3_mem hrow X (List.mem_of_getElem? hX)
    obtain ⟨X', rfl⟩ := Int.eq_ofNat_of_zero_le hXb.1
    have hX3 : X' ≤ 3 := by have := hXb.2; omega
    have HV := Lib.hid (show out ++ compo (row.drop head.length) head = out ++ ((List.range (X' + 1)).flatMap fun (y : Nat) => compo (row.drop (head.length + 1)) (head ++ [(y : Int)])) from by rw [hdX]; rfl)
    generalize out ++ compo (row.drop head.length) head = V at HV ⊢
    have Hpl := Lib.hid (fun m => partial_len (r := row.drop (head.length + 1)) (h := head) (rowLe3_drop (head.length + 1) hrow) m)
    have Hd4 := Lib.hid (show (row.drop (head.length + 1)).length = d from by rw [List.length_drop]; omega)
    have Hih := Lib.hid (fun (x : Nat) {w : World} {vh vo : Value} {out : Tbl} {G F : List Nat} a b c e f g h i => ih (w := w) (vh := vh) (vo := vo) (head := head ++ [(x : Int)]) (out := out) (G := G) (F := F) (by simp; omega) a b c e f g h i)
    have He := Lib.hid (fun (x : Nat) => show compo (row.drop (head ++ [(x : Int)]).length) (head ++ [(x : Int)]) = compo (row.drop (head.length + 1)) (head ++ [(x : Int)]) from by rw [List.length_append]; rfl)
    have H2 := Lib.hid h2
    have HG := Lib.hid hG
    have Hd := Lib.hid hd
    have HFl := Lib.hid hFl
    have hp4 : 4 ^ (d + 1) = 4 ^ d * 4 := Nat.pow_succ _ _
    have Hsz := Lib.hid (show out.length + 4 ^ d * 4 ≤ 1024 from by omega)
    have hhl : head.length ≤ 4 := by omega
    have hkr : (head.length : Int) < (row.length : Int) := by omega
    have H3 := Lib.hid h3
    have HF := Lib.hid hF
    have hf0 : (fun (y : Nat) => compo (row.drop (head.length + 1)) (head ++ [(y : Int)])) = (fun (y : Nat) => compo (row.drop (head.length + 1)) (head ++ [(y : Int)])) := rfl
    obtain ⟨f, hf⟩ : ∃ f, f = (fun (y : Nat) => compo (row.drop (head.length + 1)) (head ++ [(y : Int)])) := ⟨_, rfl⟩
    rw [← hf] at HV
    have Hf := Lib.hid (fun (x : Nat) => show compo (row.drop (head ++ [(x : Int)]).length) (head ++ [(x : Int)]) = f x from by rw [He.out, hf])
    have Hfl := Lib.hid (fun m => show ((List.range m).flatMap f).length ≤ m * 4 ^ d from by have := Hpl.out m; rw [Hd4.out] at this; rw [hf]; exact this)
    generalize hhn : head.length = hn at *
    have Hhn := Lib.hid hhn
    generalize row.length = rn at *
    clear h2 h3 hG hF hd hFl hsz hrc hrx hX hdX hp4 ih hf hf0 Hpl Hd4 He hhn hXb hlen
    have hbw := hbl
    go_enter Tryz.func107, Tryz.ntmps107
    go_wp2
    go_loopg [2, 7] (X' + 1) (fun g v i wr => ∃ (x : Nat) (Fx : List Nat), i = .int .i64 x ∧ x + g = X' + 1 ∧ Hid (OTab 3 46 wr v (out ++ (List.range x).flatMap f) Fx) ∧ Hid (Fx.Nodup) ∧ Hid (Out F w Fx) ∧ Hid (Off F w wr))
    case atStart => exact ⟨0, F, rfl, by omega, Lib.hid (by simpa using H3.out), HF, Lib.hid (fun b hb => Or.inl hb), Lib.hid (Off.refl _ _)⟩
    case round =>
      obtain ⟨x, Fx, rfl, hx, hown, hnd, hin, hoff⟩ := hrel
      have hbr : Below wl.heap.size wl wr := hbl.trans (hoff.out.below HFl.out hbl.size)
      have hcXr : wr.cell? ⟨rb, ro + hn, none⟩ = some (.int .i64 (X' : Int)) := (hbr.cell (p := ⟨rb, ro + hn, none⟩) hrb).trans hcX
      have hrbr : rb < wr.heap.size := Nat.lt_of_lt_of_le hrb hbr.size
      by_cases hlt : x < X' + 1
      · have hxX : decide ((x : Int) ≤ (X' : Int)) = true := decide_eq_true (by omega)
        have hhead := Kept.off (OInts.kept _) H2.out hoff.out Hd.out
        have Hsrc := Lib.hid (Ints.frame _ _ _ _ hhead.reads ((Below.refl wr.heap.size wr).alloc (Nat.le_refl _) (.cells #[] 3)))
        have Hbr := Lib.hid hbr
        clear hhead hbr
        go_wp2_with (first
          | (at_builtin; refine wpl_append_vals (f := Value.int .i64) (fun _ => rfl) rfl (.tmp 27) (.tmp 28) 46 rfl 3 (.int .i64 0) 8 Tryz.underlying46 infoI rfl (New.empty (R := OValR (Value.int .i64)) (lo := wr.heap.size) wr (Nat.le_refl _)) (by simp) Hsrc.out rfl rfl (by rw [Hhn.out]; simp; omega) (by rw [Hhn.out]; simp; omega) ?_; intro v1 w3 hn1 hg1 hv1 hb3; have Hn1 := Lib.hid hn1; have Hb3 := Lib.hid hb3; clear hn1 hg1 hv1 hb3)
          | (at_builtin; refine wpl_push (w0 := w3) (lo := wr.heap.size) (y := (x : Int)) OIntR.kept rfl (.tmp 29) (.tmp 31) 46 rfl 3 (.int .i64 0) 8 Tryz.underlying46 infoI rfl Hn1.out (by have := Hb3.out.size; simp at this; omega) ((Below.refl _ _).alloc (Nat.le_refl _) _) ⟨[], ⟨rfl, rfl⟩, by simp [Fresh]⟩ (bb := w3.heap.size) (c := 1) (by simp) rfl rfl (by simp [Hhn.out]; omega) (by simp [Hhn.out]; omega) ?_; intro v2 w4 hn2 hg2 hv2 hb4; have Hn2 := Lib.hid hn2; have Hb4 := Lib.hid hb4; clear hn2 hg2 hv2 hb4)
          | fail)
        have hb4 : Below wr.heap.size wr w4 := ((((Below.refl wr.heap.size wr).alloc (Nat.le_refl _) _).trans (Hb3.out.mono (by simp))).trans (Hb4.out.mono (by simp)))
        obtain ⟨G', hG', hGn', hGe'⟩ := Hn2.out
        rw [List.nil_append] at hG'
        have hownlt := (OTab.kept _ _).lt _ _ _ _ hown.out
        have hown4 := Kept.below (OTab.kept _ _) hown.out hb4
        have hlen2 := Hfl.out x
        have hle4 : x * 4 ^ d + 4 ^ d ≤ 4 ^ d * 4 := by
          have : (x + 1) * 4 ^ d ≤ 4 * 4 ^ d := Nat.mul_le_mul_right _ (by omega)
          rw [Nat.succ_mul] at this; omega
        refine (Hih.out x (Hbr.out.trans (hb4.mono Hbr.out.size)) hG' hGn' hown4 hnd.out (fun b hb hm => by have := hGe' b hb; have := hownlt b hm; omega) (fun b hb => by rcases hin.out b hb with h | h; exact HFl.out b h; have := hbl.size; omega) (by rw [List.length_append]; have := Hsz.out; omega)).mono ?_
        rintro e w5 ⟨r, F', rfl, hown5, hnd5, hin5, hoff5⟩
        rw [Hf.out] at hown5
        have Hown5 := Lib.hid (show OTab 3 46 w5 r (out ++ (List.range (x + 1)).flatMap f) F' from by
          rw [List.range_succ, List.flatMap_append, ← List.append_assoc]
          simpa using hown5)
        have Hnd5 := Lib.hid hnd5
        have hsz0 := hoff.out.size
        have hsz4 := hb4.size
        have Hin5 := Lib.hid (show Out F w F' from fun b hb => by
          rcases hin5 b hb with h | h | h
          · exact hin.out b h
          · exact Or.inr (by have := hGe' b h; omega)
          · exact Or.inr (by omega))
        have Hoff5 := Lib.hid ((hoff.out.trans (Off.of_below hb4)).step hin.out hoff5)
        clear hown5 hnd5 hin5 hoff5 hG' hGn' hGe' hownlt hown4 hb4
        go_wp2
        go_roundg (X' + 1 - (x + 1))
        case measure => omega
        case rel => exact ⟨x + 1, F', by go_num, by omega, Hown5, Hnd5, Hin5, Hoff5⟩
      · have e : x = X' + 1 := by omega
        subst e
        have hxX : decide (((X' + 1 : Nat) : Int) ≤ (X' : Int)) = false := decide_eq_false (by omega)
        have hxX2 : decide ((X' : Int) + 1 ≤ (X' : Int)) = false := decide_eq_false (by omega)
        clear hbr
        go_wp2
        go_ret
        exact ⟨_, Fx, rfl, by rw [HV.out]; exact hown.out, hnd.out, fun b hb => (hin.out b hb).imp id Or.inr, hoff.out⟩
end Go.Proofs.YtlkgkfgpnnahdaaGreat
end

section
/-
  PartsOf, the program's: sums, the predicate, the search.
-/
namespace Go.Sd
open Go.RowKit Go.Deep
def Small (l : List Int) : Prop := l.length ≤ 4 ∧ ∀ x, x ∈ l → 0 ≤ x ∧ x ≤ 3
theorem isum_bd : ∀ {l : List Int}, (∀ x, x ∈ l → 0 ≤ x ∧ x ≤ 3) → 0 ≤ isum l ∧ isum l ≤ 3 * (l.length : Int)
  | [], _ => by simp [isum]
  | x :: r, h => by
    have h1 := h x (by simp)
    have h2 := isum_bd (l := r) fun y hy => h y (List.mem_cons_of_mem _ hy)
    simp only [isum, List.length_cons]; omega
def findL (p : List Int → Bool) : Tbl → Nat → Int
  | [], _ => -1
  | x :: xs, k => if p x = true then (k : Int) else findL p xs (k + 1)
end Go.Sd
namespace Go.Proofs.YtlkgkfgpnnahdaaGreat
open Go.RowKit Go.Deep Go.Sd
set_option maxHeartbeats 400000 in
theorem total_c {w : World} {v : Value} {xs : List Int} (h : Ints w v xs) (hs : Small xs) :
    Calls Tryz.prog 78 #[v] w fun e w' => e = .returned (.int .i64 (isum xs)) ∧ w = w' := by
  obtain ⟨a, c, rfl, _, _, hcell⟩ := h.shape
  clear h
  obtain ⟨hl4, hx3⟩ := hs
  obtain ⟨n, hn⟩ : ∃ n, n = xs.length := ⟨_, rfl⟩
  have Hn := Lib.hid hn
  have H0 := Lib.hid (show isum xs = 0 + isum (xs.drop 0) from by simp)
  generalize isum xs = T at H0 ⊢
  have Hx3 := Lib.hid hx3
  rw [← hn] at hl4 hcell ⊢
  clear hn hx3
  go_enter Tryz.func78, Tryz.ntmps78
  go_wp2
  go_loopg [3, 8] n (fun g s i wr => ∃ (k : Nat) (z : Int), i = .int .i64 k ∧ s = .int .i64 z ∧ k + g = n ∧ 0 ≤ z ∧ z ≤ 3 * (k : Int) ∧ Hid (T = z + isum (xs.drop k)) ∧ w = wr)
  case atStart => exact ⟨0, 0, rfl, rfl, by omega, by omega, by omega, H0, rfl⟩
  case round =>
    obtain ⟨k, z, rfl, rfl, hk, hz0, hz1, HK, rfl⟩ := hrel
    by_cases hlt : k < n
    · obtain ⟨b, o, rfl, hb, hx0⟩ := hcell (by omega)
      obtain ⟨x, hx, hd⟩ := at_lt (xs := xs) (k := k) (by have := Hn.out; omega)
      obtain ⟨u, hu, hux⟩ := hx0 k x hx
      obtain rfl : u = .int .i64 x := hux
      obtain ⟨hx1, hx2⟩ := Hx3.out x (List.mem_of_getElem? hx)
      have HK1 := Lib.hid (show T = (z + x) + isum (xs.drop (k + 1)) from by rw [HK.out, hd, isum]; omega)
      clear hx hd hx0 hcell HK H0
      go_wp2
      go_roundg (n - (k + 1))
      case measure => omega
      case rel => exact ⟨k + 1, z + x, by go_num, rfl, by omega, by omega, by omega, HK1, rfl⟩
    · have HF := Lib.hid (show T = z from by rw [HK.out, drop_len (by have := Hn.out; omega)]; simp [isum])
      clear HK H0 hcell
      go_wp2
      go_ret
      exact ⟨by rw [HF.out]; rfl, rfl⟩
set_option maxHeartbeats 1000000 in
theorem clo_c {w0 w : World} {B : Nat} {vrow vl : Value} {row l : List Int} (hB : w0.cell? ⟨B, 0, none⟩ = some vrow) (hlt : B < w0.heap.size) (hr : Ints w0 vrow row) (hs : Small row) (hb : Below w0.heap.size w0 w) (hl : Ints w vl l) (hsl : Small l) :
    Calls Tryz.prog 77 #[vl, .pointer (some ⟨B, 0, none⟩)] w (Reads w (.bool (!keepI row l))) := by
  have hc := (hb.cell (p := ⟨B, 0, none⟩) hlt).trans hB
  have hr2 := Ints.frame _ _ _ _ hr hb
  have Q0 := Lib.hid (fun q => Calls.quiet_of_same ((total_c (hl.dn q) hsl).mono fun e w' h => ⟨h.1, h.2.symm⟩))
  have Q1 := Lib.hid (fun q => Calls.quiet_of_same ((total_c (hr2.dn q) hs).mono fun e w' h => ⟨h.1, h.2.symm⟩))
  have H := Lib.hid (show (!keepI row l) = (decide (isum l = 0) || decide (isum l = isum row)) from by unfold keepI; simp)
  generalize (!keepI row l) = T at H ⊢
  generalize isum l = sl at Q0 H
  generalize isum row = sr at Q1 H
  obtain ⟨ra, rc, rfl, _, _, _⟩ := hr.shape
  obtain ⟨la, lc, rfl, _, _, _⟩ := hl.shape
  generalize row.length = rn at *
  generalize l.length = ln at *
  clear hr2 hr hl hs hsl hB
  by_cases h0 : sl = 0
  · have HF := Lib.hid (show T = true from by rw [H.out]; simp [h0])
    have t0 : (sl == 0) = true := by simp [h0]
    clear H h0
    go_enter Tryz.func77, Tryz.ntmps77
    go_wp2
    refine wp_region_quiet_lit (by kernel_rfl) (by kernel_rfl) ?_
    repeat (go_big_quiet_step (fail))
    go_big_quiet_step ((with_reducible exact Q0.out _))
    repeat (go_big_quiet_step (fail))
    refine wpQuiet_nil ?_
    intro _ hw'
    obtain ⟨nq, hw''⟩ := hw'
    subst hw''
    go_wp2
    go_ret
    exact ⟨by rw [HF.out]; rfl, ⟨nq, rfl⟩⟩
  · have t0 : (sl == 0) = false := by simp [h0]
    by_cases h1 : sl = sr
    · have HF := Lib.hid (show T = true from by rw [H.out]; simp [h1])
      have t1 : (sl == sr) = true := by simp [h1]
      clear H h0 h1
      go_enter Tryz.func77, Tryz.ntmps77
      go_wp2
      refine wp_region_quiet_lit (by kernel_rfl) (by kernel_rfl) ?_
      repeat (go_big_quiet_step (fail))
      go_big_quiet_step ((with_reducible exact Q0.out _))
      repeat (go_big_quiet_step (fail))
      go_big_quiet_step ((with_reducible exact Q0.out _))
      repeat (go_big_quiet_step (fail))
      go_big_quiet_step ((with_reducible exact Q1.out _))
      repeat (go_big_quiet_step (fail))
      refine wpQuiet_nil ?_
      intro _ hw'
      obtain ⟨nq, hw''⟩ := hw'
      subst hw''
      go_wp2
      go_ret
      exact ⟨by rw [HF.out]; rfl, ⟨nq, rfl⟩⟩
    · have HF := Lib.hid (show T = false from by rw [H.out]; simp [h0, h1])
      have t1 : (sl == sr) = false := by simp [h1]
      clear H h0 h1
      go_enter Tryz.func77, Tryz.ntmps77
      go_wp2
      refine wp_region_quiet_lit (by kernel_rfl) (by kernel_rfl) ?_
      repeat (go_big_quiet_step (fail))
      go_big_quiet_step ((with_reducible exact Q0.out _))
      repeat (go_big_quiet_step (fail))
      go_big_quiet_step ((with_reducible exact Q0.out _))
      repeat (go_big_quiet_step (fail))
      go_big_quiet_step ((with_reducible exact Q1.out _))
      repeat (go_big_quiet_step (fail))
      refine wpQuiet_nil ?_
      intro _ hw'
      obtain ⟨nq, hw''⟩ := hw'
      subst hw''
      go_wp2
      go_ret
      exact ⟨by rw [HF.out]; rfl, ⟨nq, rfl⟩⟩
set_option maxHeartbeats 1000000 in
theorem IndexFunc_c {w0 w : World} {B : Nat} {vrow v : Value} {row : List Int} {xs : Tbl} (hB : w0.cell? ⟨B, 0, none⟩ = some vrow) (hlt : B < w0.heap.size) (hr : Ints w0 vrow row) (hs : Small row) (hb : Below w0.heap.size w0 w) (h : Tab w v xs) (hsx : ∀ l, l ∈ xs → Small l) :
    Calls Tryz.prog 103 #[v, .func (.func 77) #[] #[.pointer (some ⟨B, 0, none⟩)]] w (Reads w (.int .i64 (findL (fun l => !keepI row l) xs 0))) := by
  have hlen := h.len
  obtain ⟨a, c, rfl, _, _, hcell⟩ := h.shape
  clear h
  have H0 := Lib.hid (show findL (fun l => !keepI row l) xs 0 = findL (fun l => !keepI row l) (xs.drop 0) 0 from rfl)
  generalize findL (fun l => !keepI row l) xs 0 = T at H0 ⊢
  have Hclo := Lib.hid (fun (wr : World) (hd : Drawn w wr) vl l (hl : Ints wr vl l) (hsl : Small l) => clo_c hB hlt hr hs (hb.trans (hd.below _)) hl hsl)
  have Hsx := Lib.hid hsx
  obtain ⟨n, hn⟩ : ∃ n, n = xs.length := ⟨_, rfl⟩
  have Hn := Lib.hid hn
  rw [← hn] at hlen hcell ⊢
  clear hn hB hr hs hb hsx hlt
  go_enter Tryz.func103, Tryz.ntmps103
  go_wp2
  go_loopg [8] n (fun g i wr => ∃ (k : Nat), i = .int .i64 k ∧ k + g = n ∧ Hid (T = findL (fun l => !keepI row l) (xs.drop k) k) ∧ Drawn w wr)
  case atStart => exact ⟨0, rfl, by omega, H0, Drawn.refl _⟩
  case round =>
    obtain ⟨k, rfl, hk, HK, hdr⟩ := hrel
    by_cases hlt : k < n
    · obtain ⟨b, o, rfl, hb, hx0⟩ := hcell (by omega)
      obtain ⟨x, hx, hd⟩ := at_lt (xs := xs) (k := k) (by have := Hn.out; omega)
      obtain ⟨u, hu, hux⟩ := hx0 k x hx
      rw [← hdr.cell] at hu
      have Hc := Lib.hid (Hclo.out wr hdr u x (hdr.read Ints.frame hux) (Hsx.out x (List.mem_of_getElem? hx)))
      have HK1 := Lib.hid (show T = if (!keepI row x) = true then (k : Int) else findL (fun l => !keepI row l) (xs.drop (k + 1)) (k + 1) from by rw [HK.out, hd]; rfl)
      obtain ⟨ua, uc, rfl, _, _, _⟩ := hux.shape
      generalize x.length = xn at *
      have Hdr := Lib.hid hdr
      have hkn : (k : Int) < (n : Int) := by omega
      clear hx hd hx0 hcell HK H0 hux hdr
      generalize (!keepI row x) = d at Hc HK1
      cases d with
      | true =>
        have HF := Lib.hid (show T = (k : Int) from by rw [HK1.out, if_pos rfl])
        go_wp2_with fail
        refine Hc.out.mono ?_
        rintro e w2 ⟨rfl, hd2⟩
        have HZ := Lib.hid (Hdr.out.trans hd2)
        clear hd2 HK1
        go_wp2
        go_ret
        exact ⟨by rw [HF.out]; rfl, HZ.out⟩
      | false =>
        have HF := Lib.hid (show T = findL (fun l => !keepI row l) (xs.drop (k + 1)) (k + 1) from by rw [HK1.out, if_neg (by simp)])
        go_wp2_with fail
        refine Hc.out.mono ?_
        rintro e w2 ⟨rfl, hd2⟩
        have HZ := Hdr.out.trans hd2
        clear hd2 HK1
        go_wp2
        go_roundg (n - (k + 1))
        case measure => omega
        case rel => exact ⟨k + 1, by go_num, by omega, HF, HZ⟩
    · have HF := Lib.hid (show T = -1 from by rw [HK.out, drop_len (by have := Hn.out; omega)]; rfl)
      clear HK H0 hcell
      go_wp2
      go_ret
      exact ⟨by rw [HF.out]; rfl, hdr⟩
end Go.Proofs.YtlkgkfgpnnahdaaGreat
end

section
/-
  slices.DeleteFunc at a list of rows, the predicate of PartsOf.
-/
namespace Go.Sd
open Go.RowKit Go.Deep
/-- A row's value, the row, its blocks. -/
abbrev Row3 := Value × List Int × List Nat
theorem triples : ∀ {us : List Value} {xs : Tbl} {Fs : List (List Nat)}, us.length = xs.length → Fs.length = xs.length → ∃ ts : List Row3, ts.map (·.1) = us ∧ ts.map (fun t => t.2.1) = xs ∧ ts.map (fun t => t.2.2) = Fs
  | [], [], [], _, _ => ⟨[], rfl, rfl, rfl⟩
  | u :: us, x :: xs, F :: Fs, h1, h2 => by
    obtain ⟨ts, e1, e2, e3⟩ := triples (us := us) (xs := xs) (Fs := Fs) (by simpa using h1) (by simpa using h2)
    exact ⟨(u, x, F) :: ts, by simp [e1], by simp [e2], by simp [e3]⟩
theorem setCells_owns {base g n cap : Nat} {e : TypeId} : ∀ (vs : List Value) (o : Nat) (w : World) (us : List Value), w.ownsRow base e 1 (.slice (some ⟨g, 0, none⟩) n cap) n us →
    ∃ us', (w.setCells g o vs).ownsRow base e 1 (.slice (some ⟨g, 0, none⟩) n cap) n us' ∧ us'.take o = us.take o
  | [], o, w, us, h => ⟨us, h, rfl⟩
  | v :: vs, o, w, us, h => by
    obtain ⟨us', h1, h2⟩ := setCells_owns vs (o + 1) _ _ (h.stored o v).1
    refine ⟨us', h1, ?_⟩
    have h3 : (us'.take (o + 1)).take o = ((us.set o v).take (o + 1)).take o := by rw [h2]
    rw [List.take_take, List.take_take, show min o (o + 1) = o by omega] at h3
    rw [h3, List.take_set_of_le (Nat.le_refl o)]
theorem setCells_off (g : Nat) : ∀ (vs : List Value) (o : Nat) (w : World), Off [g] w (w.setCells g o vs)
  | [], _, w => Off.refl _ _
  | v :: vs, o, w => (Off.setCell (w := w) (p := ⟨g, o, none⟩) (by simp) v).trans (setCells_off g vs (o + 1) _)
theorem owns_take {base g n cap i : Nat} {e : TypeId} {w : World} {us : List Value} (h : w.ownsRow base e 1 (.slice (some ⟨g, 0, none⟩) n cap) n us) (hi : i ≤ n) : w.ownsRow base e 1 (.slice (some ⟨g, 0, none⟩) i cap) i (us.take i) := by
  obtain ⟨h1, h2⟩ := h
  rcases h2 with ⟨h', _⟩ | ⟨g', cap', cur, h', hb, hg, hnc, hcm, hcs, htake⟩
  · simp at h'
  · simp only [Value.slice.injEq, Option.some.injEq, Addr.mk.injEq, and_true, true_and] at h'
    obtain ⟨rfl, rfl⟩ := h'
    refine ⟨by simp at h1 ⊢; omega, Or.inr ⟨g, cap, cur, rfl, hb, hg, by omega, hcm, hcs, ?_⟩⟩
    rw [← htake, List.take_take]
    congr 1
    simp only [Nat.mul_one]; omega
theorem findL_spec (p : List Int → Bool) : ∀ (xs : Tbl) (k : Nat), (findL p xs k = -1 ∧ ∀ x, x ∈ xs → p x = false) ∨ ∃ i x, xs[i]? = some x ∧ p x = true ∧ findL p xs k = ((k + i : Nat) : Int) ∧ ∀ j y, j < i → xs[j]? = some y → p y = false
  | [], k => Or.inl ⟨rfl, fun x hx => by cases hx⟩
  | x :: xs, k => by
    cases hp : p x with
    | true => exact Or.inr ⟨0, x, rfl, hp, by simp [findL, hp], fun j y hj => by omega⟩
    | false =>
      have e : findL p (x :: xs) k = findL p xs (k + 1) := by simp [findL, hp]
      rcases findL_spec p xs (k + 1) with ⟨h1, h2⟩ | ⟨i, y, h1, h2, h3, h4⟩
      · exact Or.inl ⟨by rw [e, h1], fun y hy => by rcases List.mem_cons.1 hy with rfl | hy; exact hp; exact h2 y hy⟩
      · refine Or.inr ⟨i + 1, y, by simpa using h1, h2, by rw [e, h3]; congr 1; omega, fun j z hj hz => ?_⟩
        cases j with
        | zero => simp at hz; subst hz; exact hp
        | succ j => exact h4 j z (by omega) (by simpa using hz)
theorem mem_filt {α : Type} {p : α → Bool} {x : α} {l : List α} (h : x ∈ l.filter p) : x ∈ l := (List.mem_filter.1 h).1
theorem sub_flatten {a b : List (List Nat)} (h : List.Sublist a b) : List.Sublist a.flatten b.flatten := by
  induction h with
  | slnil => exact List.Sublist.refl _
  | cons x _ ih => exact ih.trans (List.sublist_append_right _ _)
  | cons_cons x _ ih => exact List.Sublist.append (List.Sublist.refl _) ih
theorem nodup_sub {a b : List (List Nat)} (h : List.Sublist a b) (hn : b.flatten.Nodup) : a.flatten.Nodup := List.Nodup.sublist (sub_flatten h) hn
/-- The rows that are kept. -/
def kept (row : List Int) (ts : List Row3) : List Row3 := ts.filter (fun t => keepI row t.2.1)
theorem kept_next {row : List Int} {ts : List Row3} {j : Nat} {t : Row3} (h : ts[j]? = some t) : kept row (ts.take (j + 1)) = if keepI row t.2.1 = true then kept row (ts.take j) ++ [t] else kept row (ts.take j) := by
  unfold kept
  rw [List.take_add_one, h, List.filter_append]
  simp only [Option.toList, List.filter_cons, List.filter_nil]
  split <;> simp
end Go.Sd
namespace Go.Proofs.YtlkgkfgpnnahdaaGreat
open Go.RowKit Go.Deep Go.Sd

/-- What DeleteFunc leaves. -/
def DelP (F : List Nat) (w : World) (V : Tbl) (e : Ending) (w' : World) : Prop :=
  ∃ r F', e = .returned r ∧ OTab 3 46 w' r V F' ∧ F'.Nodup ∧ (∀ b, b ∈ F' → b ∈ F) ∧ Off F w w'
set_option maxHeartbeats 4000000 in
set_option maxRecDepth 10000 in
theorem DeleteFunc_c {w0 w : World} {B : Nat} {vrow v : Value} {row : List Int} {xs : Tbl} {F : List Nat} (hB : w0.cell? ⟨B, 0, none⟩ = some vrow) (hlt : B < w0.heap.size) (hr : Ints w0 vrow row) (hs : Small row) (hb : Below w0.heap.size w0 w) (h : OTab 3 46 w v xs F) (hF : F.Nodup) (hFl : ∀ b, b ∈ F → w0.heap.size ≤ b) (hsx : ∀ l, l ∈ xs → Small l) :
    Calls Tryz.prog 76 #[v, .func (.func 77) #[] #[.pointer (some ⟨B, 0, none⟩)]] w (DelP F w (xs.filter (keepI row))) := by
  have Hif := Lib.hid (IndexFunc_c hB hlt hr hs hb h.reads hsx)
  rcases findL_spec (fun l => !keepI row l) xs 0 with ⟨he, hall⟩ | ⟨k0, x0, hx0, hp0, he, hbefore⟩
  · have HV := Lib.hid (show xs.filter (keepI row) = xs from List.filter_eq_self.2 fun x hx => by have := hall x hx; simpa using this)
    rw [he] at Hif
    generalize xs.filter (keepI row) = V at HV ⊢
    obtain ⟨a, c, rfl, _, _, _⟩ := h.reads.shape
    have Hh := Lib.hid h
    have HF := Lib.hid hF
    generalize xs.length = n at *
    clear h hF hFl hsx hB hr hs hb hlt he hall
    go_enter Tryz.func76, Tryz.ntmps76
    go_wp2_with fail
    refine Hif.out.mono ?_
    rintro e w2 ⟨rfl, hd⟩
    have HZ := Lib.hid (hd.below w.heap.size)
    clear hd
    go_wp2
    go_ret
    exact ⟨_, F, rfl, by rw [HV.out]; exact Kept.below (OTab.kept _ _) Hh.out HZ.out, HF.out, fun b hb => hb, Off.of_below HZ.out⟩
  · rw [Nat.zero_add] at he
    rw [he] at Hif
    have hk0 := (List.getElem?_eq_some_iff.1 hx0).1
    have hvlen := h.reads.len
    obtain ⟨us, Fs, ho, hFsl, hrr, rfl⟩ := h
    have hul : us.length = xs.length := by simpa using ho.1
    rcases ho.2 with ⟨rfl, hz⟩ | ⟨g, cap, cur, rfl, _, hg, hnc, hcm, hcs, htake⟩
    · omega
    obtain ⟨ts, e1, e2, e3⟩ := triples hul hFsl
    have hFs := List.nodup_append.1 hF
    have hgF : g ∉ Fs.flatten := fun hm => hFs.2.2 g (by simp [Value.ownBlock]) g hm rfl
    have hglt : g < w.heap.size := (ho.lt g rfl).2
    have htl : ts.length = xs.length := by rw [← e2]; simp
    have Hrow := Lib.hid (show ∀ (k : Nat) (t : Row3), ts[k]? = some t → OInts 3 w t.1 t.2.1 t.2.2 ∧ us[k]? = some t.1 ∧ xs[k]? = some t.2.1 from fun k t ht => by
      have h1 : us[k]? = some t.1 := by rw [← e1, List.getElem?_map, ht]; rfl
      have h2 : xs[k]? = some t.2.1 := by rw [← e2, List.getElem?_map, ht]; rfl
      have h3 : Fs[k]? = some t.2.2 := by rw [← e3, List.getElem?_map, ht]; rfl
      exact ⟨hrr k _ _ _ h1 h2 h3, h1, h2⟩)
    have HtF := Lib.hid (show ∀ (t : Row3), t ∈ ts → ∀ b, b ∈ t.2.2 → b ∈ Fs.flatten from fun t ht b hb => by
      rw [← e3]; exact List.mem_flatten_of_mem (List.mem_map_of_mem ht) hb)
    have HFsn := Lib.hid (show (ts.map (fun (t : Row3) => t.2.2)).flatten.Nodup from by rw [e3]; exact hFs.2.1)
    have HV := Lib.hid (show xs.filter (keepI row) = (kept row ts).map (fun (t : Row3) => t.2.1) from by rw [← e2, List.filter_map]; rfl)
    generalize xs.filter (keepI row) = V at HV ⊢
    have hgl : w0.heap.size ≤ g := hFl g (by simp [Value.ownBlock])
    have Hclo := Lib.hid (fun (wr : World) (hd : Off [g] w wr) vl l (hl : Ints wr vl l) (hsl : Small l) => clo_c hB hlt hr hs (hb.trans (hd.below (fun b hb => by simp at hb; omega) hb.size)) hl hsl)
    have Hsx := Lib.hid hsx
    have HkF := Lib.hid (show ∀ (t : Row3), t ∈ ts.take k0 → keepI row t.2.1 = true from fun t ht => by
      obtain ⟨j, hj⟩ := List.getElem?_of_mem ht
      rw [List.getElem?_take] at hj
      split at hj
      · rename_i hjk
        have := hbefore j _ hjk (Hrow.out j t hj).2.2
        simpa using this
      · cases hj)
    have Hk0 := Lib.hid (show ∀ (t : Row3), ts[k0]? = some t → keepI row t.2.1 = false from fun t ht => by
      have h1 := (Hrow.out k0 t ht).2.2
      rw [hx0] at h1
      rw [← Option.some.inj h1]
      simpa using hp0)
    have HgF := Lib.hid hgF
    have Hus := Lib.hid e1
    have Hho := Lib.hid ho
    have HFin := Lib.hid (show ∀ b, b = g ∨ b ∈ Fs.flatten → b ∈ (Value.slice (some ⟨g, 0, none⟩) xs.length cap).ownBlock.toList ++ Fs.flatten from fun b hb => by simpa [Value.ownBlock] using hb)
    generalize (Value.slice (some ⟨g, 0, none⟩) xs.length cap).ownBlock.toList ++ Fs.flatten = F0 at HFin ⊢
    have Hul := Lib.hid hul
    generalize hxn : xs.length = n at *
    have Hxn := Lib.hid hxn
    have Htl := Lib.hid htl
    clear ho hF hFl hsx hB hr hs hb hlt he hbefore hx0 hp0 hrr hFsl e1 e2 e3 hFs hgF hul hg hcs htake htl hxn hgl
    go_enter Tryz.func76, Tryz.ntmps76
    have tne : ((k0 : Int) == -1) = false := beq_eq_false_iff_ne.2 (by omega)
    go_wp2_with fail
    refine Hif.out.mono ?_
    rintro e w2 ⟨rfl, hd2⟩
    have H2 := Lib.hid (show w2.ownsRow 0 46 1 (.slice (some ⟨g, 0, none⟩) n cap) n us from ownsRow_keep Hho.out fun b _ => by rw [hd2.heap])
    have Ho2 := Lib.hid (show Off [g] w w2 from Off.of_below (hd2.below _))
    clear hd2
    go_wp2
    go_loopg [5, 6] (n - (k0 + 1)) (fun gg s5 s6 wr => ∃ (i j : Nat) (usk : List Value), s5 = .int .i64 i ∧ s6 = .int .i64 j ∧ j + gg = n ∧ i < j ∧ Hid (wr.ownsRow 0 46 1 (.slice (some ⟨g, 0, none⟩) n cap) n usk) ∧ Hid (usk.take i = (kept row (ts.take j)).map (·.1) ∧ i = (kept row (ts.take j)).length ∧ usk.drop j = us.drop j) ∧ Hid (Off [g] w wr))
    case atStart =>
      have hkt : kept row (ts.take (k0 + 1)) = ts.take k0 := by
        obtain ⟨t, ht, _⟩ := at_lt (xs := ts) (k := k0) (by have := Htl.out; omega)
        rw [kept_next ht, if_neg (by rw [Hk0.out t ht]; simp)]
        exact List.filter_eq_self.2 fun t ht => HkF.out t ht
      refine ⟨k0, k0 + 1, us, rfl, by go_num, by omega, by omega, H2, Lib.hid ⟨?_, ?_, rfl⟩, Ho2⟩
      · rw [hkt, ← Hus.out, List.map_take]
      · rw [hkt, List.length_take]; have := Htl.out; omega
    case round =>
      obtain ⟨i, j, usk, rfl, rfl, hj, hij, hown, hinv, hoff⟩ := hrel
      have huskl : usk.length = n := by have := hown.out.1; simpa using this
      by_cases hlt : j < n
      · obtain ⟨t, ht, _⟩ := at_lt (xs := ts) (k := j) (by have := Htl.out; omega)
        obtain ⟨hoi, huj, hxj⟩ := Hrow.out j t ht
        have hc0 : usk[j]? = some t.1 := by
          have h1 : (usk.drop j)[0]? = (us.drop j)[0]? := by rw [hinv.out.2.2]
          rw [List.getElem?_drop, List.getElem?_drop, Nat.add_zero] at h1
          rw [h1, huj]
        have hcj : wr.cell? ⟨g, j, none⟩ = some t.1 := by rw [hown.out.cellAt j (by omega), hc0]
        have hci : ∃ ui, wr.cell? ⟨g, i, none⟩ = some ui := by
          rw [hown.out.cellAt i (by omega)]
          exact ⟨usk[i], List.getElem?_eq_getElem (by omega)⟩
        have hfi : wr.frozen? ⟨g, i, none⟩ = false := hown.out.frozenAt i
        obtain ⟨ui, hci⟩ := hci
        have hnd : ∀ b, b ∈ t.2.2 → b ∉ [g] := fun b hb hm => by
          simp at hm; subst hm
          exact HgF.out (HtF.out t (List.mem_of_getElem? ht) _ hb)
        have hoir := Kept.off (OInts.kept _) hoi hoff.out hnd
        have Hc := Lib.hid (Hclo.out wr hoff.out t.1 t.2.1 hoir.reads (Hsx.out _ (List.mem_of_getElem? hxj)))
        have HN := Lib.hid (kept_next (row := row) ht)
        obtain ⟨ta, tc, hts, _, _, _⟩ := hoir.reads.shape
        generalize t.2.1.length = tn at hts
        have Hts := Lib.hid hts
        rw [hts] at hcj
        rw [hts] at Hc
        have Hcj := Lib.hid hcj
        have Hci := Lib.hid hci
        have Hfi := Lib.hid hfi
        have Huskl := Lib.hid huskl
        have hjn : (j : Int) < (n : Int) := by omega
        have hin : (i : Int) < (n : Int) := by omega
        clear hoi huj hxj hc0 hnd hoir hts ht hci hfi huskl
        generalize keepI row t.2.1 = d at Hc HN
        cases d with
        | false =>
          go_wp2_with fail
          refine Hc.out.mono ?_
          rintro e w6 ⟨rfl, hd6⟩
          have R1 := Lib.hid (show w6.ownsRow 0 46 1 (.slice (some ⟨g, 0, none⟩) n cap) n usk from ownsRow_keep hown.out fun b _ => by rw [hd6.heap])
          have R2 := Lib.hid (show usk.take i = (kept row (ts.take (j + 1))).map (·.1) ∧ i = (kept row (ts.take (j + 1))).length ∧ usk.drop (j + 1) = us.drop (j + 1) from by
            rw [HN.out, if_neg (by simp)]
            refine ⟨hinv.out.1, hinv.out.2.1, ?_⟩
            have h1 := congrArg (List.drop 1) hinv.out.2.2
            rwa [List.drop_drop, List.drop_drop] at h1)
          have R3 := Lib.hid (hoff.out.trans (Off.of_below (hd6.below wr.heap.size)))
          clear hd6 hown hinv hoff
          go_wp2
          go_roundg (n - (j + 1))
          case measure => omega
          case rel => exact ⟨i, j + 1, usk, rfl, by go_num, by omega, by omega, R1, R2, R3⟩
        | true =>
          go_wp2_with fail
          refine Hc.out.mono ?_
          rintro e w6 ⟨rfl, hd6⟩
          have h6 : w6.ownsRow 0 46 1 (.slice (some ⟨g, 0, none⟩) n cap) n usk := ownsRow_keep hown.out fun b _ => by rw [hd6.heap]
          have R1 := Lib.hid ((h6.stored i (.slice ta tn tc)).1)
          have R2 := Lib.hid (show (usk.set i (.slice ta tn tc)).take (i + 1) = (kept row (ts.take (j + 1))).map (·.1) ∧ i + 1 = (kept row (ts.take (j + 1))).length ∧ (usk.set i (.slice ta tn tc)).drop (j + 1) = us.drop (j + 1) from by
            rw [HN.out]
            simp only [if_true]
            refine ⟨?_, by rw [List.length_append, ← hinv.out.2.1]; rfl, ?_⟩
            · rw [List.take_add_one, List.take_set_of_le (Nat.le_refl i), List.getElem?_set_self (by have := Huskl.out; omega), hinv.out.1, List.map_append]
              simp [Hts.out]
            · rw [List.drop_set_of_lt (by omega)]
              have h1 := congrArg (List.drop 1) hinv.out.2.2
              rwa [List.drop_drop, List.drop_drop] at h1)
          have R3 := Lib.hid ((hoff.out.trans (Off.of_below (hd6.below wr.heap.size))).trans (Off.setCell (p := ⟨g, i, none⟩) (by simp) (.slice ta tn tc)))
          have hci6 := (hd6.cell ⟨g, i, none⟩).trans Hci.out
          have hfi6 : w6.frozen? ⟨g, i, none⟩ = false := h6.frozenAt i
          clear hd6 hown hinv hoff h6 hcj
          go_wp2
          go_roundg (n - (j + 1))
          case measure => omega
          case rel => exact ⟨i + 1, j + 1, _, by go_num, by go_num, by omega, by omega, R1, R2, R3⟩
      · have e : j = n := by omega
        subst e
        have hcl : ∀ ty, (Builtin.clear_ #[24] ty #[.slice (some ⟨g, i, none⟩) (j - i) (cap - i)]).run Tryz.prog wr = .ok (.tuple #[]) (wr.setCells g i (List.replicate (j - i) (.slice none 0 0))) :=
          fun ty => Lib.run_clear_slice wr _ _ ty (.slice none 0 0) Tryz.underlying24 (fun _ => by rfl) rfl rfl g i _ _ (by omega) (fun t ht => by rw [hown.out.cellAt (i + t) (by omega), List.getElem?_eq_getElem (by omega)]; rfl) (fun t ht => hown.out.frozenAt (i + t))
        have HT := Lib.hid (show ts.take j = ts from List.take_of_length_le (by have := Htl.out; omega))
        obtain ⟨us', hown', htk⟩ := setCells_owns (List.replicate (j - i) (Value.slice none 0 0)) i wr usk hown.out
        have hoff' := hoff.out.trans (setCells_off g (List.replicate (j - i) (Value.slice none 0 0)) i wr)
        have hfin := owns_take hown' (Nat.le_of_lt hij)
        have hi9 := hinv.out
        rw [htk, hi9.1, HT.out] at hfin
        rw [HT.out] at hi9
        have hVl : V.length = i := by rw [HV.out, List.length_map]; exact hi9.2.1.symm
        have hsub : List.Sublist ((kept row ts).map (fun (t : Row3) => t.2.2)) (ts.map (fun (t : Row3) => t.2.2)) := List.Sublist.map _ List.filter_sublist
        have Hres := Lib.hid (show DelP F0 w V (.returned (.slice (some ⟨g, 0, none⟩) i cap)) (wr.setCells g i (List.replicate (j - i) (.slice none 0 0))) from
          ⟨_, [g] ++ ((kept row ts).map (fun (t : Row3) => t.2.2)).flatten, rfl, ⟨(kept row ts).map (·.1), (kept row ts).map (fun (t : Row3) => t.2.2), by rw [hVl]; exact hfin, by rw [hVl, List.length_map]; exact hi9.2.1.symm, fun q u x G hu hx hG => by
            rw [HV.out] at hx
            rw [List.getElem?_map, Option.map_eq_some_iff] at hu hx hG
            obtain ⟨t1, q1, rfl⟩ := hu
            obtain ⟨t2, q2, rfl⟩ := hx
            obtain ⟨t3, q3, rfl⟩ := hG
            rw [q1] at q2 q3
            obtain rfl := Option.some.inj q2
            obtain rfl := Option.some.inj q3
            have hm : t1 ∈ ts := mem_filt (List.mem_of_getElem? q1)
            obtain ⟨p, hp⟩ := List.getElem?_of_mem hm
            exact Kept.off (OInts.kept _) (Hrow.out p t1 hp).1 hoff' (fun b hb hm2 => by simp at hm2; subst hm2; exact HgF.out (HtF.out t1 hm _ hb)), rfl⟩,
            List.nodup_append.2 ⟨by simp, nodup_sub hsub HFsn.out, fun p hp q hq e => by
              simp at hp; subst hp; subst e
              obtain ⟨G, hG, hb⟩ := List.mem_flatten.1 hq
              obtain ⟨t, ht, rfl⟩ := List.mem_map.1 hG
              exact HgF.out (HtF.out t (mem_filt ht) _ hb)⟩,
            fun b hb => HFin.out b (by
              rcases List.mem_append.1 hb with h | h
              · exact Or.inl (by simpa using h)
              · obtain ⟨G, hG, hb⟩ := List.mem_flatten.1 h
                obtain ⟨t, ht, rfl⟩ := List.mem_map.1 hG
                exact Or.inr (HtF.out t (mem_filt ht) _ hb)),
            hoff'.mono (fun b hb => HFin.out b (Or.inl (by simpa using hb)))⟩)
        have hin : (i : Int) ≤ (j : Int) := by omega
        have hin2 : (i : Int) < (j : Int) := by omega
        have hicap : (i : Int) ≤ (cap : Int) := by omega
        have hne : i ≠ cap := by omega
        clear hown' htk hoff' hfin hi9 hVl hsub hown hinv hoff
        go_wp2
        go_ret
        exact Hres.out
end Go.Proofs.YtlkgkfgpnnahdaaGreat
end

section
/-
  SplitOut, the program's: the arcs from a vertex divided.
-/
namespace Go.Proofs.YtlkgkfgpnnahdaaGreat
open Go.RowKit Go.Deep Go.Sd

theorem clone_c {w : World} {v : Value} {xs : List Int} (h : Ints w v xs) (hl : xs.length ≤ 1048576) :
    Calls Tryz.prog 75 #[v] w (Makes (OInts 3) w xs) := by
  have hsh := h.shape
  obtain ⟨a, c, rfl, _, _, hcell⟩ := hsh
  have q : ∀ (w : World) (a : Option Addr) (n c n' c' : Nat), (binOp .eql 46 (.slice a n c) (.slice none n' c')).run Tryz.prog w = .ok (.bool a.isNone) w := fun w a n c n' c' => Lib.run_eql_slice_nil w _ _ a n c n' c' Tryz.underlying46
  cases a with
  | none =>
    have h0 : xs.length = 0 := by
      by_cases h1 : 0 < xs.length
      · obtain ⟨b, o, h2, _⟩ := hcell h1
        cases h2
      · omega
    obtain rfl : xs = [] := List.length_eq_zero_iff.1 h0
    clear h hcell
    go_enter Tryz.func75, Tryz.ntmps75
    go_wp2
    go_ret
    exact ⟨_, rfl, New.nil _ _, Below.refl _ _⟩
  | some p =>
    have Hp := Lib.hid (Ints.frame _ _ _ _ h ((Below.refl w.heap.size w).alloc (Nat.le_refl _) (.cells #[] 3)))
    clear h hcell
    go_enter Tryz.func75, Tryz.ntmps75
    go_wp2_with (at_builtin; refine wpl_append_vals (f := Value.int .i64) (fun _ => rfl) rfl (.tmp 5) (.tmp 6) 46 rfl 3 (.int .i64 0) 8 Tryz.underlying46 infoI rfl (New.empty (R := OValR (Value.int .i64)) (lo := w.heap.size) w (Nat.le_refl _)) (by simp) Hp.out rfl rfl (by simp; omega) (by simp; omega) ?_; intro v1 w1 hn1 _ _ hb1; have Hn1 := Lib.hid hn1; have Hb1 := Lib.hid (((Below.refl w.heap.size w).alloc (Nat.le_refl _) _).trans hb1); clear hn1 hb1)
    go_ret
    exact ⟨_, rfl, Hn1.out, Hb1.out⟩

/-- A slice of n numbers: where they lie. -/
theorem ints_at {w : World} {v : Value} {xs : List Int} {n : Nat} (h : Ints w v xs) (hn : xs.length = n) (h0 : 0 < n) :
    ∃ b o c, v = .slice (some ⟨b, o, none⟩) n c ∧ b < w.heap.size ∧ ∀ j, j < n → w.cell? ⟨b, o + j, none⟩ = some (.int .i64 (xs.getD j 0)) := by
  subst hn
  obtain ⟨a, c, rfl, _, _, hc⟩ := h.shape
  obtain ⟨b, o, rfl, hb, hx⟩ := hc h0
  refine ⟨b, o, c, rfl, hb, fun j hj => ?_⟩
  obtain ⟨x, hxj, _⟩ := at_lt hj
  obtain ⟨u, hu, rfl⟩ := hx j x hxj
  rw [hu]
  simp [List.getD, hxj]

/-- Row k of the divided matrix, ahead of its last number. -/
def splitR (m : List (List Int)) (I : Nat) (P : List Int) (n k l : Nat) : Int := if k = n then ent m I l - P.getD l 0 else if k = I then P.getD l 0 else ent m k l
def splitT (m : List (List Int)) (I : Nat) (P : List Int) (n : Nat) : List (List Int) := (List.range (n + 1)).map fun k => rowOf' n (splitR m I P n k) ++ [splitR m I P n k I]
theorem splitT_at {m : List (List Int)} {I : Nat} {P : List Int} {n k : Nat} (hk : k < n + 1) : (splitT m I P n)[k]? = some (rowOf' n (splitR m I P n k) ++ [splitR m I P n k I]) := by simp [splitT, hk]
theorem splitT_len (m : List (List Int)) (I : Nat) (P : List Int) (n : Nat) : (splitT m I P n).length = n + 1 := by simp [splitT]
theorem splitR_last (m : List (List Int)) (I : Nat) (P : List Int) (n : Nat) : splitR m I P n n = fun l => ent m I l - P.getD l 0 := by funext l; simp [splitR]
theorem splitR_part (m : List (List Int)) {I : Nat} (P : List Int) {n : Nat} (h : I < n) : splitR m I P n I = fun l => P.getD l 0 := by funext l; unfold splitR; rw [if_neg (by omega), if_pos rfl]
theorem splitR_row (m : List (List Int)) {I : Nat} (P : List Int) {n k : Nat} (h : k < n) (hI : k ≠ I) : splitR m I P n k = fun l => ent m k l := by funext l; unfold splitR; rw [if_neg (by omega), if_neg hI]
theorem row_full {r : List Int} {n : Nat} (h : r.length = n) : r = rowOf' n (fun l => r.getD l 0) := by subst h; exact row_eq r

def partOk (m : List (List Int)) (I : Nat) (P : List Int) (n : Nat) : Prop := ∀ l, l < n → 0 ≤ P.getD l 0 ∧ P.getD l 0 ≤ ent m I l ∧ ent m I l ≤ 1000000

set_option maxHeartbeats 4000000 in
set_option maxRecDepth 100000 in
theorem split_c {w : World} {va vp : Value} {m : List (List Int)} {P : List Int} {I n : Nat} (h1 : Tab w va m) (h2 : Ints w vp P) (hm : Sq n m) (hp : P.length = n) (hI : I < n) (hn : n ≤ 8) (hok : partOk m I P n) :
    Calls Tryz.prog 85 #[va, .int .i64 I, vp] w (Makes (OTab 3 46) w (splitT m I P n)) := by
  have hn0 : 0 < n := by omega
  have Hms := Lib.hid (fun k (hk : k < n) (hr : (m.getD k []).length = n) => row_full hr)
  have Hlen := Lib.hid (fun k (hk : k < n) => (hm.row hk).2)
  obtain ⟨ab, ao, ac, rfl, hab, hae⟩ := h1.entAt hm.1 hm.2 hn0
  obtain ⟨pb, po, pc, rfl, hpb, hpe⟩ := ints_at h2 hp hn0
  have H2 := Lib.hid h2
  have Hp := Lib.hid hp
  have Hok := Lib.hid hok
  obtain ⟨ib, io, ic, hI1, hib, _, hI2⟩ := hae.at hI hn0
  have hIi : (I : Int) < (n : Int) := by omega
  clear h1 h2 hm hp hok
  go_enter Tryz.func85, Tryz.ntmps85
  go_wp2
  go_loopg [7, 19] n (fun g v ii wr => ∃ (k : Nat), ii = .int .i64 k ∧ k + g = n ∧ New (OInts 3) w.heap.size wr v ((rowOf' n (splitR m I P n n)).take k) ∧ Below w.heap.size w wr)
  case atStart => exact ⟨0, rfl, by omega, New.empty w (Nat.le_refl _), (Below.refl _ _).alloc (Nat.le_refl _) _⟩
  case round =>
    obtain ⟨k, rfl, hk, hnew, hbel⟩ := hrel
    obtain ⟨wo, rfl⟩ : ∃ wo : World, wo = wr := ⟨_, rfl⟩
    have hle := hbel.size
    have hrule := hbel.rule
    have Hn := Lib.hid hnew
    have Hb := Lib.hid hbel
    have Hlk := Lib.hid (show ((rowOf' n (splitR m I P n n)).take k).length ≤ n from by rw [List.length_take]; omega)
    by_cases hlt : k < n
    · have hA3 := hI2 k hlt
      have hP3 := hpe k hlt
      obtain ⟨hd1, hd2, hd3⟩ := Hok.out k hlt
      have Hs := Lib.hid (show _ = _ from take_snoc' (show (rowOf' n (splitR m I P n n))[k]? = some (ent m I k - P.getD k 0) from by rw [rowOf_at hlt, splitR_last]))
      generalize ent m I k = X at *
      generalize P.getD k 0 = Y at *
      clear hnew hbel hI2 hpe hae
      go_wp2_with (at_builtin; refine wpl_push (w0 := wo) (lo := w.heap.size) (y := X - Y) OIntR.kept rfl (.tmp 24) (.tmp 31) 46 rfl 3 (.int .i64 0) 8 Tryz.underlying46 infoI rfl Hn.out hle ((Below.refl _ _).alloc (Nat.le_refl _) _) ⟨[], ⟨rfl, rfl⟩, by simp [Fresh]⟩ (bb := wo.heap.size) (c := 1) (by simp) rfl rfl (by have := Hlk.out; omega) (by have := Hlk.out; omega) ?_; intro v1 w1 hn1 _ _ hb1)
      go_roundg (n - (k + 1))
      case measure => omega
      case rel => exact ⟨k + 1, by go_num, by omega, by rw [← Hs.out]; exact hn1, Hb.out.trans hb1⟩
    · have e : k = n := by omega
      subst e
      clear hk
      rw [rowOf_full] at hnew
      obtain ⟨gb, gc, hv, _, _, hgb, _, _, _⟩ := hnew.int_at (show (rowOf' k (splitR m I P k k))[I]? = some (splitR m I P k k I) from rowOf_at hI)
      rw [rowOf_len] at hv
      subst hv
      obtain ⟨wa, rfl⟩ : ∃ wa : World, wa = wo := ⟨_, rfl⟩
      obtain ⟨n, rfl⟩ : ∃ n : Nat, n = k := ⟨_, rfl⟩
      have Hrest := Lib.hid hnew
      have Hba := Lib.hid hbel
      have hae1 := hae.frame hab hbel
      have hab1 : ab < wa.heap.size := by omega
      have hpb1 : pb < wa.heap.size := by omega
      have Hp1 := Lib.hid (Ints.frame _ _ _ _ H2.out hbel)
      have hpI : wa.cell? ⟨pb, po + I, none⟩ = some (.int .i64 (P.getD I 0)) := (hbel.cell (p := ⟨pb, po + I, none⟩) hpb).trans (hpe I hI)
      have hle0 := hle
      clear hnew hbel hae hI1 hI2 hpe hrule Hn Hb Hlk hib hle
      go_wp2
      go_loopg [10, 37] n (fun g v ii wr => ∃ (k : Nat), ii = .int .i64 k ∧ k + g = n ∧ New (OTab 3 46) wa.heap.size wr v ((splitT m I P n).take k) ∧ Below wa.heap.size wa wr)
      case atStart => exact ⟨0, rfl, by omega, New.empty wa (Nat.le_refl _), (Below.refl _ _).alloc (Nat.le_refl _) _⟩
      case round =>
        obtain ⟨k, rfl, hk, hnew, hbel⟩ := hrel
        obtain ⟨wo, rfl⟩ : ∃ wo : World, wo = wr := ⟨_, rfl⟩
        have hle := hbel.size
        have hrule := hbel.rule
        have Hn := Lib.hid hnew
        have Hb := Lib.hid hbel
        have Hlk := Lib.hid (show ((splitT m I P n).take k).length ≤ n from by rw [List.length_take]; omega)
        by_cases hlt : k < n
        · obtain ⟨rb, ro, rc, hA1, hrb, hIn, hA2⟩ := hae1.at hlt hn0
          have hA3 := hA2 I hI
          have Hs0 := Lib.hid (show _ = _ from take_snoc' (splitT_at (m := m) (I := I) (P := P) (show k < n + 1 by omega)))
          have Hml := Lib.hid (Hlen.out k hlt)
          have Hmr := Lib.hid (Hms.out k hlt Hml.out)
          clear hae1 hA2
          by_cases hkI : k = I
          · subst hkI
            have t1 : ((k : Int) == (k : Int)) = true := by simp
            have Hs := Lib.hid (show (splitT m k P n).take k ++ [P ++ [P.getD k 0]] = (splitT m k P n).take (k + 1) from by rw [← Hs0.out, splitR_part m P hlt, ← row_full Hp.out])
            clear Hs0 hA3 hrb hIn Hml Hmr
            have Hin := Lib.hid (show Ints wo (.slice (some ⟨pb, po, none⟩) n pc) (P) from Ints.frame _ _ _ _ Hp1.out hbel)
            have hS0 : wo.cell? ⟨pb, po + k, none⟩ = some (.int .i64 (P.getD k 0)) := (hbel.cell (p := ⟨pb, po + k, none⟩) hpb1).trans hpI
            have hrbo : pb < wo.heap.size := by omega
            have Hxl := Lib.hid (show (P).length = n from Hp.out)
            have Hcl := Lib.hid (fun (W : World) (hW : Below wo.heap.size wo W) => clone_c (Ints.frame _ _ _ _ Hin.out hW) (by rw [Hxl.out]; omega))
            obtain ⟨xs, hxs⟩ : ∃ xs : List Int, xs = P := ⟨_, rfl⟩
            rw [← hxs] at Hin Hxl Hcl
            have Hxs := Lib.hid hxs
            clear hxs
            generalize P.getD k 0 = X at *
            clear hnew hbel
            go_wp2_with fail
            go_region_held3 (fun w' => w'.cell? ⟨pb, po + k, none⟩ = some (.int .i64 X))
              (first
                | exact hS3
                | exact hS2
                | exact hS1
                | exact hS0
                | go_keep)
              ((first
                | (refine (Hcl.out _ ((Below.refl _ _).drew)).mono ?_
                   rintro e w1 ⟨v1, rfl, hn1, hb1⟩
                   have hn1' : New (OInts 3) wo.heap.size w1 v1 xs := hn1
                   have hz1 : wo.heap.size ≤ w1.heap.size := hb1.size
                   have Hb1 := Lib.hid (show Below wo.heap.size wo w1 from ((Below.refl _ _).drew).trans hb1)
                   have Hn1 := Lib.hid hn1'
                   have hS1 : w1.cell? ⟨pb, po + k, none⟩ = some (.int .i64 X) := (Hb1.out.cell (p := ⟨pb, po + k, none⟩) hrbo).trans hS0
                   clear hn1 hb1 hn1')
                | (refine (Hcl.out _ (((Below.refl _ _).alloc (Nat.le_refl _) (.cells #[.int .i64 X] 3)).drew)).mono ?_
                   rintro e w1 ⟨v1, rfl, hn1, hb1⟩
                   have hn1' : New (OInts 3) wo.heap.size w1 v1 xs := hn1.mono (show wo.heap.size ≤ (wo.alloc (.cells #[.int .i64 X] 3)).heap.size by simp)
                   have hsz0 : (wo.alloc (.cells #[.int .i64 X] 3)).heap.size ≤ w1.heap.size := hb1.size
                   have hsz1 : (wo.alloc (.cells #[.int .i64 X] 3)).heap.size = wo.heap.size + 1 := by simp
                   have hsz : wo.heap.size + 1 ≤ w1.heap.size := by omega
                   have hz1 : wo.heap.size ≤ w1.heap.size := by omega
                   have Hb1 := Lib.hid (show Below wo.heap.size wo w1 from (((Below.refl _ _).alloc (Nat.le_refl _) (.cells #[.int .i64 X] 3)).drew).trans (hb1.mono (show wo.heap.size ≤ (wo.alloc (.cells #[.int .i64 X] 3)).heap.size by simp)))
                   have hcx : w1.cell? ⟨wo.heap.size, 0, none⟩ = some (.int .i64 X) := (hb1.cell (p := ⟨wo.heap.size, 0, none⟩) (show wo.heap.size < (wo.alloc (.cells #[.int .i64 X] 3)).heap.size by simp)).trans (show (wo.alloc (.cells #[.int .i64 X] 3)).cell? ⟨wo.heap.size, 0, none⟩ = _ by simp)
                   have Hn1 := Lib.hid hn1'
                   have hS1 : w1.cell? ⟨pb, po + k, none⟩ = some (.int .i64 X) := (Hb1.out.cell (p := ⟨pb, po + k, none⟩) hrbo).trans hS0
                   clear hn1 hb1 hn1' hsz hsz0 hsz1)
                | (refine step_push (w0 := w1) (lo := wo.heap.size) (y := X) OIntR.kept (by rfl) (.tmp 48) (.tmp 53) 46 (by rfl) 3 (.int .i64 0) 8 Tryz.underlying46 infoI (by rfl) Hn1.out hz1 ((Below.refl _ _).alloc (Nat.le_refl _) _) ⟨[], ⟨rfl, rfl⟩, by simp [Fresh]⟩ (bb := w1.heap.size) (c := 1) (by simp) (by rfl) (by rfl) (by rw [Hxl.out]; omega) (by rw [Hxl.out]; omega) ?_
                   intro v2 w2 hn2 _ _ hb2
                   obtain ⟨ya, yn, yc, rfl⟩ := hn2.slice
                   have Hn2 := Lib.hid hn2
                   have Hb2 := Lib.hid (Hb1.out.trans hb2)
                   have hz2 : wo.heap.size ≤ w2.heap.size := Hb2.out.size
                   have hS2 : w2.cell? ⟨pb, po + k, none⟩ = some (.int .i64 X) := (Hb2.out.cell (p := ⟨pb, po + k, none⟩) hrbo).trans hS0
                   clear hn2 hb2)
                | (refine step_push (w0 := w1) (lo := wo.heap.size) (y := X) OIntR.kept (by rfl) (.tmp 48) (.tmp 53) 46 (by rfl) 3 (.int .i64 0) 8 Tryz.underlying46 infoI (by rfl) Hn1.out hz1 (Below.refl _ _) ⟨[], ⟨rfl, rfl⟩, by simp [Fresh]⟩ (bb := wo.heap.size) (c := 1) hcx (by rfl) (by rfl) (by rw [Hxl.out]; omega) (by rw [Hxl.out]; omega) ?_
                   intro v2 w2 hn2 _ _ hb2
                   obtain ⟨ya, yn, yc, rfl⟩ := hn2.slice
                   have Hn2 := Lib.hid hn2
                   have Hb2 := Lib.hid (Hb1.out.trans hb2)
                   have hz2 : wo.heap.size ≤ w2.heap.size := Hb2.out.size
                   have hS2 : w2.cell? ⟨pb, po + k, none⟩ = some (.int .i64 X) := (Hb2.out.cell (p := ⟨pb, po + k, none⟩) hrbo).trans hS0
                   clear hn2 hb2)
                | (refine step_push (w0 := wo) (lo := wa.heap.size) (OInts.kept _) (by rfl) (.tmp 46) (.tmp 55) 24 (by rfl) 46 (.slice none 0 0) 24 Tryz.underlying24 infoR (by rfl) Hn.out hle (Hb2.out.alloc hz2 _) (New.keep (OInts.kept _) Hn2.out ((Below.refl w2.heap.size _).alloc (Nat.le_refl _) _) (Nat.le_refl _)) (bb := w2.heap.size) (c := 1) (by simp) (by rfl) (by rfl) (by have := Hlk.out; omega) (by have := Hlk.out; omega) ?_
                   intro v3 w3 hn3 _ _ hb3
                   have Hn3 := Lib.hid hn3
                   have Hb3 := Lib.hid hb3
                   have hS3 : w3.cell? ⟨pb, po + k, none⟩ = some (.int .i64 X) := (Hb3.out.cell (p := ⟨pb, po + k, none⟩) (by omega)).trans hS0
                   clear hn3 hb3)
                | fail))
            all_goals (
              go_wp2
              go_roundg (n - (k + 1))
              case measure => omega
              case rel => exact ⟨k + 1, by go_num, by omega, by have h := Hn3.out; rw [Hxs.out, Hs.out] at h; exact h, Hb.out.trans Hb3.out⟩)
          · have t1 : ((k : Int) == (I : Int)) = false := by simp; omega
            have Hs := Lib.hid (show (splitT m I P n).take k ++ [m.getD k [] ++ [ent m k I]] = (splitT m I P n).take (k + 1) from by rw [← Hs0.out, splitR_row m P hlt hkI, show rowOf' n (fun l => ent m k l) = m.getD k [] from Hmr.out.symm])
            clear Hs0 hkI
            have Hin := Lib.hid (show Ints wo (.slice (some ⟨rb, ro, none⟩) n rc) (m.getD k []) from Ints.frame _ _ _ _ hIn hbel)
            have hS0 : wo.cell? ⟨rb, ro + I, none⟩ = some (.int .i64 (ent m k I)) := (hbel.cell (p := ⟨rb, ro + I, none⟩) hrb).trans hA3
            have hrbo : rb < wo.heap.size := by omega
            have Hxl := Lib.hid (show (m.getD k []).length = n from Hml.out)
            have Hcl := Lib.hid (fun (W : World) (hW : Below wo.heap.size wo W) => clone_c (Ints.frame _ _ _ _ Hin.out hW) (by rw [Hxl.out]; omega))
            obtain ⟨xs, hxs⟩ : ∃ xs : List Int, xs = m.getD k [] := ⟨_, rfl⟩
            rw [← hxs] at Hin Hxl Hcl
            have Hxs := Lib.hid hxs
            clear hxs
            generalize ent m k I = X at *
            clear hnew hbel
            go_wp2_with fail
            go_region_held3 (fun w' => w'.cell? ⟨rb, ro + I, none⟩ = some (.int .i64 X))
              (first
                | exact hS3
                | exact hS2
                | exact hS1
                | exact hS0
                | go_keep)
              ((first
                | (refine (Hcl.out _ ((Below.refl _ _).drew)).mono ?_
                   rintro e w1 ⟨v1, rfl, hn1, hb1⟩
                   have hn1' : New (OInts 3) wo.heap.size w1 v1 xs := hn1
                   have hz1 : wo.heap.size ≤ w1.heap.size := hb1.size
                   have Hb1 := Lib.hid (show Below wo.heap.size wo w1 from ((Below.refl _ _).drew).trans hb1)
                   have Hn1 := Lib.hid hn1'
                   have hS1 : w1.cell? ⟨rb, ro + I, none⟩ = some (.int .i64 X) := (Hb1.out.cell (p := ⟨rb, ro + I, none⟩) hrbo).trans hS0
                   clear hn1 hb1 hn1')
                | (refine (Hcl.out _ (((Below.refl _ _).alloc (Nat.le_refl _) (.cells #[.int .i64 X] 3)).drew)).mono ?_
                   rintro e w1 ⟨v1, rfl, hn1, hb1⟩
                   have hn1' : New (OInts 3) wo.heap.size w1 v1 xs := hn1.mono (show wo.heap.size ≤ (wo.alloc (.cells #[.int .i64 X] 3)).heap.size by simp)
                   have hsz0 : (wo.alloc (.cells #[.int .i64 X] 3)).heap.size ≤ w1.heap.size := hb1.size
                   have hsz1 : (wo.alloc (.cells #[.int .i64 X] 3)).heap.size = wo.heap.size + 1 := by simp
                   have hsz : wo.heap.size + 1 ≤ w1.heap.size := by omega
                   have hz1 : wo.heap.size ≤ w1.heap.size := by omega
                   have Hb1 := Lib.hid (show Below wo.heap.size wo w1 from (((Below.refl _ _).alloc (Nat.le_refl _) (.cells #[.int .i64 X] 3)).drew).trans (hb1.mono (show wo.heap.size ≤ (wo.alloc (.cells #[.int .i64 X] 3)).heap.size by simp)))
                   have hcx : w1.cell? ⟨wo.heap.size, 0, none⟩ = some (.int .i64 X) := (hb1.cell (p := ⟨wo.heap.size, 0, none⟩) (show wo.heap.size < (wo.alloc (.cells #[.int .i64 X] 3)).heap.size by simp)).trans (show (wo.alloc (.cells #[.int .i64 X] 3)).cell? ⟨wo.heap.size, 0, none⟩ = _ by simp)
                   have Hn1 := Lib.hid hn1'
                   have hS1 : w1.cell? ⟨rb, ro + I, none⟩ = some (.int .i64 X) := (Hb1.out.cell (p := ⟨rb, ro + I, none⟩) hrbo).trans hS0
                   clear hn1 hb1 hn1' hsz hsz0 hsz1)
                | (refine step_push (w0 := w1) (lo := wo.heap.size) (y := X) OIntR.kept (by rfl) (.tmp 48) (.tmp 53) 46 (by rfl) 3 (.int .i64 0) 8 Tryz.underlying46 infoI (by rfl) Hn1.out hz1 ((Below.refl _ _).alloc (Nat.le_refl _) _) ⟨[], ⟨rfl, rfl⟩, by simp [Fresh]⟩ (bb := w1.heap.size) (c := 1) (by simp) (by rfl) (by rfl) (by rw [Hxl.out]; omega) (by rw [Hxl.out]; omega) ?_
                   intro v2 w2 hn2 _ _ hb2
                   obtain ⟨ya, yn, yc, rfl⟩ := hn2.slice
                   have Hn2 := Lib.hid hn2
                   have Hb2 := Lib.hid (Hb1.out.trans hb2)
                   have hz2 : wo.heap.size ≤ w2.heap.size := Hb2.out.size
                   have hS2 : w2.cell? ⟨rb, ro + I, none⟩ = some (.int .i64 X) := (Hb2.out.cell (p := ⟨rb, ro + I, none⟩) hrbo).trans hS0
                   clear hn2 hb2)
                | (refine step_push (w0 := w1) (lo := wo.heap.size) (y := X) OIntR.kept (by rfl) (.tmp 48) (.tmp 53) 46 (by rfl) 3 (.int .i64 0) 8 Tryz.underlying46 infoI (by rfl) Hn1.out hz1 (Below.refl _ _) ⟨[], ⟨rfl, rfl⟩, by simp [Fresh]⟩ (bb := wo.heap.size) (c := 1) hcx (by rfl) (by rfl) (by rw [Hxl.out]; omega) (by rw [Hxl.out]; omega) ?_
                   intro v2 w2 hn2 _ _ hb2
                   obtain ⟨ya, yn, yc, rfl⟩ := hn2.slice
                   have Hn2 := Lib.hid hn2
                   have Hb2 := Lib.hid (Hb1.out.trans hb2)
                   have hz2 : wo.heap.size ≤ w2.heap.size := Hb2.out.size
                   have hS2 : w2.cell? ⟨rb, ro + I, none⟩ = some (.int .i64 X) := (Hb2.out.cell (p := ⟨rb, ro + I, none⟩) hrbo).trans hS0
                   clear hn2 hb2)
                | (refine step_push (w0 := wo) (lo := wa.heap.size) (OInts.kept _) (by rfl) (.tmp 46) (.tmp 55) 24 (by rfl) 46 (.slice none 0 0) 24 Tryz.underlying24 infoR (by rfl) Hn.out hle (Hb2.out.alloc hz2 _) (New.keep (OInts.kept _) Hn2.out ((Below.refl w2.heap.size _).alloc (Nat.le_refl _) _) (Nat.le_refl _)) (bb := w2.heap.size) (c := 1) (by simp) (by rfl) (by rfl) (by have := Hlk.out; omega) (by have := Hlk.out; omega) ?_
                   intro v3 w3 hn3 _ _ hb3
                   have Hn3 := Lib.hid hn3
                   have Hb3 := Lib.hid hb3
                   have hS3 : w3.cell? ⟨rb, ro + I, none⟩ = some (.int .i64 X) := (Hb3.out.cell (p := ⟨rb, ro + I, none⟩) (by omega)).trans hS0
                   clear hn3 hb3)
                | fail))
            all_goals (
              go_wp2
              go_roundg (n - (k + 1))
              case measure => omega
              case rel => exact ⟨k + 1, by go_num, by omega, by have h := Hn3.out; rw [Hxs.out, Hs.out] at h; exact h, Hb.out.trans Hb3.out⟩)
        · have e : n = k := by omega
          subst e
          clear hk hae1 hpI
          have Hs := Lib.hid (show (splitT m I P n).take n ++ [rowOf' n (splitR m I P n n) ++ [splitR m I P n n I]] = splitT m I P n from by rw [take_snoc' (splitT_at (by omega)), List.take_of_length_le (by rw [splitT_len]; omega)])
          have Ha := Lib.hid ((Apart.of_new (OInts.kept _) Hrest.out hnew hbel hle0).symm)
          have hB : w.heap.size ≤ wo.heap.size := by omega
          obtain ⟨gb', gc', hv', _, _, hgb', hcell, _, _⟩ := Ha.out.right.int_at (show (rowOf' n (splitR m I P n n))[I]? = some (splitR m I P n n I) from rowOf_at hI)
          obtain rfl : gb' = gb := by simp at hv'; exact hv'.1.symm
          have Hal := Lib.hid (Ha.out.keep (OTab.kept _ _) (OInts.kept _) ((Below.refl wo.heap.size wo).alloc (Nat.le_refl _) (.cells #[.int .i64 (splitR m I P n n I)] 3)) (Nat.le_refl _))
          have Hlr := Lib.hid (rowOf_len n (splitR m I P n n))
          obtain ⟨xa, xn, xc, rfl⟩ := hnew.slice
          generalize rowOf' n (splitR m I P n n) = rs at *
          generalize splitR m I P n n I = X at *
          have Hbo := Lib.hid (Hba.out.trans (hbel.mono hle0))
          clear hnew hbel hrule hv' Hn Hb Hrest
          go_wp2_with (first
            | (at_builtin; obtain ⟨v1, w1, hr1, hA1, hb1⟩ := Apart.push2 (P := Tryz.prog) (bb := wo.heap.size) (c := 1) (q := .int .i64 X) (y := X) (OTab.kept _ _) OIntR.kept 46 46 (.int .i64 0) 8 Tryz.underlying46 infoI rfl Hal.out (by simp; omega) (by simp) ⟨rfl, rfl⟩ (by rw [Hlr.out]; omega) (by rw [Hlr.out]; omega); refine wpl_append_run rfl (.tmp 59) (.tmp 64) 46 rfl rfl rfl hr1 ?_; obtain ⟨ya, yn, yc, rfl⟩ := hA1.right.slice; have HA1 := Lib.hid hA1; have Hb1 := Lib.hid hb1; have hz1 := hb1.size; clear hr1 hA1 hb1)
            | (at_builtin; obtain ⟨v2, w2, hr2, hn2, hb2⟩ := Apart.push (P := Tryz.prog) (bb := w1.heap.size) (c := 1) (OInts.kept _) 24 24 (.slice none 0 0) 24 Tryz.underlying24 infoR rfl (HA1.out.keep (OTab.kept _ _) (OInts.kept _) ((Below.refl w1.heap.size w1).alloc (Nat.le_refl _) (.cells #[.slice ya yn yc] 46)) (Nat.le_refl _)) (by simp at hz1 ⊢; omega) (by simp) (by have := Hlk.out; omega) (by have := Hlk.out; omega); refine wpl_append_run rfl (.tmp 58) (.tmp 66) 24 rfl rfl rfl hr2 ?_; have Hn2 := Lib.hid hn2; have Hb2 := Lib.hid hb2; clear hr2 hn2 hb2)
            | fail)
          go_ret
          exact ⟨_, rfl, by rw [← Hs.out]; exact Hn2.out, Hbo.out.trans ((((Below.refl _ _).alloc hB _).trans Hb1.out).trans (((Below.refl _ _).alloc (by simp at hz1; omega) _).trans Hb2.out))⟩
end Go.Proofs.YtlkgkfgpnnahdaaGreat
end
