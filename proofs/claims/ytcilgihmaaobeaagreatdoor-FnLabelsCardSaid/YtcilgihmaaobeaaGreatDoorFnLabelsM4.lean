/-
  Laws for this claim's walks, contracts of the functions that it reaches.
-/
import Derived.Test.YtcilgihmaaobeaaGreatDoorFnLabelsM3
import Derived.Lib.SliceRun
import Derived.Laws.IdiomCopy
import Derived.Laws.DeepStrings4
import Derived.Shelf.Strings.Shaped
set_option linter.unusedVariables false
set_option linter.unusedSimpArgs false
section
namespace Go.Proofs.YtcilgihmaaobeaaGreatDoor
open Go.RowKit Go.Deep Go.Sd

def entOk (x : Int) : Bool := decide (0 ≤ x ∧ x ≤ 1000000)
def rowOk (n : Nat) (r : List Int) : Bool := decide (r.length = n) && r.all entOk
def isMat (m : List (List Int)) : Bool := decide (1 ≤ m.length ∧ m.length ≤ 9) && m.all (rowOk m.length)

theorem rowOk_no {n : Nat} {r : List Int} (h : r.length ≠ n) : rowOk n r = false := by unfold rowOk; simp [h]
theorem rowOk_yes {n : Nat} {r : List Int} (h : r.length = n) : rowOk n r = r.all entOk := by unfold rowOk; simp [h]


set_option maxHeartbeats 800000 in
theorem spec_IsMatrix_c {w : World} {v : Value} {m : List (List Int)} (h : Tab w v m) :
    Calls Tryz.prog 70 #[v] w fun e w' => e = .returned (.bool (isMat m)) ∧ w = w' := by
  have hlen := h.len
  obtain ⟨a, c, rfl, _, _, hcell⟩ := h.shape
  clear h
  have H0 := Lib.hid (show isMat m = (decide (1 ≤ m.length ∧ m.length ≤ 9) && (m.drop 0).all (rowOk m.length)) from rfl)
  go_enter Tryz.func70, Tryz.ntmps70
  go_wp2
  go_loopg [3] (m.length) (fun g i wr => ∃ (k : Nat), i = .int .i64 k ∧ k + g = m.length ∧ Hid (isMat m = (decide (1 ≤ m.length ∧ m.length ≤ 9) && (m.drop k).all (rowOk m.length))) ∧ w = wr)
  case atStart => exact ⟨0, rfl, by omega, H0, rfl⟩
  case round =>
    obtain ⟨k, rfl, hk, H, rfl⟩ := hrel
    by_cases hlt : k < m.length
    · obtain ⟨b, o, rfl, hb, hx0⟩ := hcell (by omega)
      obtain ⟨r, hr, hd⟩ := at_lt hlt
      obtain ⟨u, hu, hru⟩ := hx0 k r hr
      have hrl := hru.len
      obtain ⟨ra, rc, rfl, _, _, hrc⟩ := hru.shape
      have H1 := Lib.hid (show isMat m = (decide (1 ≤ m.length ∧ m.length ≤ 9) && (rowOk m.length r && (m.drop (k + 1)).all (rowOk m.length))) from by rw [H.out, hd]; rfl)
      clear H hr hd hx0 hcell hru H0
      by_cases hl : r.length = m.length
      · have H2 := Lib.hid (show isMat m = (decide (1 ≤ m.length ∧ m.length ≤ 9) && ((r.drop 0).all entOk && (m.drop (k + 1)).all (rowOk m.length))) from by rw [H1.out, rowOk_yes hl]; rfl)
        have t1 : ((r.length : Int) != (m.length : Int)) = false := by simp [hl]
        have Hl := Lib.hid hl
        have hle : m.length ≤ r.length := by omega
        clear H1 hl
        go_wp2
        go_loopg [4] (m.length) (fun g i wr => ∃ (j : Nat), i = .int .i64 j ∧ j + g = m.length ∧ Hid (isMat m = (decide (1 ≤ m.length ∧ m.length ≤ 9) && ((r.drop j).all entOk && (m.drop (k + 1)).all (rowOk m.length)))) ∧ w = wr)
        case atStart => exact ⟨0, rfl, by omega, H2, rfl⟩
        case round =>
          obtain ⟨j, rfl, hj, H, rfl⟩ := hrel
          clear H2
          by_cases hlt2 : j < m.length
          · obtain ⟨b2, o2, rfl, hb2, hx2⟩ := hrc (by omega)
            obtain ⟨x, hx, hdx⟩ := at_lt (xs := r) (k := j) (by omega)
            obtain ⟨u2, hu2, rfl⟩ := hx2 j x hx
            have H1 := Lib.hid (show isMat m = (decide (1 ≤ m.length ∧ m.length ≤ 9) && (entOk x && (r.drop (j + 1)).all entOk && (m.drop (k + 1)).all (rowOk m.length))) from by rw [H.out, hdx]; rfl)
            clear H hx hdx hx2 hrc
            by_cases hx1 : 0 ≤ x ∧ x ≤ 1000000
            · have H3 := Lib.hid (show isMat m = (decide (1 ≤ m.length ∧ m.length ≤ 9) && ((r.drop (j + 1)).all entOk && (m.drop (k + 1)).all (rowOk m.length))) from by rw [H1.out, show entOk x = true from by unfold entOk; simp [hx1]]; rfl)
              have Hc := Lib.hid (l1In_yes w hx1.1 hx1.2)
              clear H1 hx1
              go_wp2_with (go_at_call 57; refine Hc.out.mono ?_; rintro e w' ⟨rfl, rfl⟩)
              go_roundg (m.length - (j + 1))
              case measure => omega
              case rel => exact ⟨j + 1, by go_num, by omega, H3, rfl⟩
            · have H3 := Lib.hid (show isMat m = false from by rw [H1.out, show entOk x = false from by unfold entOk; simp [hx1]]; simp)
              have Hc := Lib.hid (l1In_no (a := x) (b := 0) (c := 1000000) w (by omega))
              clear H1 hx1
              go_wp2_with (go_at_call 57; refine Hc.out.mono ?_; rintro e w' ⟨rfl, rfl⟩)
              go_ret
              exact ⟨by rw [H3.out]; rfl, rfl⟩
          · have H1 := Lib.hid (show isMat m = (decide (1 ≤ m.length ∧ m.length ≤ 9) && (m.drop (k + 1)).all (rowOk m.length)) from by rw [H.out, drop_len (by have := Hl.out; omega)]; rfl)
            clear H
            go_wp2
            go_roundg (m.length - (k + 1))
            case measure => omega
            case rel => exact ⟨k + 1, by go_num, by omega, H1, rfl⟩
      · have H2 := Lib.hid (show isMat m = false from by rw [H1.out, rowOk_no hl]; simp)
        have t1 : ((r.length : Int) != (m.length : Int)) = true := by simp; omega
        clear H1
        go_wp2
        go_ret
        exact ⟨by rw [H2.out]; rfl, rfl⟩
    · have H1 := Lib.hid (show isMat m = (decide (1 ≤ (m.length : Int)) && decide ((m.length : Int) ≤ 9)) from by rw [H.out, drop_len hlt]; simp; by_cases h1 : 1 ≤ m.length <;> by_cases h2 : m.length ≤ 9 <;> simp [h1, h2] <;> omega)
      have Hc := Lib.hid (l1In_c (m.length : Int) 1 9 w)
      clear H
      go_wp2_with (go_at_call 57; refine Hc.out.mono ?_; rintro e w' ⟨rfl, rfl⟩)
      go_ret
      exact ⟨by rw [H1.out]; rfl, rfl⟩
end Go.Proofs.YtcilgihmaaobeaaGreatDoor
end

section
namespace Go.Sd
open Go.RowKit Go.Deep

/-- What a footprint is good for. -/
structure Held {α : Type} (R : OwnRel α) : Prop where
  keep : ∀ w w' v x F, R w v x F → (∀ b, b ∈ F → w'.heap[b]? = w.heap[b]?) → R w' v x F
  lt : ∀ w v x F, R w v x F → ∀ b, b ∈ F → b < w.heap.size
theorem Kept.held {α : Type} {R : OwnRel α} (h : Kept R) : Held R := ⟨h.keep, h.lt⟩

/-- Own memory in the blocks from lo up to hi. -/
def NewIn {α : Type} (R : OwnRel α) (lo hi : Nat) (w : World) (v : Value) (x : α) : Prop := ∃ F, R w v x F ∧ F.Nodup ∧ ∀ b, b ∈ F → lo ≤ b ∧ b < hi

theorem New.inn {α : Type} {R : OwnRel α} (hR : Held R) {lo : Nat} {w : World} {v : Value} {x : α} (h : New R lo w v x) : NewIn R lo w.heap.size w v x := by
  obtain ⟨F, hF, hn, hge⟩ := h
  exact ⟨F, hF, hn, fun b hb => ⟨hge b hb, hR.lt _ _ _ _ hF b hb⟩⟩

theorem NewIn.new {α : Type} {R : OwnRel α} {lo hi : Nat} {w : World} {v : Value} {x : α} (h : NewIn R lo hi w v x) : New R lo w v x := by
  obtain ⟨F, hF, hn, hge⟩ := h
  exact ⟨F, hF, hn, fun b hb => (hge b hb).1⟩

theorem NewIn.keep {α : Type} {R : OwnRel α} (hR : Held R) {lo hi B : Nat} {w w' : World} {v : Value} {x : α} (h : NewIn R lo hi w v x) (hb : Below B w w') (hB : hi ≤ B) : NewIn R lo hi w' v x := by
  obtain ⟨F, hF, hn, hge⟩ := h
  exact ⟨F, hR.keep _ _ _ _ _ hF fun b hb' => hb.block b (by have := hge b hb'; omega), hn, hge⟩

end Go.Sd
namespace Go.Proofs.YtcilgihmaaobeaaGreatDoor
open Go.RowKit Go.Deep Go.Sd

end Go.Proofs.YtcilgihmaaobeaaGreatDoor
end

section
namespace Go.Proofs.YtcilgihmaaobeaaGreatDoor
open Go.RowKit Go.Deep Go.Sd

set_option maxHeartbeats 400000 in
theorem sameInts_c {w : World} {v1 v2 : Value} {xs ys : List Int} (h1 : Ints w v1 xs) (h2 : Ints w v2 ys) :
    Calls Tryz.prog 62 #[v1, v2] w (Reads w (.bool (decide (xs = ys)))) := by
  have hlen1 := h1.len
  have hlen2 := h2.len
  obtain ⟨a1, c1, rfl, _, _, hc1⟩ := h1.shape
  obtain ⟨a2, c2, rfl, _, _, hc2⟩ := h2.shape
  clear h1 h2
  by_cases hl : xs.length = ys.length
  · have H0 := Lib.hid (show decide (xs = ys) = eqLoop (xs.drop 0) (ys.drop 0) from (eqLoop_iff xs ys hl).symm)
    have hl1 : ((ys.length : Int) != ys.length) = false := by simp
    have hl2 := Lib.hid hl
    obtain ⟨n, hn⟩ : ∃ n, n = xs.length := ⟨_, rfl⟩
    rw [← hl, ← hn]
    have hnb : n ≤ 9223372036854775807 := by omega
    have hl3 := Lib.hid hn
    clear hl hn
    go_enter Tryz.func62, Tryz.ntmps62
    go_wp2
    go_loopg [5] n (fun g i wr => ∃ (k : Nat), i = .int .i64 k ∧ k + g = n ∧ Hid (decide (xs = ys) = eqLoop (xs.drop k) (ys.drop k)) ∧ Drawn w wr)
    case atStart => exact ⟨0, rfl, by omega, H0, Drawn.refl _⟩
    case round =>
      obtain ⟨k, rfl, hk, H, hdr⟩ := hrel
      by_cases hlt : k < n
      · obtain ⟨b1, o1, rfl, _, hx1⟩ := hc1 (by have := hl3.out; omega)
        obtain ⟨b2, o2, rfl, _, hx2⟩ := hc2 (by have := hl3.out; have := hl2.out; omega)
        obtain ⟨x, hx, hdx⟩ := at_lt (xs := xs) (k := k) (by have := hl3.out; omega)
        obtain ⟨y, hy, hdy⟩ := at_lt (xs := ys) (k := k) (by have := hl3.out; have := hl2.out; omega)
        obtain ⟨u1, hu1, rfl⟩ := hx1 k x hx
        obtain ⟨u2, hu2, rfl⟩ := hx2 k y hy
        rw [← hdr.cell] at hu1 hu2
        have H1 := Lib.hid (show decide (xs = ys) = if x = y then eqLoop (xs.drop (k + 1)) (ys.drop (k + 1)) else false from by rw [H.out, hdx, hdy]; rfl)
        clear H hx hdx hy hdy hx1 hx2 hc1 hc2 H0
        by_cases hxy : x = y
        · have H2 := Lib.hid (show decide (xs = ys) = eqLoop (xs.drop (k + 1)) (ys.drop (k + 1)) from by rw [H1.out, if_pos hxy])
          have hd : (x != y) = false := by simp [hxy]
          have hi1 : (k : Int) < (n : Int) := by omega
          clear hxy H1
          go_wp2
          go_quiet (fail)
          go_wp2
          go_roundg (n - (k + 1))
          case measure => omega
          case rel => exact ⟨k + 1, by go_num, by omega, H2, hdr.drewN _⟩
        · have H2 := Lib.hid (show decide (xs = ys) = false from by rw [H1.out, if_neg hxy])
          have hd : (x != y) = true := by simp [hxy]
          have hi1 : (k : Int) < (n : Int) := by omega
          clear hxy H1
          go_wp2
          go_quiet (fail)
          go_wp2
          go_ret
          exact ⟨by rw [H2.out]; rfl, hdr.drewN _⟩
      · have H1 := Lib.hid (show decide (xs = ys) = true from by rw [H.out, drop_len (by have := hl3.out; omega)]; rfl)
        clear H
        go_wp2
        go_ret
        exact ⟨by rw [H1.out]; rfl, hdr⟩
  · have H := Lib.hid (show decide (xs = ys) = false from by simp; intro h; exact hl (by rw [h]))
    have hl1 : ((xs.length : Int) != ys.length) = true := by simp; omega
    go_enter Tryz.func62, Tryz.ntmps62
    go_wp2
    go_ret
    exact ⟨by rw [H.out]; rfl, Drawn.refl _⟩
set_option maxHeartbeats 400000 in
theorem sameLists_c {w : World} {v1 v2 : Value} {xs ys : List (List Int)} (h1 : Tab w v1 xs) (h2 : Tab w v2 ys) :
    Calls Tryz.prog 25 #[v1, v2] w (Reads w (.bool (decide (xs = ys)))) := by
  have hlen1 := h1.len
  have hlen2 := h2.len
  obtain ⟨a1, c1, rfl, _, _, hc1⟩ := h1.shape
  obtain ⟨a2, c2, rfl, _, _, hc2⟩ := h2.shape
  clear h1 h2
  by_cases hl : xs.length = ys.length
  · have H0 := Lib.hid (show decide (xs = ys) = eqLoopT (xs.drop 0) (ys.drop 0) from (eqLoopT_iff xs ys hl).symm)
    have hl2 := Lib.hid hl
    obtain ⟨n, hn⟩ : ∃ n, n = xs.length := ⟨_, rfl⟩
    rw [← hl, ← hn]
    have hnb : n ≤ 9223372036854775807 := by omega
    have hl3 := Lib.hid hn
    clear hl hn
    go_enter Tryz.func25, Tryz.ntmps25
    go_wp2
    go_loopg [5] n (fun g i wr => ∃ (k : Nat), i = .int .i64 k ∧ k + g = n ∧ Hid (decide (xs = ys) = eqLoopT (xs.drop k) (ys.drop k)) ∧ Drawn w wr)
    case atStart => exact ⟨0, rfl, by omega, H0, Drawn.refl _⟩
    case round =>
      obtain ⟨k, rfl, hk, H, hdr⟩ := hrel
      by_cases hlt : k < n
      · obtain ⟨b1, o1, rfl, _, hx1⟩ := hc1 (by have := hl3.out; omega)
        obtain ⟨b2, o2, rfl, _, hx2⟩ := hc2 (by have := hl3.out; have := hl2.out; omega)
        obtain ⟨x, hx, hdx⟩ := at_lt (xs := xs) (k := k) (by have := hl3.out; omega)
        obtain ⟨y, hy, hdy⟩ := at_lt (xs := ys) (k := k) (by have := hl3.out; have := hl2.out; omega)
        obtain ⟨u1, hu1, hr1⟩ := hx1 k x hx
        obtain ⟨u2, hu2, hr2⟩ := hx2 k y hy
        rw [← hdr.cell] at hu1 hu2
        have H1 := Lib.hid (show decide (xs = ys) = if x = y then eqLoopT (xs.drop (k + 1)) (ys.drop (k + 1)) else false from by rw [H.out, hdx, hdy]; rfl)
        have hi1 : (k : Int) < (n : Int) := by omega
        have Hc := Lib.hid (fun n => Reads.quiet (sameInts_c ((hdr.read Ints.frame hr1).dn n) ((hdr.read Ints.frame hr2).dn n)))
        clear H hx hdx hy hdy hx1 hx2 hc1 hc2 H0 hr1 hr2
        by_cases hxy : x = y
        · have H2 := Lib.hid (show decide (xs = ys) = eqLoopT (xs.drop (k + 1)) (ys.drop (k + 1)) from by rw [H1.out, if_pos hxy])
          have hd : decide (x = y) = true := by simp [hxy]
          rw [hd] at Hc
          clear hxy H1 hd
          go_wp2
          go_quiet ((go_at_call 62; exact Hc.out _))
          go_wp2
          go_roundg (n - (k + 1))
          case measure => omega
          case rel => exact ⟨k + 1, by go_num, by omega, H2, hdr.drewN _⟩
        · have H2 := Lib.hid (show decide (xs = ys) = false from by rw [H1.out, if_neg hxy])
          have hd : decide (x = y) = false := by simp [hxy]
          rw [hd] at Hc
          clear hxy H1 hd
          go_wp2
          go_quiet ((go_at_call 62; exact Hc.out _))
          go_wp2
          go_ret
          exact ⟨by rw [H2.out]; rfl, hdr.drewN _⟩
      · have H1 := Lib.hid (show decide (xs = ys) = true from by rw [H.out, drop_len (by have := hl3.out; omega)]; rfl)
        clear H
        go_wp2
        go_ret
        exact ⟨by rw [H1.out]; rfl, hdr⟩
  · have H := Lib.hid (show decide (xs = ys) = false from by simp; intro h; exact hl (by rw [h]))
    have hl1 : ((xs.length : Int) != ys.length) = true := by simp; omega
    go_enter Tryz.func25, Tryz.ntmps25
    go_wp2
    go_ret
    exact ⟨by rw [H.out]; rfl, Drawn.refl _⟩

end Go.Proofs.YtcilgihmaaobeaaGreatDoor
end

section
namespace Go.Sd
open Go.RowKit Go.Deep

section
variable {P : Program} {α β : Type} {R : OwnRel α} {S : OwnRel β} {lo : Nat} {w : World} {v u : Value} {e : TypeId}
end

/-- 'make([]T, n)' whose world is hidden. -/
theorem wpl_make {P : Program} {α : Type} {R : OwnRel α} {w : World} {ops : Array Oper} {rest : List Oper} {o : Oper} {a : Act} {Q : Exit → Act → World → Prop}
    (hg : o.guard = none) (l c : Operand) (t : TypeId) (hop : o.op = Op.makeSlice t l c)
    (e : TypeId) (z : Value) (bytes : Nat) (ht : P.underlying t = some (.slice e)) (hinfo : (P.info? e).map (fun i => (i.zero, i.size, i.bytes)) = some (some z, 1, bytes)) (hz1 : z.cells = #[z])
    (n : Nat) (hl : a.eval l = .int .i64 (n : Int)) (hc : a.eval c = .int .i64 (n : Int)) (hbytes : bytes * n ≤ 281474976710656) (h63 : n ≤ 9223372036854775807) {d : α} (hd : ∀ w, R w z d [])
    (hK : ∀ w', w'.heap.size = w.heap.size + 1 → New (OwnOf e R) w.heap.size w' (.slice (some ⟨w.heap.size, 0, none⟩) n n) (List.replicate n d) → Below w.heap.size w w' → wpList P ops Q rest (a.put o.dst (.slice (some ⟨w.heap.size, 0, none⟩) n n)) w') :
    wpList P ops Q (o :: rest) a w := by
  obtain ⟨i, hi, hzz⟩ := Option.map_eq_some_iff.1 hinfo
  simp only [Prod.mk.injEq] at hzz
  obtain ⟨hz, hs, hb⟩ := hzz
  refine wpList_make_row w hg l c t hop e i z ht hi hz hs hz1 .i64 .i64 n hl hc (by rw [hb]; exact hbytes) h63 ?_
  exact hK _ (by simp) (New.made e w z d n (Nat.le_refl _) h63 hd) ((Below.refl _ _).alloc (Nat.le_refl _) _)

end Go.Sd
end

section
namespace Go.Proofs.YtcilgihmaaobeaaGreatDoor
open Go.RowKit Go.Deep Go.Sd

theorem replicate_snoc {α : Type} (k : Nat) (x : α) : List.replicate k x ++ [x] = List.replicate (k + 1) x := by
  rw [List.replicate_succ']

set_option maxHeartbeats 400000 in
theorem l4Zero_c {w : World} {p r : Nat} (hp : p ≤ 1048576) (hr : r ≤ 1048576) :
    Calls Tryz.prog 54 #[.int .i64 p, .int .i64 r] w (Makes (OTab 3 61) w (List.replicate p (List.replicate r 0))) := by
  have hmk := run_make_row' (P := Tryz.prog) 61 3 (.int .i64 0) 8 Tryz.underlying61 infoI rfl .i64 .i64 r (by omega) (by omega)
  go_enter Tryz.func54, Tryz.ntmps54
  go_wp2
  go_loopg [5, 6] p (fun g v i wr => ∃ (k : Nat), i = .int .i64 k ∧ k + g = p ∧ New (OTab 3 61) w.heap.size wr v (List.replicate k (List.replicate r 0)) ∧ Below w.heap.size w wr)
  case atStart => exact ⟨0, rfl, by omega, New.empty w (Nat.le_refl _), (Below.refl _ _).alloc (Nat.le_refl _) _⟩
  case round =>
    obtain ⟨k, rfl, hk, hnew, hbel⟩ := hrel
    by_cases hlt : k < p
    · have hle := hbel.size
      have Hn := Lib.hid hnew
      have Hb := Lib.hid hbel
      have Hr := Lib.hid (show New (OInts 3) wr.heap.size ((wr.alloc (.cells (madeCells #[.int .i64 0] r) 3)).alloc (.cells #[.slice (some ⟨wr.heap.size, 0, none⟩) r r] 61)) (.slice (some ⟨wr.heap.size, 0, none⟩) r r) (List.replicate r 0) from
        New.keep (OInts.kept _) (New.made 3 wr (.int .i64 0) 0 r (Nat.le_refl _) (by omega) OIntR.zero) ((Below.refl _ _).alloc (Nat.le_refl _) _) (Nat.le_refl _))
      clear hnew hbel
      go_wp2_with (at_builtin; refine wpl_push (w0 := wr) (lo := w.heap.size) (OInts.kept _) rfl (.tmp 13) (.tmp 16) 42 rfl 61 (.slice none 0 0) 24 Tryz.underlying42 infoR rfl Hn.out hle (((Below.refl _ _).alloc (Nat.le_refl _) _).alloc (by simp) _) Hr.out (bb := wr.heap.size + 1) (c := 1) (by simp) rfl rfl (by simp; omega) (by simp; omega) ?_; intro v1 w1 hn1 _ _ hb1)
      go_roundg (p - (k + 1))
      case measure => omega
      case rel => exact ⟨k + 1, by go_num, by omega, by rw [← replicate_snoc]; exact hn1, Hb.out.trans hb1⟩
    · have e : k = p := by omega
      subst e
      clear hmk
      go_wp2
      go_ret
      exact ⟨_, rfl, hnew, hbel⟩
set_option maxHeartbeats 400000 in
theorem zeros_c {w : World} {p : Nat} (hp : p ≤ 1048576) :
    Calls Tryz.prog 53 #[.int .i64 p] w (Makes (OTab 3 61) w (List.replicate p (List.replicate p 0))) := by
  have hmk := run_make_row' (P := Tryz.prog) 61 3 (.int .i64 0) 8 Tryz.underlying61 infoI rfl .i64 .i64 p (by omega) (by omega)
  go_enter Tryz.func53, Tryz.ntmps53
  go_wp2
  go_loopg [3, 6] p (fun g v i wr => ∃ (k : Nat), i = .int .i64 k ∧ k + g = p ∧ New (OTab 3 61) w.heap.size wr v (List.replicate k (List.replicate p 0)) ∧ Below w.heap.size w wr)
  case atStart => exact ⟨0, rfl, by omega, New.empty w (Nat.le_refl _), (Below.refl _ _).alloc (Nat.le_refl _) _⟩
  case round =>
    obtain ⟨k, rfl, hk, hnew, hbel⟩ := hrel
    by_cases hlt : k < p
    · have hle := hbel.size
      have Hn := Lib.hid hnew
      have Hb := Lib.hid hbel
      have Hr := Lib.hid (show New (OInts 3) wr.heap.size ((wr.alloc (.cells (madeCells #[.int .i64 0] p) 3)).alloc (.cells #[.slice (some ⟨wr.heap.size, 0, none⟩) p p] 61)) (.slice (some ⟨wr.heap.size, 0, none⟩) p p) (List.replicate p 0) from
        New.keep (OInts.kept _) (New.made 3 wr (.int .i64 0) 0 p (Nat.le_refl _) (by omega) OIntR.zero) ((Below.refl _ _).alloc (Nat.le_refl _) _) (Nat.le_refl _))
      clear hnew hbel
      go_wp2_with (at_builtin; refine wpl_push (w0 := wr) (lo := w.heap.size) (OInts.kept _) rfl (.tmp 8) (.tmp 11) 42 rfl 61 (.slice none 0 0) 24 Tryz.underlying42 infoR rfl Hn.out hle (((Below.refl _ _).alloc (Nat.le_refl _) _).alloc (by simp) _) Hr.out (bb := wr.heap.size + 1) (c := 1) (by simp) rfl rfl (by simp; omega) (by simp; omega) ?_; intro v1 w1 hn1 _ _ hb1)
      go_roundg (p - (k + 1))
      case measure => omega
      case rel => exact ⟨k + 1, by go_num, by omega, by rw [← replicate_snoc]; exact hn1, Hb.out.trans hb1⟩
    · have e : k = p := by omega
      subst e
      clear hmk
      go_wp2
      go_ret
      exact ⟨_, rfl, hnew, hbel⟩
end Go.Proofs.YtcilgihmaaobeaaGreatDoor
end

section
namespace Go.Sd
open Go.RowKit Go.Deep
/-- A row's value, the row, its blocks. -/
abbrev Row3 := Value × List Int × List Nat
/-- The rows that are kept. -/
def kept (row : List Int) (ts : List Row3) : List Row3 := ts.filter (fun t => keepI row t.2.1)
end Go.Sd
namespace Go.Proofs.YtcilgihmaaobeaaGreatDoor
open Go.RowKit Go.Deep Go.Sd

end Go.Proofs.YtcilgihmaaobeaaGreatDoor
end

section
namespace Go.Proofs.YtcilgihmaaobeaaGreatDoor
open Go.RowKit Go.Deep Go.Sd
set_option linter.unusedSimpArgs false
set_option maxHeartbeats 1000000 in
set_option maxRecDepth 100000 in
theorem OccursIn_c {w : World} (s f : ByteArray) (hs : s.size ≤ 1000) (hf : f.size ≤ 1048576) :
    Calls Tryz.prog 97 #[.string s, .string f] w fun e w' => e = .returned (.bool (occB s f)) ∧ w = w' := by
  have HT := Lib.hid (fun i (h : occI s f i) => (occB_iff s f).2 ⟨i, h⟩)
  have HF := Lib.hid (fun (h : ∀ i, ¬ occI s f i) => occB_no h)
  generalize occB s f = T at HT HF ⊢
  go_enter Tryz.func97, Tryz.ntmps97
  go_wp2
  go_loopg [5] (s.size + 1) (fun g i wr => ∃ (j : Nat), i = .int .i64 j ∧ j + g = s.size + 1 ∧ Hid (∀ k, k < j → ¬ occI s f k) ∧ w = wr)
  case atStart => exact ⟨0, rfl, by omega, Lib.hid (fun k hk => absurd hk (Nat.not_lt_zero _)), rfl⟩
  case round =>
    obtain ⟨j, rfl, hj, HK, rfl⟩ := hrel
    by_cases h1 : j + f.size ≤ s.size
    · have h1i : (j : Int) + (f.size : Int) ≤ (s.size : Int) := by omega
      obtain ⟨g, rfl⟩ : ∃ x, gk = x + 1 := ⟨gk - 1, by omega⟩
      have hj1 : (0 : Int) ≤ (j : Int) := by omega
      have hj2 : (j : Int) ≤ (j : Int) + (f.size : Int) := by omega
      have hj3 : (0 : Int) ≤ (j : Int) + (f.size : Int) := by omega
      have hjn : ((j : Int) + (f.size : Int)).toNat = j + f.size := by omega
      by_cases h2 : s.extract j (j + f.size) = f
      · have hd : ((s.extract j (j + f.size)).toList == f.toList) = true := by rw [h2]; simp
        have hT := Lib.hid (HT.out j ⟨h1, h2⟩)
        go_wp2
        go_ret
        exact ⟨by rw [hT.out]; rfl, rfl⟩
      · have hK2 := Lib.hid (show ∀ k, k < j + 1 → ¬ occI s f k from fun k hk => by
          by_cases e : k = j
          · rw [e]; exact fun h => h2 h.2
          · exact HK.out k (by omega))
        have hd : ((s.extract j (j + f.size)).toList == f.toList) = false := by
          rw [beq_eq_false_iff_ne]
          exact fun e => h2 (bytes_ext e)
        clear HK
        go_wp2
        go_roundg g
        case measure => omega
        case rel => exact ⟨j + 1, by go_num, by omega, hK2, rfl⟩
    · have h1i : ¬ (j : Int) + (f.size : Int) ≤ (s.size : Int) := by omega
      have hT := Lib.hid (HF.out fun i h => by
        by_cases e : i < j
        · exact HK.out i e h
        · exact h1 (by have := h.1; omega))
      clear HK
      go_wp2
      go_ret
      exact ⟨by rw [hT.out]; rfl, rfl⟩
set_option maxHeartbeats 1000000 in
theorem l3Avoids_c {w : World} {v : Value} {F : List ByteArray} {s : ByteArray} (h : TsR w v F) (hs : s.size ≤ 1000) (hf : ∀ f, f ∈ F → f.size ≤ 1048576) :
    Calls Tryz.prog 87 #[v, .string s] w fun e w' => e = .returned (.bool (avoM F s)) ∧ w = w' := by
  have hlen := h.len
  obtain ⟨a, c, rfl, -, -, hcell⟩ := h.shape
  have HT := Lib.hid (fun (h : ∀ (k : Nat) (f : ByteArray), F[k]? = some f → occB s f = false) => (show avoM F s = true from List.all_eq_true.2 fun f hf => by
    obtain ⟨k, hk⟩ := List.getElem?_of_mem hf
    rw [h k f hk]; rfl))
  have HF := Lib.hid (fun k f (h : F[k]? = some f) (h2 : occB s f = true) => (show avoM F s = false from by
    unfold avoM
    rw [List.all_eq_false]
    exact ⟨f, List.mem_of_getElem? h, by rw [h2]; decide⟩))
  have HC := Lib.hid (fun k f (h : F[k]? = some f) => OccursIn_c (w := w) s f hs (hf f (List.mem_of_getElem? h)))
  generalize avoM F s = T at HT HF ⊢
  obtain ⟨n, hn⟩ : ∃ n, n = F.length := ⟨_, rfl⟩
  have Hn := Lib.hid hn
  rw [← hn] at hcell hlen ⊢
  clear h hf hn
  have Hcell := Lib.hid hcell
  clear hcell
  go_enter Tryz.func87, Tryz.ntmps87
  go_wp2
  go_loopg [5] n (fun g i wr => ∃ (j : Nat), i = .int .i64 j ∧ j + g = n ∧ Hid (∀ k f, k < j → F[k]? = some f → occB s f = false) ∧ w = wr)
  case atStart => exact ⟨0, rfl, by omega, Lib.hid (fun k f hk => absurd hk (Nat.not_lt_zero _)), rfl⟩
  case round =>
    obtain ⟨j, rfl, hj, HK, rfl⟩ := hrel
    by_cases h1 : j < n
    · have h1i : (j : Int) < (n : Int) := by omega
      obtain ⟨g, rfl⟩ : ∃ x, gk = x + 1 := ⟨gk - 1, by omega⟩
      obtain ⟨b, o, rfl, -, hx⟩ := Hcell.out (by omega)
      obtain ⟨f, hf, -⟩ := at_lt (xs := F) (k := j) (by rw [← Hn.out]; exact h1)
      obtain ⟨u, hu, hu2⟩ := hx j f hf
      have hu2' : u = .string f := hu2
      subst hu2'
      have HC1 := Lib.hid (HC.out j f hf)
      cases ho : occB s f with
      | true =>
        have hT := Lib.hid (HF.out j f hf ho)
        rw [ho] at HC1
        clear hx hf hu2 ho
        go_wp2_with fail
        (with_reducible refine HC1.out.mono ?_)
        rintro e w9 ⟨rfl, hw9⟩
        rw [← hw9]
        clear hw9 w9
        go_wp2
        go_ret
        exact ⟨by rw [hT.out]; rfl, rfl⟩
      | false =>
        have hK2 := Lib.hid (show ∀ k f, k < j + 1 → F[k]? = some f → occB s f = false from fun k f' hk hf' => by
          by_cases e : k = j
          · rw [e, hf] at hf'
            cases hf'
            exact ho
          · exact HK.out k f' (by omega) hf')
        rw [ho] at HC1
        clear hx hf hu2 ho HK
        go_wp2_with fail
        (with_reducible refine HC1.out.mono ?_)
        rintro e w9 ⟨rfl, hw9⟩
        rw [← hw9]
        clear hw9 w9
        go_wp2
        go_roundg g
        case measure => omega
        case rel => exact ⟨j + 1, by go_num, by omega, hK2, rfl⟩
    · have h1i : ¬ (j : Int) < (n : Int) := by omega
      have hT := Lib.hid (HT.out fun k f hk => HK.out k f (by have := (List.getElem?_eq_some_iff.1 hk).1; rw [← Hn.out] at this; omega) hk)
      clear HK
      go_wp2
      go_ret
      exact ⟨by rw [hT.out]; rfl, rfl⟩
set_option maxHeartbeats 1000000 in
theorem l2HasText_c {w : World} {v : Value} {F : List ByteArray} {s : ByteArray} (h : TsR w v F) :
    Calls Tryz.prog 96 #[v, .string s] w fun e w' => e = .returned (.bool (hasB F s)) ∧ w = w' := by
  have hlen := h.len
  obtain ⟨a, c, rfl, -, -, hcell⟩ := h.shape
  have HT := Lib.hid (fun (h : ∀ (k : Nat) (f : ByteArray), F[k]? = some f → f ≠ s) => (show hasB F s = false from hasB_no h))
  have HF := Lib.hid (fun k (h : F[k]? = some s) => (show hasB F s = true from hasB_yes (List.mem_of_getElem? h)))
  generalize hasB F s = T at HT HF ⊢
  obtain ⟨n, hn⟩ : ∃ n, n = F.length := ⟨_, rfl⟩
  have Hn := Lib.hid hn
  rw [← hn] at hcell hlen ⊢
  clear h hn
  have Hcell := Lib.hid hcell
  clear hcell
  go_enter Tryz.func96, Tryz.ntmps96
  go_wp2
  go_loopg [5] n (fun g i wr => ∃ (j : Nat), i = .int .i64 j ∧ j + g = n ∧ Hid (∀ k f, k < j → F[k]? = some f → f ≠ s) ∧ w = wr)
  case atStart => exact ⟨0, rfl, by omega, Lib.hid (fun k f hk => absurd hk (Nat.not_lt_zero _)), rfl⟩
  case round =>
    obtain ⟨j, rfl, hj, HK, rfl⟩ := hrel
    by_cases h1 : j < n
    · have h1i : (j : Int) < (n : Int) := by omega
      obtain ⟨g, rfl⟩ : ∃ x, gk = x + 1 := ⟨gk - 1, by omega⟩
      obtain ⟨b, o, rfl, -, hx⟩ := Hcell.out (by omega)
      obtain ⟨f, hf, -⟩ := at_lt (xs := F) (k := j) (by rw [← Hn.out]; exact h1)
      obtain ⟨u, hu, hu2⟩ := hx j f hf
      have hu2' : u = .string f := hu2
      subst hu2'
      by_cases ho : f = s
      · subst ho
        have hT := Lib.hid (HF.out j hf)
        have hd : (f.toList == f.toList) = true := by simp
        clear hx hf hu2
        go_wp2
        go_ret
        exact ⟨by rw [hT.out]; rfl, rfl⟩
      · have hK2 := Lib.hid (show ∀ k f, k < j + 1 → F[k]? = some f → f ≠ s from fun k f' hk hf' => by
          by_cases e : k = j
          · rw [e, hf] at hf'
            cases hf'
            exact ho
          · exact HK.out k f' (by omega) hf')
        have hd : (f.toList == s.toList) = false := by
          rw [beq_eq_false_iff_ne]
          exact fun e => ho (bytes_ext e)
        clear hx hf hu2 HK
        go_wp2
        go_roundg g
        case measure => omega
        case rel => exact ⟨j + 1, by go_num, by omega, hK2, rfl⟩
    · have h1i : ¬ (j : Int) < (n : Int) := by omega
      have hT := Lib.hid (HT.out fun k f hk => HK.out k f (by have := (List.getElem?_eq_some_iff.1 hk).1; rw [← Hn.out] at this; omega) hk)
      clear HK
      go_wp2
      go_ret
      exact ⟨by rw [hT.out]; rfl, rfl⟩
end Go.Proofs.YtcilgihmaaobeaaGreatDoor
end

section
namespace Go.Proofs.YtcilgihmaaobeaaGreatDoor
open Go.RowKit Go.Deep Go.Sd
section
variable {P : Program} {ops : Array Oper} {Q : Exit → Act → World → Prop} {md : Region.Mode} {S : World → Prop}
/-- One of two may come up. -/
theorem wpAnyL_two (i j : Nat) {oi oj : Oper} {fuel : Nat} {listed : Array Bool} {a : Act} {w : World} (hr : Region.ready md ops listed = [i, j]) (hoi : ops[i]? = some oi) (hoj : ops[j]? = some oj)
    (h : ∀ K' : Act → World → Prop, Shut (∀ a w, (Rem (listed.setIfInBounds i true) → S w) → Go.Sd.wpAnyL P md ops Q S fuel (listed.setIfInBounds i true) a w → K' a w) → if Region.wanted oi (yielded ops a.tmps) = true then Oper.wp P oi a w K' Q else K' (a.put oi.dst undef) w)
    (g : ∀ K' : Act → World → Prop, Shut (∀ a w, (Rem (listed.setIfInBounds j true) → S w) → Go.Sd.wpAnyL P md ops Q S fuel (listed.setIfInBounds j true) a w → K' a w) → if Region.wanted oj (yielded ops a.tmps) = true then Oper.wp P oj a w K' Q else K' (a.put oj.dst undef) w) :
    Go.Sd.wpAnyL P md ops Q S (fuel + 1) listed a w :=
  ⟨fun h0 => (by rw [hr] at h0; cases h0), fun k hk => by
    rw [hr] at hk
    rcases List.mem_cons.1 hk with e | hk
    · subst e
      exact wpOp_step hoi fun K' hK => h K' fun a w hS hW => hK a w ⟨hS, hW⟩
    · obtain rfl := List.mem_singleton.1 hk
      exact wpOp_step hoj fun K' hK => g K' fun a w hS hW => hK a w ⟨hS, hW⟩⟩
end
end Go.Proofs.YtcilgihmaaobeaaGreatDoor
end

section
namespace Go.Proofs.YtcilgihmaaobeaaGreatDoor
open Go.RowKit Go.Deep Go.Sd Go.Shelf
shelf_lay LaysM.n144 Nm 144 at Tryz as Tryz.lays144
/-- internal/bytealg's MaxLen holds a number. -/
def MaxOk (w : World) : Prop := 0 < w.heap.size ∧ ∃ m, w.cell? ⟨0, 0, none⟩ = some (.int .i64 m)
theorem MaxOk.below {w w' : World} (h : MaxOk w) (hb : Below w.heap.size w w') : MaxOk w' := by
  obtain ⟨h1, m, hm⟩ := h
  exact ⟨Nat.lt_of_lt_of_le h1 hb.size, m, (hb.cell (p := ⟨0, 0, none⟩) h1).trans hm⟩
theorem Contains_c {w : World} (h : MaxOk w) (s f : ByteArray) (hs : s.size ≤ 1000) : Calls Tryz.prog 102 #[.string s, .string f] w fun e w' => e = .returned (.bool (occB s f)) ∧ w = w' := by
  obtain ⟨-, m, hm⟩ := h
  have := Any.strings_Contains { Tryz.lays144 with } s f m w (by omega) hm
  exact this.mono fun e w' h => ⟨h.1, h.2.symm⟩
end Go.Proofs.YtcilgihmaaobeaaGreatDoor
end

section
namespace Go.Sd
open Go.RowKit Go.Deep

theorem boxA_ex (w : World) (ty : TypeId) (v1 v2 : Value) : ∃ w', w.alloc (.cells #[v1, v2] ty) = w' ∧ Below w.heap.size w w' ∧ w'.cell? ⟨w.heap.size, 0, none⟩ = some v1 ∧ w'.cell? ⟨w.heap.size, 1, none⟩ = some v2 ∧ w.heap.size < w'.heap.size :=
  ⟨_, rfl, (Below.refl w.heap.size w).alloc (Nat.le_refl _) _, by simp, by simp, by simp⟩
end Go.Sd
end
