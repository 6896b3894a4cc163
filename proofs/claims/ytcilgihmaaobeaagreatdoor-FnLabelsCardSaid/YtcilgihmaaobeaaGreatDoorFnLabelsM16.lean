/-
  Laws for this claim's walks, contracts of the functions that it reaches.
-/
import Derived.Test.YtcilgihmaaobeaaGreatDoorFnLabelsM12
set_option linter.unusedVariables false
set_option linter.unusedSimpArgs false
section
namespace Go.Proofs.YtcilgihmaaobeaaGreatDoor
open Go.RowKit Go.Deep Go.Sd
set_option linter.unusedSimpArgs false
/-- Where an arc belongs among the first m of some. -/
def posA (x : Arc3) (out : List Arc3) : Nat → Nat
  | 0 => 0
  | m + 1 => if before x (at3 out m) = true then posA x out m else m + 1
def insA (out : List Arc3) (x : Arc3) : List Arc3 :=
  if 0 < posA x out out.length ∧ at3 out (posA x out out.length - 1) = x then out else out.take (posA x out out.length) ++ [x] ++ out.drop (posA x out out.length)
def sortM (xs : List Arc3) : List Arc3 := xs.foldl insA []
theorem posA_le (x : Arc3) (out : List Arc3) : ∀ m, posA x out m ≤ m
  | 0 => Nat.le_refl _
  | m + 1 => by
    unfold posA
    split
    · exact Nat.le_succ_of_le (posA_le x out m)
    · exact Nat.le_refl _
theorem insA_len (out : List Arc3) (x : Arc3) : (insA out x).length ≤ out.length + 1 := by
  have := posA_le x out out.length
  unfold insA
  split
  · omega
  · simp
    omega
theorem sortM_len (xs : List Arc3) : (sortM xs).length ≤ xs.length := by
  have key : ∀ (xs out : List Arc3), (xs.foldl insA out).length ≤ out.length + xs.length := by
    intro xs
    induction xs with
    | nil => intro out; simp
    | cons x xs ih =>
      intro out
      have h1 := ih (insA out x)
      have h2 := insA_len out x
      simp only [List.foldl_cons, List.length_cons]
      omega
  have := key xs []
  simpa [sortM] using this
theorem sortM_take {xs : List Arc3} {k : Nat} {x : Arc3} (h : xs[k]? = some x) : sortM (xs.take (k + 1)) = insA (sortM (xs.take k)) x := by
  unfold sortM
  rw [← take_snoc' h, List.foldl_append]
  rfl
/-- What is in order already stays. -/
theorem sortM_id : ∀ (n : Nat) {xs : List Arc3}, xs.length = n → (xs.Pairwise fun a b => before b a = false ∧ a ≠ b) → sortM xs = xs
  | 0, xs, h, _ => by rw [List.length_eq_zero_iff] at h; subst h; rfl
  | n + 1, xs, h, hs => by
    rcases List.eq_nil_or_concat xs with e | ⟨u, x, e⟩
    · subst e; cases h
    · rw [List.concat_eq_append] at e
      subst e
      rw [List.pairwise_append] at hs
      have ih := sortM_id n (by simpa using h) hs.1
      unfold sortM at ih ⊢
      rw [List.foldl_append, ih]
      show insA u x = u ++ [x]
      have hp : posA x u u.length = u.length := by
        cases hu : u.length with
        | zero => rfl
        | succ m =>
          unfold posA
          have hm : m < u.length := by omega
          rw [at3_of (List.getElem?_eq_getElem hm), if_neg (by rw [(hs.2.2 _ (List.getElem_mem hm) x (by simp)).1]; decide)]
      unfold insA
      rw [hp, if_neg]
      · simp
      · rintro ⟨h0, h1⟩
        have hm : u.length - 1 < u.length := by omega
        rw [at3_of (List.getElem?_eq_getElem hm)] at h1
        exact (hs.2.2 _ (List.getElem_mem hm) x (by simp)).2 h1
theorem New.emptyRow {α : Type} {sz : Nat} {f : α → List Value} (e : TypeId) (w : World) : New (RowG e sz f) w.heap.size (w.alloc (.cells #[] e)) (.slice (some ⟨w.heap.size, 0, none⟩) 0 0) [] :=
  ⟨[w.heap.size], ⟨⟨by simp, .inr ⟨w.heap.size, 0, #[], rfl, Nat.zero_le _, heap_alloc_new w _, Nat.le_refl _, by decide, by simp, by simp⟩⟩, rfl⟩, by simp [Fresh]⟩
/-- The end of a slice of arcs. -/
theorem tail_slice {b m c p : Nat} (hp : p ≤ m) (w : World) : (Instr.slice 24 (.slice (some ⟨b, 0, none⟩) m c) (some (.int .i64 (p : Int))) none none).run Tryz.prog w = .ok (.slice (some (if c = p then ⟨b, 0, none⟩ else ⟨b, p * 3, none⟩)) (m - p) (c - p)) w := by
  have h0 : (0 : Int) ≤ (p : Int) := by omega
  have h1 : (p : Int) ≤ (m : Int) := by omega
  by_cases e : c = p
  · rw [if_pos e]
    simp [go_sem, h0, h1, e]
  · rw [if_neg e]
    simp [go_sem, h0, h1, e]
theorem head_slice {b m c p : Nat} (hp : p ≤ c) (w : World) : (Instr.slice 24 (.slice (some ⟨b, 0, none⟩) m c) none (some (.int .i64 (p : Int))) none).run Tryz.prog w = .ok (.slice (some ⟨b, 0, none⟩) p c) w := by
  have h0 : (0 : Int) ≤ (p : Int) := by omega
  have h1 : (p : Int) ≤ (c : Int) := by omega
  by_cases e : c = 0
  · subst e
    obtain rfl : p = 0 := by omega
    simp [go_sem]
  · simp [go_sem, h0, h1, e]
theorem row_cap {lo : Nat} {w : World} {b m c : Nat} {xs : List Arc3} {rs : List Res} (h : Sep lo w (Res.row 68 3 acell (.slice (some ⟨b, 0, none⟩) m c) xs :: rs)) : xs.length ≤ c := by
  by_cases h0 : 0 < xs.length
  · obtain ⟨G, hG, -, -⟩ := h.head
    obtain ⟨g, c', hv, -, hc, -⟩ := RowG.at acell_lay hG h0
    simp at hv
    omega
  · omega
theorem tail_rd {lo : Nat} {w : World} {b m c p : Nat} {xs : List Arc3} {rs : List Res} (h : Sep lo w (Res.row 68 3 acell (.slice (some ⟨b, 0, none⟩) m c) xs :: rs)) (hm : xs.length = m) (hp : p ≤ m) : RowRd acell w (.slice (some (if c = p then ⟨b, 0, none⟩ else ⟨b, p * 3, none⟩)) (m - p) (c - p)) (xs.drop p) := by
  subst hm
  by_cases e : c = p
  · rw [if_pos e]
    have hmc : xs.length ≤ c := by
      by_cases h0 : 0 < xs.length
      · obtain ⟨G, hG, -, -⟩ := h.head
        obtain ⟨g, c', hv, -, hc, -⟩ := RowG.at acell_lay hG h0
        simp at hv
        omega
      · omega
    have hd : xs.drop p = [] := List.drop_eq_nil_of_le (by omega)
    rw [hd]
    refine ⟨_, _, by rw [show xs.length - p = ([] : List Arc3).length by simp; omega], (fun h => by cases h), fun ad _ j u hu => by simp at hu⟩
  · rw [if_neg e]
    exact h.dropRd acell_lay hp _
set_option maxHeartbeats 8000000 in
set_option maxRecDepth 100000 in
theorem l14Sort_c {w : World} {v : Value} {xs : List Arc3} (h : ArcsR w v xs) (hl : xs.length ≤ 1048576) :
    Calls Tryz.prog 52 #[v] w (Makes (RowA 68) w (sortM xs)) := by
  obtain ⟨-, va, vc, rfl, -, -, -, hcell⟩ := h
  have Hcell := Lib.hid hcell
  obtain ⟨n, hn⟩ : ∃ n, n = xs.length := ⟨_, rfl⟩
  have Hn := Lib.hid hn
  rw [← hn] at Hcell hl ⊢
  have HS0 := Lib.hid (show Sep w.heap.size (w.alloc (.cells #[] 68)) [Res.row 68 3 acell (.slice (some ⟨w.heap.size, 0, none⟩) 0 0) []] from by
    exact Sep.one RowG.held (New.emptyRow 68 w))
  obtain ⟨w1, e1⟩ : ∃ x, x = w.alloc (.cells #[] 68) := ⟨_, rfl⟩
  rw [← e1] at HS0
  have HB0 := Lib.hid (show Below w.heap.size w w1 from by rw [e1]; exact (Below.refl _ _).alloc (Nat.le_refl _) _)
  have e1s := e1.symm
  clear hcell hn e1
  go_enter Tryz.func52, Tryz.ntmps52
  go_wp2
  clear e1s
  go_loopg [3, 4] n (fun g ov i wr => ∃ (k b c : Nat), ov = .slice (some ⟨b, 0, none⟩) (sortM (xs.take k)).length c ∧ i = .int .i64 k ∧ k + g = n ∧ Hid (Sep w.heap.size wr [Res.row 68 3 acell (.slice (some ⟨b, 0, none⟩) (sortM (xs.take k)).length c) (sortM (xs.take k))]) ∧ Hid (Below w.heap.size w wr))
  case atStart => exact ⟨0, _, _, rfl, rfl, by omega, HS0, HB0⟩
  case round =>
    clear HS0 HB0
    obtain ⟨k, b, c, rfl, rfl, hk, HS, HB⟩ := hrel
    obtain ⟨wA, rfl⟩ : ∃ x, x = wr := ⟨_, rfl⟩
    have zA := HB.out.size
    have hol : (sortM (xs.take k)).length ≤ k := Nat.le_trans (sortM_len _) (by simp; omega)
    by_cases hlt : k < n
    · obtain ⟨g, rfl⟩ : ∃ x, gk = x + 1 := ⟨gk - 1, by omega⟩
      obtain ⟨lb, lo, rfl, hlb, hx⟩ := Hcell.out (by omega)
      have hki : (k : Int) < (n : Int) := by omega
      obtain ⟨x, hxk, _⟩ := at_lt (xs := xs) (k := k) (by rw [← Hn.out]; exact hlt)
      obtain ⟨f0, f1, f2⟩ := hx k x hxk
      have HI := Lib.hid (sortM_take hxk)
      obtain ⟨out, hout⟩ : ∃ o, o = sortM (xs.take k) := ⟨_, rfl⟩
      rw [← hout] at HS HI hol ⊢
      have Hout := Lib.hid hout
      have HL := Lib.hid (fun (w' : World) (hb' : Below w.heap.size w w') => (show w'.cell? ⟨lb, lo + k * 3, none⟩ = some (.int .i64 x.1) ∧ w'.cell? ⟨lb, lo + k * 3 + 1, none⟩ = some (.int .i64 x.2.1) ∧ w'.cell? ⟨lb, lo + k * 3 + 2, none⟩ = some (.int .i64 x.2.2) from ⟨(hb'.cell (p := ⟨lb, lo + k * 3, none⟩) hlb).trans f0, (hb'.cell (p := ⟨lb, lo + k * 3 + 1, none⟩) hlb).trans f1, (hb'.cell (p := ⟨lb, lo + k * 3 + 2, none⟩) hlb).trans f2⟩))
      have HO := Lib.hid (fun (i : Nat) (hi : i < out.length) => (show b < wA.heap.size ∧ wA.cell? ⟨b, i * 3, none⟩ = some (.int .i64 (at3 out i).1) ∧ wA.cell? ⟨b, i * 3 + 1, none⟩ = some (.int .i64 (at3 out i).2.1) ∧ wA.cell? ⟨b, i * 3 + 2, none⟩ = some (.int .i64 (at3 out i).2.2) from by
        obtain ⟨_, _, hv, hq⟩ := HS.out.rowAt acell_lay
        obtain ⟨b', e', _, hbl, hcl⟩ := hq (by omega)
        subst e'
        simp at hv
        obtain ⟨rfl, rfl⟩ := hv
        have hy : out[i]? = some (at3 out i) := by rw [List.getElem?_eq_getElem hi, at3_of (List.getElem?_eq_getElem hi)]
        exact ⟨hbl, hcl i _ 0 _ hy rfl, hcl i _ 1 _ hy rfl, hcl i _ 2 _ hy rfl⟩))
      have hcap := row_cap HS.out
      clear f0 f1 f2 hx hxk hout
      obtain ⟨m, hm⟩ : ∃ m, m = out.length := ⟨_, rfl⟩
      have Hm := Lib.hid hm
      rw [← hm] at hol hcap ⊢
      clear hm
      obtain ⟨x0, x1, x2⟩ := x
      simp only at HL
      go_wp2
      go_loopg [5] (m + 1) (fun g i wr => ∃ (p : Nat), i = .int .i64 p ∧ p + 1 = g ∧ p ≤ m ∧ Hid (posA (x0, x1, x2) out m = posA (x0, x1, x2) out p) ∧ Hid (Below wA.heap.size wA wr))
      case atStart => exact ⟨m, rfl, rfl, Nat.le_refl _, Lib.hid rfl, Lib.hid (Below.refl _ _)⟩
      case round =>
        obtain ⟨p, rfl, hp, hpm, HP, HBi⟩ := hrel
        obtain ⟨wB, rfl⟩ : ∃ x, x = wr := ⟨_, rfl⟩
        have zB := HBi.out.size
        by_cases hp0 : p = 0
        · have HIns := Lib.hid (show insA out (x0, x1, x2) = out.take p ++ [(x0, x1, x2)] ++ out.drop p from by
            have e : posA (x0, x1, x2) out m = p := by rw [HP.out, hp0]; rfl
            unfold insA
            rw [← Hm.out, e, if_neg (by omega)])
          have t0 : decide (0 < p) = false := by simp; omega
          have t1 : ¬ 0 < p := by omega
          clear hp0
          go_wp2
          go_quiet (fail)
          rename_i nq
          have HBq := Lib.hid (below_drewN HBi.out nq)
          generalize wB.drewN nq = wB2 at HBq ⊢
          go_wp2
          go_quiet (fail)
          rename_i nq
          have HBc := Lib.hid (below_drewN HBq.out nq)
          generalize wB2.drewN nq = wC at HBc ⊢
          clear HBq HBi HP
          have hsC := HS.out.below HBc.out (Nat.le_refl _)
          have zC : w.heap.size ≤ wC.heap.size := Nat.le_trans zA HBc.out.size
          have hs2 := hsC.new RowG.held ((Below.refl _ _).alloc (Nat.le_refl _) (.cells #[] 68)) zC (New.emptyRow (sz := 3) (f := acell) 68 wC)
          obtain ⟨w2, e2⟩ : ∃ y, y = wC.alloc (.cells #[] 68) := ⟨_, rfl⟩
          rw [← e2] at hs2
          have hb2 : Below wC.heap.size wC w2 := by rw [e2]; exact (Below.refl _ _).alloc (Nat.le_refl _) _
          have z2 : w.heap.size ≤ w2.heap.size := Nat.le_trans zC hb2.size
          have hdr := tail_rd (p := p) hs2.swap rfl (by rw [← Hm.out]; exact hpm)
          rw [← Hm.out] at hdr
          have hsl := fun w' => tail_slice (b := b) (c := c) hpm w'
          obtain ⟨ad, had⟩ : ∃ y, y = (if c = p then (⟨b, 0, none⟩ : Addr) else ⟨b, p * 3, none⟩) := ⟨_, rfl⟩
          rw [← had] at hdr
          simp only [← had] at hsl
          clear had
          have hdl : (out.drop p).length = m - p := by rw [List.length_drop, ← Hm.out]
          obtain ⟨v3, w3, hr3, hs3, hb3⟩ := hs2.pushRow (P := Tryz.prog) acell_lay 24 24 (.agg #[.int .i64 0, .int .i64 0, .int .i64 0]) 24 Tryz.underlying24 infoA rfl z2 hdr (by rw [hdl, List.length_nil]; omega) (by rw [hdl, List.length_nil]; omega)
          rw [List.nil_append] at hs3
          have z3 : w.heap.size ≤ w3.heap.size := Nat.le_trans z2 hb3.size
          obtain ⟨ra, rc, er, -⟩ := hs3.rowAt acell_lay
          rw [hdl] at er
          subst er
          have Hr3 := Lib.hid hr3
          have HS3 := Lib.hid hs3
          have e2s := e2.symm
          have HB3 := Lib.hid (((HB.out.trans (HBc.out.mono zA)).trans (hb2.mono zC)).trans hb3)
          have hpI : (0 : Int) ≤ (p : Int) := by omega
          have hpmI : (p : Int) ≤ (m : Int) := by omega
          have hpc : p ≤ c := Nat.le_trans hpm hcap
          clear hsC hs2 hb2 hdr hr3 hs3 hb3 e2 hdl HBc HS HB
          go_wp2_with (first
            | (at_builtin; refine wpl_append_run rfl (.tmp 46) (.tmp 49) 24 rfl rfl rfl Hr3.out ?_)
            | fail)
          clear hsl Hr3 e2s
          have hs3 := HS3.out.swap.preRow acell_lay (k := p) (by rw [← Hm.out]; exact hpm)
          obtain ⟨w4, e4⟩ : ∃ y, y = (w3.alloc (.cells #[.int .i64 x0, .int .i64 x1, .int .i64 x2] 68)).drew := ⟨_, rfl⟩
          have hb4 : Below w3.heap.size w3 w4 := by rw [e4]; exact ((Below.refl w3.heap.size w3).alloc (Nat.le_refl _) _).drew
          have htk : (out.take p).length = p := by rw [List.length_take, ← Hm.out]; omega
          obtain ⟨v5, w5, hr5, hs5, hb5⟩ := hs3.pushG (P := Tryz.prog) acell_lay 24 24 (.agg #[.int .i64 0, .int .i64 0, .int .i64 0]) 24 Tryz.underlying24 infoA rfl z3 (w1 := w4) hb4 (x0, x1, x2) (bb := w3.heap.size) 1 (fun j u hj => by
            rw [e4]
            show (w3.alloc (.cells #[.int .i64 x0, .int .i64 x1, .int .i64 x2] 68)).cell? _ = _
            rw [World.cell?_alloc_at _ _ _ j rfl]
            simpa [acell] using hj) (by rw [htk]; omega) (by rw [htk]; omega)
          have z5 : w.heap.size ≤ w5.heap.size := Nat.le_trans z3 hb5.size
          have hdl : (out.drop p).length = m - p := by rw [List.length_drop, ← Hm.out]
          obtain ⟨v6, w6, hr6, hs6, hb6⟩ := hs5.pushRow (P := Tryz.prog) acell_lay 24 24 (.agg #[.int .i64 0, .int .i64 0, .int .i64 0]) 24 Tryz.underlying24 infoA rfl z5 (hs5.swap.rowRd acell_lay).1 (by rw [hdl, List.length_append, htk, List.length_singleton]; omega) (by rw [hdl, List.length_append, htk, List.length_singleton]; omega)
          rw [← HIns.out] at hs6
          have hil : 0 < (insA out (x0, x1, x2)).length := by rw [HIns.out]; simp; omega
          obtain ⟨_, c6, ev, hq6⟩ := hs6.rowAt acell_lay
          obtain ⟨b6, eb6, -⟩ := hq6 hil
          subst eb6
          subst ev
          obtain ⟨va5, c5, ev5, -⟩ := hs5.rowAt acell_lay
          subst ev5
          have HS6 := Lib.hid hs6.swap.tail
          have HB6 := Lib.hid ((HB3.out.trans hb5).trans hb6)
          have HSx := Lib.hid (fun (w' : World) (hb' : Below w.heap.size w w') => (show w'.cell? ⟨lb, lo + k * 3, none⟩ = some (.int .i64 x0) ∧ w'.cell? ⟨lb, lo + k * 3 + 1, none⟩ = some (.int .i64 x1) ∧ w'.cell? ⟨lb, lo + k * 3 + 2, none⟩ = some (.int .i64 x2) from HL.out w' hb'))
          have hSd : w3.drew.cell? ⟨lb, lo + k * 3, none⟩ = some (.int .i64 x0) ∧ w3.drew.cell? ⟨lb, lo + k * 3 + 1, none⟩ = some (.int .i64 x1) ∧ w3.drew.cell? ⟨lb, lo + k * 3 + 2, none⟩ = some (.int .i64 x2) := HSx.out _ HB3.out.drew
          have hS4 : w4.cell? ⟨lb, lo + k * 3, none⟩ = some (.int .i64 x0) ∧ w4.cell? ⟨lb, lo + k * 3 + 1, none⟩ = some (.int .i64 x1) ∧ w4.cell? ⟨lb, lo + k * 3 + 2, none⟩ = some (.int .i64 x2) := HSx.out _ (HB3.out.trans (hb4.mono z3))
          have hS5 : w5.cell? ⟨lb, lo + k * 3, none⟩ = some (.int .i64 x0) ∧ w5.cell? ⟨lb, lo + k * 3 + 1, none⟩ = some (.int .i64 x1) ∧ w5.cell? ⟨lb, lo + k * 3 + 2, none⟩ = some (.int .i64 x2) := HSx.out _ (HB3.out.trans hb5)
          have hS6 : w6.cell? ⟨lb, lo + k * 3, none⟩ = some (.int .i64 x0) ∧ w6.cell? ⟨lb, lo + k * 3 + 1, none⟩ = some (.int .i64 x1) ∧ w6.cell? ⟨lb, lo + k * 3 + 2, none⟩ = some (.int .i64 x2) := HSx.out _ HB6.out
          have Hr5 := Lib.hid hr5
          have Hr6 := Lib.hid hr6
          have hsl := fun w' => head_slice (b := b) (m := m) hpc w'
          clear hs3 hb4 htk hr5 hs5 hb5 hdl hr6 hs6 hb6 hil hq6 HS3 HB3 HSx
          generalize ((out.take p) ++ [(x0, x1, x2)]).length = l5 at Hr5 Hr6
          generalize hl6 : (insA out (x0, x1, x2)).length = l6 at Hr6 HS6
          have Hl6 := Lib.hid hl6
          clear hl6
          refine wp_region_L (fun w' => w'.cell? ⟨lb, lo + k * 3, none⟩ = some (.int .i64 x0) ∧ w'.cell? ⟨lb, lo + k * 3 + 1, none⟩ = some (.int .i64 x1) ∧ w'.cell? ⟨lb, lo + k * 3 + 2, none⟩ = some (.int .i64 x2)) (by kernel_rfl) ?_
          refine wpAnyL_take 0 (v := ?_) rfl (by kernel_rfl) (by kernel_rfl) (by kernel_rfl) (by kernel_rfl) (fun _ _ _ h => h) (Or.inl ⟨by rfl, ?_⟩) hSd ?_
          rotate_left
          · (intro w hSw; (try dsimp only at hSw); go_simp) <;> (try with_reducible rfl)
          try simp only [Act.put, List.getElem_toArray, List.getElem_cons_zero, List.getElem_cons_succ, List.setIfInBounds_toArray, List.set_cons_zero, List.set_cons_succ]
          refine wpAnyL_take 1 (v := ?_) rfl (by kernel_rfl) (by kernel_rfl) (by kernel_rfl) (by kernel_rfl) (fun _ _ _ h => h) (Or.inl ⟨by rfl, ?_⟩) hSd ?_
          rotate_left
          · (intro w hSw; (try dsimp only at hSw); go_simp) <;> (try with_reducible rfl)
          try simp only [Act.put, List.getElem_toArray, List.getElem_cons_zero, List.getElem_cons_succ, List.setIfInBounds_toArray, List.set_cons_zero, List.set_cons_succ]
          refine wpAnyL_take 2 (v := ?_) rfl (by kernel_rfl) (by kernel_rfl) (by kernel_rfl) (by kernel_rfl) (fun _ _ _ h => h) (Or.inl ⟨by rfl, ?_⟩) hSd ?_
          rotate_left
          · (intro w hSw; (try dsimp only at hSw); go_simp) <;> (try with_reducible rfl)
          try simp only [Act.put, List.getElem_toArray, List.getElem_cons_zero, List.getElem_cons_succ, List.setIfInBounds_toArray, List.set_cons_zero, List.set_cons_succ]
          refine wpAnyL_take 3 (v := ?_) rfl (by kernel_rfl) (by kernel_rfl) (by kernel_rfl) (by kernel_rfl) (fun _ _ _ h => h) (Or.inl ⟨by rfl, ?_⟩) hSd ?_
          rotate_left
          · (intro w hSw; (try dsimp only at hSw); go_simp) <;> (try with_reducible rfl)
          try simp only [Act.put, List.getElem_toArray, List.getElem_cons_zero, List.getElem_cons_succ, List.setIfInBounds_toArray, List.set_cons_zero, List.set_cons_succ]
          refine wpAnyL_take 4 (v := ?_) rfl (by kernel_rfl) (by kernel_rfl) (by kernel_rfl) (by kernel_rfl) (fun _ _ _ h => h) (Or.inl ⟨by rfl, ?_⟩) hSd ?_
          rotate_left
          · (intro w hSw; (try dsimp only at hSw); go_simp) <;> (try with_reducible rfl)
          try simp only [Act.put, List.getElem_toArray, List.getElem_cons_zero, List.getElem_cons_succ, List.setIfInBounds_toArray, List.set_cons_zero, List.set_cons_succ]
          refine wpAnyL_take 5 (v := ?_) rfl (by kernel_rfl) (by kernel_rfl) (by kernel_rfl) (by kernel_rfl) (fun _ _ _ h => h) (Or.inl ⟨by rfl, ?_⟩) hSd ?_
          rotate_left
          · (intro w hSw; (try dsimp only at hSw); go_simp) <;> (try with_reducible rfl)
          try simp only [Act.put, List.getElem_toArray, List.getElem_cons_zero, List.getElem_cons_succ, List.setIfInBounds_toArray, List.set_cons_zero, List.set_cons_succ]
          refine wpAnyL_take 6 (v := ?_) rfl (by kernel_rfl) (by kernel_rfl) (by kernel_rfl) (by kernel_rfl) (fun _ _ _ h => h) (Or.inl ⟨by rfl, ?_⟩) hSd ?_
          rotate_left
          · (intro w hSw; (try dsimp only at hSw); go_simp) <;> (try with_reducible rfl)
          try simp only [Act.put, List.getElem_toArray, List.getElem_cons_zero, List.getElem_cons_succ, List.setIfInBounds_toArray, List.set_cons_zero, List.set_cons_succ]
          refine wpAnyL_take 9 (v := ?_) rfl (by kernel_rfl) (by kernel_rfl) (by kernel_rfl) (by kernel_rfl) (fun _ _ _ h => h) (Or.inl ⟨by rfl, ?_⟩) hSd ?_
          rotate_left
          · (intro w hSw; (try dsimp only at hSw); go_simp) <;> (try with_reducible rfl)
          try simp only [Act.put, List.getElem_toArray, List.getElem_cons_zero, List.getElem_cons_succ, List.setIfInBounds_toArray, List.set_cons_zero, List.set_cons_succ]
          refine wpAnyL_one 7 (by kernel_rfl) rfl (fun K hK => ?_)
          go_simp
          refine hK.out _ _ (fun _ => (by rw [← e4]; exact hS4)) ?_
          clear hK K
          try simp only [Act.put, List.getElem_toArray, List.getElem_cons_zero, List.getElem_cons_succ, List.setIfInBounds_toArray, List.set_cons_zero, List.set_cons_succ]
          rw [← e4]
          refine wpAnyL_one 8 (by kernel_rfl) rfl (fun K hK => ?_)
          refine step_append_run (by rfl) (.tmp 53) (.tmp 58) 24 (by rfl) (by rfl) (by rfl) Hr5.out ?_
          refine hK.out _ _ (fun _ => hS5) ?_
          clear hK K
          try simp only [Act.put, List.getElem_toArray, List.getElem_cons_zero, List.getElem_cons_succ, List.setIfInBounds_toArray, List.set_cons_zero, List.set_cons_succ]
          refine wpAnyL_one 10 (by kernel_rfl) rfl (fun K hK => ?_)
          refine step_append_run (by rfl) (.tmp 59) (.tmp 60) 24 (by rfl) (by rfl) (by rfl) Hr6.out ?_
          refine hK.out _ _ (fun _ => hS6) ?_
          clear hK K
          try simp only [Act.put, List.getElem_toArray, List.getElem_cons_zero, List.getElem_cons_succ, List.setIfInBounds_toArray, List.set_cons_zero, List.set_cons_succ]
          refine wpAnyL_one 11 (by kernel_rfl) rfl (fun K hK => ?_)
          go_simp
          refine hK.out _ _ (fun h => absurd h (not_rem (by kernel_rfl))) ?_
          clear hK K
          try simp only [Act.put, List.getElem_toArray, List.getElem_cons_zero, List.getElem_cons_succ, List.setIfInBounds_toArray, List.set_cons_zero, List.set_cons_succ]
          refine wpAnyL_done (by kernel_rfl) ?_ _
          go_wp2
          go_roundg g
          case measure => omega
          case rel => exact ⟨k + 1, b6, c6, by rw [HI.out, Hl6.out], by go_num, by omega, by rw [HI.out, Hl6.out]; exact HS6, HB6⟩
        · obtain ⟨q, rfl⟩ : ∃ q, p = q + 1 := ⟨p - 1, by omega⟩
          have hqm : q < m := by omega
          obtain ⟨hbl, o0, o1, o2⟩ := HO.out q (by rw [← Hm.out]; exact hqm)
          have HPs := Lib.hid (show posA (x0, x1, x2) out (q + 1) = if before (x0, x1, x2) (at3 out q) = true then posA (x0, x1, x2) out q else q + 1 from rfl)
          have HBf := Lib.hid (fun w' => l14Before_c (x0, x1, x2) (at3 out q) w')
          obtain ⟨y, hy⟩ : ∃ y, y = at3 out q := ⟨_, rfl⟩
          rw [← hy] at o0 o1 o2 HPs HBf
          have Hy := Lib.hid hy
          clear hy hp0
          obtain ⟨y0, y1, y2⟩ := y
          simp only at o0 o1 o2
          have tq : decide ((0 : Int) < (q : Int) + 1) = true := by simp
          have hqw : IntKind.i64.wrap (q : Int) = (q : Int) := by rw [IntKind.wrap_i64]; omega
          have hqI : (q : Int) < (m : Int) := by omega
          have hq0 : (0 : Int) ≤ (q : Int) := by omega
          have HSS := Lib.hid (fun (w' : World) (hb' : Below wA.heap.size wA w') => (show w'.cell? ⟨lb, lo + k * 3, none⟩ = some (.int .i64 x0) ∧ w'.cell? ⟨lb, lo + k * 3 + 1, none⟩ = some (.int .i64 x1) ∧ w'.cell? ⟨lb, lo + k * 3 + 2, none⟩ = some (.int .i64 x2) ∧ w'.cell? ⟨b, q * 3, none⟩ = some (.int .i64 y0) ∧ w'.cell? ⟨b, q * 3 + 1, none⟩ = some (.int .i64 y1) ∧ w'.cell? ⟨b, q * 3 + 2, none⟩ = some (.int .i64 y2) from ⟨(HL.out w' (HB.out.trans (hb'.mono zA))).1, (HL.out w' (HB.out.trans (hb'.mono zA))).2.1, (HL.out w' (HB.out.trans (hb'.mono zA))).2.2, (hb'.cell (p := ⟨b, q * 3, none⟩) hbl).trans o0, (hb'.cell (p := ⟨b, q * 3 + 1, none⟩) hbl).trans o1, (hb'.cell (p := ⟨b, q * 3 + 2, none⟩) hbl).trans o2⟩))
          have hS0 := HSS.out _ HBi.out
          have B1 := HBi.out.drew
          have hSd := HSS.out _ B1
          rw [show ((q + 1 : Nat) : Int) = (q : Int) + 1 from by omega]
          simp only at HBf
          generalize hbf : before (x0, x1, x2) (y0, y1, y2) = bf at HPs HBf
          clear o0 o1 o2 hbf
          go_wp2
          go_region_held3 (fun w' => w'.cell? ⟨lb, lo + k * 3, none⟩ = some (.int .i64 x0) ∧ w'.cell? ⟨lb, lo + k * 3 + 1, none⟩ = some (.int .i64 x1) ∧ w'.cell? ⟨lb, lo + k * 3 + 2, none⟩ = some (.int .i64 x2) ∧ w'.cell? ⟨b, q * 3, none⟩ = some (.int .i64 y0) ∧ w'.cell? ⟨b, q * 3 + 1, none⟩ = some (.int .i64 y1) ∧ w'.cell? ⟨b, q * 3 + 2, none⟩ = some (.int .i64 y2))
            (first | with_reducible exact hS2 | with_reducible exact hSd | with_reducible exact hS0 | go_keep)
            ((first
              | (go_at_call 65; (with_reducible refine (HBf.out _).mono ?_); rintro e u1 ⟨rfl, q1⟩; have B2 := B1.trans (q1.mono (Nat.le_trans B1.size (Nat.le_refl _))); have hS2 := HSS.out _ B2)
              | fail))
          cases bf with
          | true =>
            have HP2 := Lib.hid (show posA (x0, x1, x2) out m = posA (x0, x1, x2) out q from by rw [HP.out, HPs.out, if_pos rfl])
            have HB2 := Lib.hid B2
            clear HP HPs HBf HSS hS0 hSd hS2 B1 B2 q1 HBi
            go_wp2
            go_roundg (q + 1)
            case measure => omega
            case rel => exact ⟨q, by go_num, rfl, by omega, HP2, HB2⟩
          | false =>
            have HPf := Lib.hid (show posA (x0, x1, x2) out m = q + 1 from by rw [HP.out, HPs.out, if_neg (by decide)])
            have HBc := Lib.hid B2
            obtain ⟨l0, l1, l2, o0, o1, o2⟩ := hS2
            clear HP HPs HBf HSS hS0 hSd B1 B2 q1 HBi
            go_wp2
            by_cases hxy : (y0, y1, y2) = (x0, x1, x2)
            · simp only [Prod.mk.injEq] at hxy
              obtain ⟨rfl, rfl, rfl⟩ := hxy
              go_quiet (fail)
              rename_i nq
              have HIn := Lib.hid (show insA out (y0, y1, y2) = out from by
                unfold insA
                rw [← Hm.out, HPf.out, if_pos ⟨by omega, by rw [Nat.add_sub_cancel]; exact Hy.out.symm⟩])
              have HS9 := Lib.hid (HS.out.below ((below_drewN HBc.out nq)) (Nat.le_refl _))
              have HB9 := Lib.hid (HB.out.trans ((below_drewN HBc.out nq).mono zA))
              have Hm2 := Lib.hid Hm.out
              clear HS HB HBc HL HO l0 l1 l2 o0 o1 o2
              go_wp2
              go_roundg g
              case measure => omega
              case rel => exact ⟨k + 1, b, c, by rw [HI.out, HIn.out, ← Hm.out], by go_num, by omega, by rw [HI.out, HIn.out]; exact HS9, HB9⟩
            · have HInq := Lib.hid (show insA out (x0, x1, x2) = out.take (q + 1) ++ [(x0, x1, x2)] ++ out.drop (q + 1) from by
                unfold insA
                rw [← Hm.out, HPf.out, if_neg]
                rintro ⟨-, h⟩
                rw [Nat.add_sub_cancel, ← Hy.out] at h
                exact hxy h)
              have hne : (y0 == x0) = false ∨ (x0 = y0 ∧ (y1 == x1) = false) ∨ (x0 = y0 ∧ x1 = y1 ∧ (y2 == x2) = false) := by
                by_cases e0 : y0 = x0
                · by_cases e1 : y1 = x1
                  · have e2 : y2 ≠ x2 := fun e2 => hxy (by rw [e0, e1, e2])
                    exact Or.inr (Or.inr ⟨e0.symm, e1.symm, by simp [e2]⟩)
                  · exact Or.inr (Or.inl ⟨e0.symm, by simp [e1]⟩)
                · exact Or.inl (by simp [e0])
              obtain ⟨p, hpq⟩ : ∃ p, p = q + 1 := ⟨_, rfl⟩
              have Hpe := Lib.hid (show (q : Int) + 1 = (p : Int) from by omega)
              have HIns := Lib.hid (show insA out (x0, x1, x2) = out.take p ++ [(x0, x1, x2)] ++ out.drop p from by rw [hpq]; exact HInq.out)
              replace hpm : p ≤ m := by omega
              clear hxy HInq hpq
              rcases hne with t0 | ⟨rfl, t1⟩ | ⟨rfl, rfl, t2⟩
              all_goals
                go_quiet (fail)
                rename_i nq
                replace HBc := Lib.hid (below_drewN HBc.out nq)
                generalize u1.drewN nq = wC at HBc ⊢
                rw [Hpe.out]
                clear l0 l1 l2 o0 o1 o2 Hpe tq hqw hqI hq0 HPf
                have hsC := HS.out.below HBc.out (Nat.le_refl _)
                have zC : w.heap.size ≤ wC.heap.size := Nat.le_trans zA HBc.out.size
                have hs2 := hsC.new RowG.held ((Below.refl _ _).alloc (Nat.le_refl _) (.cells #[] 68)) zC (New.emptyRow (sz := 3) (f := acell) 68 wC)
                obtain ⟨w2, e2⟩ : ∃ y, y = wC.alloc (.cells #[] 68) := ⟨_, rfl⟩
                rw [← e2] at hs2
                have hb2 : Below wC.heap.size wC w2 := by rw [e2]; exact (Below.refl _ _).alloc (Nat.le_refl _) _
                have z2 : w.heap.size ≤ w2.heap.size := Nat.le_trans zC hb2.size
                have hdr := tail_rd (p := p) hs2.swap rfl (by rw [← Hm.out]; exact hpm)
                rw [← Hm.out] at hdr
                have hsl := fun w' => tail_slice (b := b) (c := c) hpm w'
                obtain ⟨ad, had⟩ : ∃ y, y = (if c = p then (⟨b, 0, none⟩ : Addr) else ⟨b, p * 3, none⟩) := ⟨_, rfl⟩
                rw [← had] at hdr
                simp only [← had] at hsl
                clear had
                have hdl : (out.drop p).length = m - p := by rw [List.length_drop, ← Hm.out]
                obtain ⟨v3, w3, hr3, hs3, hb3⟩ := hs2.pushRow (P := Tryz.prog) acell_lay 24 24 (.agg #[.int .i64 0, .int .i64 0, .int .i64 0]) 24 Tryz.underlying24 infoA rfl z2 hdr (by rw [hdl, List.length_nil]; omega) (by rw [hdl, List.length_nil]; omega)
                rw [List.nil_append] at hs3
                have z3 : w.heap.size ≤ w3.heap.size := Nat.le_trans z2 hb3.size
                obtain ⟨ra, rc, er, -⟩ := hs3.rowAt acell_lay
                rw [hdl] at er
                subst er
                have Hr3 := Lib.hid hr3
                have HS3 := Lib.hid hs3
                have e2s := e2.symm
                have HB3 := Lib.hid (((HB.out.trans (HBc.out.mono zA)).trans (hb2.mono zC)).trans hb3)
                have hpI : (0 : Int) ≤ (p : Int) := by omega
                have hpmI : (p : Int) ≤ (m : Int) := by omega
                have hpc : p ≤ c := Nat.le_trans hpm hcap
                clear hsC hs2 hb2 hdr hr3 hs3 hb3 e2 hdl HBc HS HB
                go_wp2_with (first
                  | (at_builtin; refine wpl_append_run rfl (.tmp 46) (.tmp 49) 24 rfl rfl rfl Hr3.out ?_)
                  | fail)
                clear hsl Hr3 e2s
                have hs3 := HS3.out.swap.preRow acell_lay (k := p) (by rw [← Hm.out]; exact hpm)
                obtain ⟨w4, e4⟩ : ∃ y, y = (w3.alloc (.cells #[.int .i64 x0, .int .i64 x1, .int .i64 x2] 68)).drew := ⟨_, rfl⟩
                have hb4 : Below w3.heap.size w3 w4 := by rw [e4]; exact ((Below.refl w3.heap.size w3).alloc (Nat.le_refl _) _).drew
                have htk : (out.take p).length = p := by rw [List.length_take, ← Hm.out]; omega
                obtain ⟨v5, w5, hr5, hs5, hb5⟩ := hs3.pushG (P := Tryz.prog) acell_lay 24 24 (.agg #[.int .i64 0, .int .i64 0, .int .i64 0]) 24 Tryz.underlying24 infoA rfl z3 (w1 := w4) hb4 (x0, x1, x2) (bb := w3.heap.size) 1 (fun j u hj => by
                  rw [e4]
                  show (w3.alloc (.cells #[.int .i64 x0, .int .i64 x1, .int .i64 x2] 68)).cell? _ = _
                  rw [World.cell?_alloc_at _ _ _ j rfl]
                  simpa [acell] using hj) (by rw [htk]; omega) (by rw [htk]; omega)
                have z5 : w.heap.size ≤ w5.heap.size := Nat.le_trans z3 hb5.size
                have hdl : (out.drop p).length = m - p := by rw [List.length_drop, ← Hm.out]
                obtain ⟨v6, w6, hr6, hs6, hb6⟩ := hs5.pushRow (P := Tryz.prog) acell_lay 24 24 (.agg #[.int .i64 0, .int .i64 0, .int .i64 0]) 24 Tryz.underlying24 infoA rfl z5 (hs5.swap.rowRd acell_lay).1 (by rw [hdl, List.length_append, htk, List.length_singleton]; omega) (by rw [hdl, List.length_append, htk, List.length_singleton]; omega)
                rw [← HIns.out] at hs6
                have hil : 0 < (insA out (x0, x1, x2)).length := by rw [HIns.out]; simp; omega
                obtain ⟨_, c6, ev, hq6⟩ := hs6.rowAt acell_lay
                obtain ⟨b6, eb6, -⟩ := hq6 hil
                subst eb6
                subst ev
                obtain ⟨va5, c5, ev5, -⟩ := hs5.rowAt acell_lay
                subst ev5
                have HS6 := Lib.hid hs6.swap.tail
                have HB6 := Lib.hid ((HB3.out.trans hb5).trans hb6)
                have HSx := Lib.hid (fun (w' : World) (hb' : Below w.heap.size w w') => (show w'.cell? ⟨lb, lo + k * 3, none⟩ = some (.int .i64 x0) ∧ w'.cell? ⟨lb, lo + k * 3 + 1, none⟩ = some (.int .i64 x1) ∧ w'.cell? ⟨lb, lo + k * 3 + 2, none⟩ = some (.int .i64 x2) from HL.out w' hb'))
                have hSd : w3.drew.cell? ⟨lb, lo + k * 3, none⟩ = some (.int .i64 x0) ∧ w3.drew.cell? ⟨lb, lo + k * 3 + 1, none⟩ = some (.int .i64 x1) ∧ w3.drew.cell? ⟨lb, lo + k * 3 + 2, none⟩ = some (.int .i64 x2) := HSx.out _ HB3.out.drew
                have hS4 : w4.cell? ⟨lb, lo + k * 3, none⟩ = some (.int .i64 x0) ∧ w4.cell? ⟨lb, lo + k * 3 + 1, none⟩ = some (.int .i64 x1) ∧ w4.cell? ⟨lb, lo + k * 3 + 2, none⟩ = some (.int .i64 x2) := HSx.out _ (HB3.out.trans (hb4.mono z3))
                have hS5 : w5.cell? ⟨lb, lo + k * 3, none⟩ = some (.int .i64 x0) ∧ w5.cell? ⟨lb, lo + k * 3 + 1, none⟩ = some (.int .i64 x1) ∧ w5.cell? ⟨lb, lo + k * 3 + 2, none⟩ = some (.int .i64 x2) := HSx.out _ (HB3.out.trans hb5)
                have hS6 : w6.cell? ⟨lb, lo + k * 3, none⟩ = some (.int .i64 x0) ∧ w6.cell? ⟨lb, lo + k * 3 + 1, none⟩ = some (.int .i64 x1) ∧ w6.cell? ⟨lb, lo + k * 3 + 2, none⟩ = some (.int .i64 x2) := HSx.out _ HB6.out
                have Hr5 := Lib.hid hr5
                have Hr6 := Lib.hid hr6
                have hsl := fun w' => head_slice (b := b) (m := m) hpc w'
                clear hs3 hb4 htk hr5 hs5 hb5 hdl hr6 hs6 hb6 hil hq6 HS3 HB3 HSx
                generalize ((out.take p) ++ [(x0, x1, x2)]).length = l5 at Hr5 Hr6
                generalize hl6 : (insA out (x0, x1, x2)).length = l6 at Hr6 HS6
                have Hl6 := Lib.hid hl6
                clear hl6
                refine wp_region_L (fun w' => w'.cell? ⟨lb, lo + k * 3, none⟩ = some (.int .i64 x0) ∧ w'.cell? ⟨lb, lo + k * 3 + 1, none⟩ = some (.int .i64 x1) ∧ w'.cell? ⟨lb, lo + k * 3 + 2, none⟩ = some (.int .i64 x2)) (by kernel_rfl) ?_
                refine wpAnyL_take 0 (v := ?_) rfl (by kernel_rfl) (by kernel_rfl) (by kernel_rfl) (by kernel_rfl) (fun _ _ _ h => h) (Or.inl ⟨by rfl, ?_⟩) hSd ?_
                rotate_left
                · (intro w hSw; (try dsimp only at hSw); go_simp) <;> (try with_reducible rfl)
                try simp only [Act.put, List.getElem_toArray, List.getElem_cons_zero, List.getElem_cons_succ, List.setIfInBounds_toArray, List.set_cons_zero, List.set_cons_succ]
                refine wpAnyL_take 1 (v := ?_) rfl (by kernel_rfl) (by kernel_rfl) (by kernel_rfl) (by kernel_rfl) (fun _ _ _ h => h) (Or.inl ⟨by rfl, ?_⟩) hSd ?_
                rotate_left
                · (intro w hSw; (try dsimp only at hSw); go_simp) <;> (try with_reducible rfl)
                try simp only [Act.put, List.getElem_toArray, List.getElem_cons_zero, List.getElem_cons_succ, List.setIfInBounds_toArray, List.set_cons_zero, List.set_cons_succ]
                refine wpAnyL_take 2 (v := ?_) rfl (by kernel_rfl) (by kernel_rfl) (by kernel_rfl) (by kernel_rfl) (fun _ _ _ h => h) (Or.inl ⟨by rfl, ?_⟩) hSd ?_
                rotate_left
                · (intro w hSw; (try dsimp only at hSw); go_simp) <;> (try with_reducible rfl)
                try simp only [Act.put, List.getElem_toArray, List.getElem_cons_zero, List.getElem_cons_succ, List.setIfInBounds_toArray, List.set_cons_zero, List.set_cons_succ]
                refine wpAnyL_take 3 (v := ?_) rfl (by kernel_rfl) (by kernel_rfl) (by kernel_rfl) (by kernel_rfl) (fun _ _ _ h => h) (Or.inl ⟨by rfl, ?_⟩) hSd ?_
                rotate_left
                · (intro w hSw; (try dsimp only at hSw); go_simp) <;> (try with_reducible rfl)
                try simp only [Act.put, List.getElem_toArray, List.getElem_cons_zero, List.getElem_cons_succ, List.setIfInBounds_toArray, List.set_cons_zero, List.set_cons_succ]
                refine wpAnyL_take 4 (v := ?_) rfl (by kernel_rfl) (by kernel_rfl) (by kernel_rfl) (by kernel_rfl) (fun _ _ _ h => h) (Or.inl ⟨by rfl, ?_⟩) hSd ?_
                rotate_left
                · (intro w hSw; (try dsimp only at hSw); go_simp) <;> (try with_reducible rfl)
                try simp only [Act.put, List.getElem_toArray, List.getElem_cons_zero, List.getElem_cons_succ, List.setIfInBounds_toArray, List.set_cons_zero, List.set_cons_succ]
                refine wpAnyL_take 5 (v := ?_) rfl (by kernel_rfl) (by kernel_rfl) (by kernel_rfl) (by kernel_rfl) (fun _ _ _ h => h) (Or.inl ⟨by rfl, ?_⟩) hSd ?_
                rotate_left
                · (intro w hSw; (try dsimp only at hSw); go_simp) <;> (try with_reducible rfl)
                try simp only [Act.put, List.getElem_toArray, List.getElem_cons_zero, List.getElem_cons_succ, List.setIfInBounds_toArray, List.set_cons_zero, List.set_cons_succ]
                refine wpAnyL_take 6 (v := ?_) rfl (by kernel_rfl) (by kernel_rfl) (by kernel_rfl) (by kernel_rfl) (fun _ _ _ h => h) (Or.inl ⟨by rfl, ?_⟩) hSd ?_
                rotate_left
                · (intro w hSw; (try dsimp only at hSw); go_simp) <;> (try with_reducible rfl)
                try simp only [Act.put, List.getElem_toArray, List.getElem_cons_zero, List.getElem_cons_succ, List.setIfInBounds_toArray, List.set_cons_zero, List.set_cons_succ]
                refine wpAnyL_take 9 (v := ?_) rfl (by kernel_rfl) (by kernel_rfl) (by kernel_rfl) (by kernel_rfl) (fun _ _ _ h => h) (Or.inl ⟨by rfl, ?_⟩) hSd ?_
                rotate_left
                · (intro w hSw; (try dsimp only at hSw); go_simp) <;> (try with_reducible rfl)
                try simp only [Act.put, List.getElem_toArray, List.getElem_cons_zero, List.getElem_cons_succ, List.setIfInBounds_toArray, List.set_cons_zero, List.set_cons_succ]
                refine wpAnyL_one 7 (by kernel_rfl) rfl (fun K hK => ?_)
                go_simp
                refine hK.out _ _ (fun _ => (by rw [← e4]; exact hS4)) ?_
                clear hK K
                try simp only [Act.put, List.getElem_toArray, List.getElem_cons_zero, List.getElem_cons_succ, List.setIfInBounds_toArray, List.set_cons_zero, List.set_cons_succ]
                rw [← e4]
                refine wpAnyL_one 8 (by kernel_rfl) rfl (fun K hK => ?_)
                refine step_append_run (by rfl) (.tmp 53) (.tmp 58) 24 (by rfl) (by rfl) (by rfl) Hr5.out ?_
                refine hK.out _ _ (fun _ => hS5) ?_
                clear hK K
                try simp only [Act.put, List.getElem_toArray, List.getElem_cons_zero, List.getElem_cons_succ, List.setIfInBounds_toArray, List.set_cons_zero, List.set_cons_succ]
                refine wpAnyL_one 10 (by kernel_rfl) rfl (fun K hK => ?_)
                refine step_append_run (by rfl) (.tmp 59) (.tmp 60) 24 (by rfl) (by rfl) (by rfl) Hr6.out ?_
                refine hK.out _ _ (fun _ => hS6) ?_
                clear hK K
                try simp only [Act.put, List.getElem_toArray, List.getElem_cons_zero, List.getElem_cons_succ, List.setIfInBounds_toArray, List.set_cons_zero, List.set_cons_succ]
                refine wpAnyL_one 11 (by kernel_rfl) rfl (fun K hK => ?_)
                go_simp
                refine hK.out _ _ (fun h => absurd h (not_rem (by kernel_rfl))) ?_
                clear hK K
                try simp only [Act.put, List.getElem_toArray, List.getElem_cons_zero, List.getElem_cons_succ, List.setIfInBounds_toArray, List.set_cons_zero, List.set_cons_succ]
                refine wpAnyL_done (by kernel_rfl) ?_ _
                go_wp2
                go_roundg g
                case measure => omega
                case rel => exact ⟨k + 1, b6, c6, by rw [HI.out, Hl6.out], by go_num, by omega, by rw [HI.out, Hl6.out]; exact HS6, HB6⟩
    · have hki : ¬ ((k : Int) < (n : Int)) := by omega
      have HR := Lib.hid (show New (RowA 68) w.heap.size wA (.slice (some ⟨b, 0, none⟩) (sortM (xs.take k)).length c) (sortM xs) from by
        have h := HS.out.headNew
        rw [List.take_of_length_le (by rw [← Hn.out]; omega)] at h ⊢
        exact h)
      generalize (sortM (xs.take k)).length = ol at HR
      clear HS
      go_wp2
      go_ret
      exact ⟨_, rfl, HR.out, HB.out⟩
end Go.Proofs.YtcilgihmaaobeaaGreatDoor
end
