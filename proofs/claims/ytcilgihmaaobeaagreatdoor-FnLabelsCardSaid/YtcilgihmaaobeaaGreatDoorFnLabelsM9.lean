/-
  Laws for this claim's walks, contracts of the functions that it reaches.
-/
import Derived.Test.YtcilgihmaaobeaaGreatDoorFnLabelsM7
import Derived.Lib.AppendStr
import Derived.Lib.Join
set_option linter.unusedVariables false
set_option linter.unusedSimpArgs false
section
namespace Go.Proofs.YtcilgihmaaobeaaGreatDoor
open Go.RowKit Go.Deep Go.Sd
set_option linter.unusedSimpArgs false
abbrev TxR : World → Value → List ByteArray → Prop := SlOf (ValR Value.string)
def bytL (xs : List ByteArray) : List (List UInt8) := xs.map (·.data.toList)
def joinB (xs : List ByteArray) (sep : ByteArray) : ByteArray := ⟨(Lib.join (bytL xs) sep.data.toList).toArray⟩
theorem join_succ (sep : List UInt8) : ∀ (ys : List (List UInt8)) (k : Nat) (x : List UInt8), ys[k]? = some x → Lib.join (ys.take (k + 1)) sep = (if k = 0 then [] else Lib.join (ys.take k) sep ++ sep) ++ x
  | [], k, x, h => by simp at h
  | y :: r, 0, x, h => by
    simp at h
    subst h
    simp [Lib.join_one]
  | y :: r, k + 1, x, h => by
    rw [if_neg (by omega)]
    have h2 : r[k]? = some x := by simpa using h
    rw [List.take_succ_cons, List.take_succ_cons, Lib.join_cons, Lib.join_cons, Lib.joinTail_take_succ sep r k x h2]
    simp [List.append_assoc]
theorem join_take_le (sep : List UInt8) : ∀ (ys : List (List UInt8)) (k : Nat), (Lib.join (ys.take k) sep).length ≤ (Lib.join ys sep).length
  | [], k => by simp
  | y :: r, 0 => by simp [Lib.join_nil]
  | y :: r, k + 1 => by
    rw [List.take_succ_cons, Lib.join_cons, Lib.join_cons]
    have h : Lib.joinTail sep r = Lib.joinTail sep (r.take k) ++ Lib.joinTail sep (r.drop k) := by
      unfold Lib.joinTail
      rw [← List.flatten_append, ← List.map_append, List.take_append_drop]
    rw [h]
    simp
/-- Bytes that the call owns. -/
def bv (b : UInt8) : Value := .int .u8 (b.toNat : Int)
def BufR (e : TypeId) (lo : Nat) (w : World) (v : Value) (l : List UInt8) : Prop := (∃ g c, v = .slice (some ⟨g, 0, none⟩) l.length c) ∧ w.ownsRow lo e 1 v l.length (l.map bv)
theorem BufR.empty {e : TypeId} {w : World} : BufR e w.heap.size (w.alloc (.cells #[] e)) (.slice (some ⟨w.heap.size, 0, none⟩) 0 0) [] :=
  ⟨⟨w.heap.size, 0, rfl⟩, World.ownsRow_made (base := w.heap.size) (size := 1) w #[] 0 (Nat.le_refl _) (by simp [maxLen]) (by simp)⟩
theorem buf_append {P : Program} {t u e : TypeId} {lo : Nat} {w : World} {v : Value} {l : List UInt8} (ht : P.underlying t = some (.slice e)) (hu : P.underlying u = some .string) (hi : (P.info? e).map (fun i => (i.zero, i.size, i.bytes)) = some (some (.int .u8 0), 1, 1))
    (h : BufR e lo w v l) (hlo : lo ≤ w.heap.size) (s : ByteArray) (hl : l.length + s.size ≤ 1099511627776) :
    ∃ v' w', (Builtin.append_ #[t, u] t #[v, .string s]).run P w = .ok v' w' ∧ BufR e lo w' v' (l ++ s.data.toList) ∧ Below lo w w' := by
  obtain ⟨⟨g, c, rfl⟩, ho⟩ := h
  obtain ⟨i, hi1, hzz⟩ := Option.map_eq_some_iff.1 hi
  simp only [Prod.mk.injEq] at hzz
  obtain ⟨hz, hsz, hby⟩ := hzz
  obtain ⟨v', w', hr, ho', hg, hn⟩ := Lib.run_append_own_string (P := P) w lo t u t e i ht hu hi1 hz hsz hby _ l.length _ ho s (by unfold maxLen; omega) (by omega) hlo
  have hll : (l ++ s.data.toList).length = l.length + s.size := by simp
  have hge : lo ≤ g := by
    rcases ho.2 with ⟨h1, _⟩ | ⟨g2, c2, cur, h1, h2, _⟩
    · simp at h1
    · simp at h1
      omega
  refine ⟨v', w', hr, ⟨?_, ?_⟩, Below.of_grown hg hlo fun k hk => by simp [Value.ownBlock] at hk; omega⟩
  · rcases ho'.2 with ⟨h1, _⟩ | ⟨g2, c2, cur, h1, _⟩
    · have := hn.1 h1
      simp at this
    · rw [hll]; exact ⟨g2, c2, h1⟩
  · rw [hll, List.map_append]
    exact ho'
theorem buf_string {P : Program} {t u e : TypeId} {lo : Nat} {w : World} {v : Value} {l : List UInt8} (ht : P.underlying t = some (.slice e)) (hu : P.underlying u = some .string) (he : P.underlying e = some (.int .u8)) (h : BufR e lo w v l) :
    (convert t u v).run P w = .ok (.string ⟨l.toArray⟩) w := by
  obtain ⟨⟨g, c, rfl⟩, ho⟩ := h
  exact run_convert_bytes_back (P := P) w t u e ⟨g, 0, none⟩ c l ht he hu (fun j hj => ho.cells (g := g) rfl j _ (by simp [hj, bv]))
theorem wpl_append_run2 {P : Program} {w : World} {ops : Array Oper} {rest : List Oper} {o : Oper} {a : Act} {Q : Exit → Act → World → Prop} (hw : Region.wanted o (yielded ops a.tmps) = true) (s x : Operand) (t u : TypeId)
    (ho : o.op = .call { callee := .builtin .append, args := #[s, x], argTypes := #[t, u] }) {v v2 v' : Value} {w' : World} (hs : a.eval s = v) (hx : a.eval x = v2)
    (hr : (Builtin.append_ #[t, u] o.type #[v, v2]).run P w = .ok v' w') (h : wpList P ops Q rest (a.put o.dst v') w') : wpList P ops Q (o :: rest) a w := by
  refine BigFrame.wpList_want hw fun K hK => ?_
  unfold Oper.wp execOp
  simp only [ho, resolve, invoke, builtin, Sem.run_bind, Sem.run_pure, Result.andThen_ok, List.map_toArray, List.map_cons, List.map_nil, hs, hx, hr]
  exact hK _ _ h
theorem infoB8 : (Tryz.prog.info? 5).map (fun i => (i.zero, i.size, i.bytes)) = some (some (.int .u8 0), 1, 1) := by kernel_rfl
set_option maxHeartbeats 2000000 in
set_option maxRecDepth 100000 in
theorem spec_Join_c {w : World} {v : Value} {xs : List ByteArray} {sep : ByteArray} (h : TxR w v xs) (hlen : (Lib.join (bytL xs) sep.data.toList).length ≤ 1099511627776) :
    Calls Tryz.prog 69 #[v, .string sep] w fun e w' => e = .returned (.string (joinB xs sep)) ∧ Below w.heap.size w w' := by
  have H0 := Lib.hid (show joinB xs sep = ⟨(Lib.join (bytL xs) sep.data.toList).toArray⟩ from rfl)
  generalize joinB xs sep = R at H0 ⊢
  have HJ := Lib.hid (fun k x (hx : xs[k]? = some x) => join_succ sep.data.toList (bytL xs) k x.data.toList (by unfold bytL; rw [List.getElem?_map, hx]; rfl))
  have HL := Lib.hid (fun k => Nat.le_trans (join_take_le sep.data.toList (bytL xs) k) hlen)
  have HF := Lib.hid (show (bytL xs).take xs.length = bytL xs from List.take_of_length_le (by unfold bytL; simp))
  have hmax := h.len
  obtain ⟨va, vc, rfl, -, -, hcell⟩ := h.shape
  have HC := Lib.hid hcell
  clear h hcell hlen
  generalize bytL xs = Y at H0 HJ HL HF
  obtain ⟨n, hn⟩ : ∃ n, n = xs.length := ⟨_, rfl⟩
  have HN := Lib.hid hn
  rw [← hn] at HF HC hmax ⊢
  clear hn
  have HB0 := Lib.hid (BufR.empty (e := 5) (w := w))
  have HW0 := Lib.hid ((Below.refl w.heap.size w).alloc (Nat.le_refl _) (.cells #[] 5))
  go_enter Tryz.func69, Tryz.ntmps69
  go_wp2
  go_loopg [5, 6] n (fun g bv iv wr => ∃ (k : Nat) (l : List UInt8), iv = .int .i64 k ∧ k + g = n ∧ Hid (l = Lib.join (Y.take k) sep.data.toList) ∧ Hid (BufR 5 w.heap.size wr bv l) ∧ Hid (Below w.heap.size w wr))
  case atStart => exact ⟨0, [], rfl, by omega, Lib.hid rfl, HB0, HW0⟩
  case round =>
    clear HB0 HW0
    obtain ⟨k, l, rfl, hk, Hl, HB, HW⟩ := hrel
    obtain ⟨wk, rfl⟩ : ∃ x, x = wr := ⟨_, rfl⟩
    have hzw := HW.out.size
    obtain ⟨⟨ga, gc, hgv⟩, -⟩ := HB.out
    subst hgv
    by_cases hkn : k < n
    · have hki : (k : Int) < (n : Int) := by omega
      obtain ⟨g, rfl⟩ : ∃ x, gk = x + 1 := ⟨gk - 1, by omega⟩
      obtain ⟨b, o, rfl, hbw, hxs⟩ := HC.out (by omega)
      obtain ⟨x, hx, -⟩ := at_lt (xs := xs) (k := k) (by have := HN.out; omega)
      obtain ⟨u, hu, rfl⟩ := hxs k x hx
      have hstep := HJ.out k x hx
      have hbound := HL.out (k + 1)
      rw [hstep] at hbound
      have g1 := (HW.out.cell (p := ⟨b, o + k, none⟩) hbw).trans hu
      clear hxs hu hx
      by_cases hk0 : k = 0
      · subst hk0
        have hl0 : l = [] := by rw [Hl.out]; rfl
        subst hl0
        rw [if_pos rfl, List.nil_append] at hstep hbound
        rw [Nat.add_zero] at g1
        obtain ⟨v2, w2, hr2, hb2, hbe2⟩ := buf_append (P := Tryz.prog) (t := 22) (u := 9) Tryz.underlying22 Tryz.underlying9 infoB8 HB.out hzw x (by simpa using hbound)
        have HR2 := Lib.hid hr2
        have HB2 := Lib.hid hb2
        have HW2 := Lib.hid (HW.out.trans hbe2)
        have HS := Lib.hid hstep
        clear hr2 hb2 hbe2 hstep hbound HB HW
        go_wp2_with (at_builtin; refine wpl_append_run2 rfl (.tmp 19) (.tmp 23) 22 9 rfl rfl rfl HR2.out ?_)
        go_roundg g
        case measure => omega
        case rel => exact ⟨1, _, by go_num, by omega, Lib.hid (by rw [HS.out]; rfl), HB2, HW2⟩
      · rw [if_neg hk0] at hstep hbound
        have hki0 : (0 : Int) < (k : Int) := by omega
        rw [← Hl.out] at hstep hbound
        simp only [List.length_append] at hbound
        obtain ⟨v1, w1, hr1, hb1, hbe1⟩ := buf_append (P := Tryz.prog) (t := 22) (u := 9) Tryz.underlying22 Tryz.underlying9 infoB8 HB.out hzw sep (by have : sep.data.toList.length = sep.size := (by simp); omega)
        have hl1z : (l ++ sep.data.toList).length = l.length + sep.data.toList.length := List.length_append
        obtain ⟨l1, hl1⟩ : ∃ x, x = l ++ sep.data.toList := ⟨_, rfl⟩
        rw [← hl1] at hb1 hstep hl1z
        clear hl1
        obtain ⟨v2, w2, hr2, hb2, hbe2⟩ := buf_append (P := Tryz.prog) (t := 22) (u := 9) Tryz.underlying22 Tryz.underlying9 infoB8 hb1 (Nat.le_trans hzw hbe1.size) x (by
          have e1 : sep.data.toList.length = sep.size := by simp
          have e2 : x.data.toList.length = x.size := by simp
          omega)
        clear hl1z
        have g2 := (hbe1.cell (p := ⟨b, o + k, none⟩) hbw).trans g1
        obtain ⟨⟨a1, c1, hv1⟩, -⟩ := hb1
        subst hv1
        have HR1 := Lib.hid hr1
        have HR2 := Lib.hid hr2
        have HB2 := Lib.hid hb2
        have HW2 := Lib.hid (HW.out.trans (hbe1.trans hbe2))
        have HS := Lib.hid hstep
        clear hr1 hr2 hb2 hbe1 hbe2 hstep hbound HB HW g1
        go_wp2_with (first
          | (at_builtin; refine wpl_append_run2 rfl (.tmp 16) (.tmp 17) 22 9 rfl rfl rfl HR1.out ?_)
          | (at_builtin; refine wpl_append_run2 rfl (.tmp 19) (.tmp 23) 22 9 rfl rfl rfl HR2.out ?_))
        go_roundg g
        case measure => omega
        case rel => exact ⟨k + 1, _, by go_num, by omega, Lib.hid (by rw [HS.out]), HB2, HW2⟩
    · have hki : ¬ ((k : Int) < (n : Int)) := by omega
      have hkn2 : k = n := by omega
      have HX := Lib.hid (show R = ⟨l.toArray⟩ from by rw [H0.out, Hl.out, hkn2, HF.out])
      have hcv := buf_string (P := Tryz.prog) (t := 22) (u := 9) Tryz.underlying22 Tryz.underlying9 Tryz.underlying5 HB.out
      clear Hl HB
      go_wp2
      go_ret
      exact ⟨by rw [HX.out]; rfl, HW.out⟩
theorem impl_Join_c {w : World} {v : Value} {xs : List ByteArray} {sep : ByteArray} (h : TxR w v xs) (h0 : 0 < xs.length) (hxs : xs.length ≤ 1099511627776) (hlen : (Lib.join (bytL xs) sep.data.toList).length ≤ 1099511627776) :
    Calls Tryz.prog 67 #[v, .string sep] w fun e w' => e = .returned (.string (joinB xs sep)) ∧ Below w.heap.size w w' := by
  obtain ⟨va, vc, rfl, hc1, hc2, hcell⟩ := h.shape
  obtain ⟨b, o, rfl, hb, hx⟩ := hcell h0
  exact Tryz.strings_Join b o vc xs sep w (fun j x hj => by obtain ⟨u, hu, rfl⟩ := hx j x hj; exact hu) hb (by omega) hc1 (by unfold bytL at hlen; omega)
theorem fmt_small (m : Nat) (h : m < 100) : fmtN m = ⟨(Lib.decDigits m).toArray⟩ := by
  have : ∀ m, m < 100 → fmtN m = ⟨(Lib.decDigits m).toArray⟩ := by decide +kernel
  exact this m h
theorem impl_FormatInt_c {w : World} {m : Nat} (hm : m < 100) : Calls Tryz.prog 66 #[.int .i64 m] w fun e w' => e = .returned (.string (fmtN m)) ∧ w = w' := by
  have H := Lib.hid (Tryz.strconv_Itoa_small m hm)
  rw [fmt_small m hm]
  generalize (⟨(Lib.decDigits m).toArray⟩ : ByteArray) = T at H ⊢
  go_enter Tryz.func66, Tryz.ntmps66
  go_wp2_with fail
  (with_reducible refine (H.out _).mono ?_)
  rintro e w' ⟨rfl, rfl⟩
  go_wp2
  go_ret
  exact ⟨rfl, rfl⟩
end Go.Proofs.YtcilgihmaaobeaaGreatDoor
end

section
namespace Go.Sd
open Go.RowKit Go.Deep
/-- Elements of sz cells each, given by f. -/
structure Lay {α : Type} (sz : Nat) (f : α → List Value) : Prop where
  pos : 0 < sz
  len : ∀ x, (f x).length = sz
  one : ∀ x u, u ∈ f x → u.oneCell' = true
def RowG {α : Type} (e : TypeId) (sz : Nat) (f : α → List Value) : OwnRel (List α) := fun w v xs F => w.ownsRow 0 e sz v xs.length (xs.flatMap f) ∧ F = v.ownBlock.toList
section
variable {α : Type} {e : TypeId} {sz : Nat} {f : α → List Value}
theorem flatMap_len (L : Lay sz f) : ∀ (xs : List α), (xs.flatMap f).length = xs.length * sz
  | [] => by simp
  | x :: xs => by simp only [List.flatMap_cons, List.length_append, List.length_cons, L.len, flatMap_len L xs, Nat.add_mul]; omega
theorem flatMap_at (L : Lay sz f) : ∀ {xs : List α} {i j : Nat} {x : α} {u : Value}, xs[i]? = some x → (f x)[j]? = some u → (xs.flatMap f)[i * sz + j]? = some u
  | [], i, j, x, u, h, _ => by simp at h
  | y :: xs, 0, j, x, u, h, hu => by
    simp at h
    subst h
    have hj := (List.getElem?_eq_some_iff.1 hu).1
    rw [List.flatMap_cons, Nat.zero_mul, Nat.zero_add, List.getElem?_append_left hj]
    exact hu
  | y :: xs, i + 1, j, x, u, h, hu => by
    have h2 : xs[i]? = some x := by simpa using h
    have ih := flatMap_at L h2 hu
    have e : (i + 1) * sz + j = (f y).length + (i * sz + j) := by rw [L.len, Nat.add_mul]; omega
    rw [List.flatMap_cons, e, List.getElem?_append_right (by omega), Nat.add_sub_cancel_left]
    exact ih
theorem RowG.held : Held (RowG e sz f) := by
  refine ⟨fun w w' v xs F ⟨h, eF⟩ hk => ?_, fun w v xs F ⟨h, eF⟩ b hb => ?_⟩
  · subst eF
    exact ⟨ownsRow_keep h fun b hb => hk b (by simp [hb]), rfl⟩
  · subst eF
    simp at hb
    exact (h.lt b hb).2
theorem RowG.nil {w : World} {lo : Nat} : New (RowG e sz f) lo w (.slice none 0 0) [] := ⟨[], ⟨World.ownsRow_nil _ _ _ _, rfl⟩, by simp [Fresh]⟩
theorem RowG.slice {w : World} {v : Value} {xs : List α} {F : List Nat} (h : RowG e sz f w v xs F) : ∃ a c, v = .slice a xs.length c := by
  rcases h.1.2 with ⟨rfl, h0⟩ | ⟨g, cap, cur, rfl, _⟩
  · exact ⟨none, 0, by rw [h0]⟩
  · exact ⟨_, _, rfl⟩
theorem RowG.at (L : Lay sz f) {w : World} {v : Value} {xs : List α} {F : List Nat} (h : RowG e sz f w v xs F) (h0 : 0 < xs.length) :
    ∃ g c, v = .slice (some ⟨g, 0, none⟩) xs.length c ∧ F = [g] ∧ xs.length ≤ c ∧ c ≤ maxLen ∧ g < w.heap.size ∧ ∀ i x j u, xs[i]? = some x → (f x)[j]? = some u → w.cell? ⟨g, i * sz + j, none⟩ = some u ∧ w.frozen? ⟨g, i * sz + j, none⟩ = false := by
  obtain ⟨h, rfl⟩ := h
  have hh := h
  rcases h.2 with ⟨rfl, h1⟩ | ⟨g, cap, cur, rfl, _, hg, h1, h2, h3, h4⟩
  · omega
  · refine ⟨g, cap, rfl, rfl, h1, h2, (hh.lt g rfl).2, fun i x j u hx hu => ⟨?_, ?_⟩⟩
    · have := hh.cells (g := g) rfl _ _ (flatMap_at L hx hu)
      have e : (⟨g, 0, none⟩ : Addr).add (i * sz + j) = ⟨g, i * sz + j, none⟩ := by unfold Addr.add; split <;> simp_all
      rw [e] at this
      exact this
    · have hc := hh.cells (g := g) rfl _ _ (flatMap_at L hx hu)
      simp [World.frozen?, hg]
theorem New.rowAt (L : Lay sz f) {lo : Nat} {w : World} {v : Value} {xs : List α} (h : New (RowG e sz f) lo w v xs) (h0 : 0 < xs.length) :
    ∃ g c, v = .slice (some ⟨g, 0, none⟩) xs.length c ∧ xs.length ≤ c ∧ c ≤ maxLen ∧ lo ≤ g ∧ g < w.heap.size ∧ ∀ i x j u, xs[i]? = some x → (f x)[j]? = some u → w.cell? ⟨g, i * sz + j, none⟩ = some u ∧ w.frozen? ⟨g, i * sz + j, none⟩ = false := by
  obtain ⟨F, hF, hn, hge⟩ := h
  obtain ⟨g, c, e, rfl, h1, h2, h3, h4⟩ := hF.at L h0
  exact ⟨g, c, e, h1, h2, hge g (by simp), h3, h4⟩
theorem New.rowSlice {lo : Nat} {w : World} {v : Value} {xs : List α} (h : New (RowG e sz f) lo w v xs) : ∃ a c, v = .slice a xs.length c := by
  obtain ⟨F, hF, _⟩ := h; exact hF.slice
section
variable {P : Program} {w : World} {ops : Array Oper} {rest : List Oper} {o : Oper} {a : Act} {Q : Exit → Act → World → Prop}
end
end
def acell (x : Arc3) : List Value := [.int .i64 x.1, .int .i64 x.2.1, .int .i64 x.2.2]
theorem acell_lay : Lay 3 acell := ⟨by decide, fun _ => rfl, fun x u hu => by
  simp [acell] at hu
  rcases hu with rfl | rfl | rfl <;> rfl⟩
abbrev RowA (e : TypeId) : OwnRel (List Arc3) := RowG e 3 acell
theorem RowG.arcs {e : TypeId} {w : World} {v : Value} {xs : List Arc3} {F : List Nat} (h : RowA e w v xs F) : OArcs w v xs F := by
  by_cases h0 : 0 < xs.length
  · obtain ⟨g, c, rfl, rfl, h1, h2, h3, h4⟩ := RowG.at acell_lay h h0
    have h2' : c ≤ 9223372036854775807 := h2
    refine ⟨by omega, Or.inr ⟨g, c, rfl, h1, h2', rfl, h3, fun j hj => ?_⟩⟩
    obtain ⟨x, hx, _⟩ := at_lt (xs := xs) (k := j / 3) (by omega)
    have hg : xs.getD (j / 3) (0, 0, 0) = x := by simp [List.getD, hx]
    have e : j / 3 * 3 + j % 3 = j := by omega
    have key : arcF xs xs.length j = comp (j % 3) x := by unfold arcF; rw [if_pos (by omega), hg]
    rw [key]
    have h5 := h4 (j / 3) x (j % 3) (.int .i64 (comp (j % 3) x)) hx (by
      have h3 : j % 3 = 0 ∨ j % 3 = 1 ∨ j % 3 = 2 := by omega
      rcases h3 with h3 | h3 | h3 <;> rw [h3] <;> rfl)
    rw [e] at h5
    exact h5
  · have e0 : xs = [] := List.eq_nil_of_length_eq_zero (by omega)
    subst e0
    obtain ⟨h, rfl⟩ := h
    rcases h.2 with ⟨rfl, _⟩ | ⟨g, cap, cur, rfl, _, hg, h1, h2, _, _⟩
    · exact ⟨by simp, Or.inl ⟨rfl, rfl, rfl⟩⟩
    · have h2' : cap ≤ 9223372036854775807 := h2
      exact ⟨by simp, Or.inr ⟨g, cap, rfl, h1, h2', rfl, (h.lt g rfl).2, fun j hj => by simp at hj⟩⟩
end Go.Sd
end
