/-
  Texts of this claim joined: laws for its walks, contracts of the functions that the law reaches.
-/
import Derived.Test.YtcilgihmaaobeaaRows
import Derived.Test.YtcilgihmaaobeaaFnResolvedM1
import Derived.Test.YtcilgihmaaobeaaFnResolvedM4
import Derived.Test.YtcilgihmaaobeaaFnResolvedM5
import Derived.Test.YtcilgihmaaobeaaFnResolvedM9
import Derived.Test.YtcilgihmaaobeaaFnResolvedM2
import Derived.IntWalk
import Derived.Test.YtcilgihmaaobeaaFnResolvedM6
import Derived.BigQuiet
import Derived.Deep.RegionHeld3
import Derived.Deep.DeepCutAuto
import Derived.Test.YtcilgihmaaobeaaFnResolvedM7
set_option linter.unusedVariables false
set_option linter.unusedSimpArgs false
section
namespace Go.Proofs.Ytcilgihmaaobeaa
open Go.RowKit Go.Deep Go.Sd
set_option linter.unusedSimpArgs false
set_option maxHeartbeats 400000 in
theorem powerK_c {w : World} {L e : Nat} (hL : L ≤ 3) (he : e ≤ 6) :
    Calls Try.prog 101 #[.int .i64 L, .int .i64 e] w fun x w' => x = .returned (.int .i64 ((L ^ e : Nat) : Int)) ∧ w = w' := by
  have HL := Lib.hid hL
  go_enter Try.func101, Try.ntmps101
  go_wp2
  go_loopg [5, 7] e (fun g v i wr => ∃ (k z : Nat), i = .int .i64 k ∧ v = .int .i64 z ∧ k + g = e ∧ Hid (z = L ^ k) ∧ w = wr)
  case atStart => exact ⟨0, 1, rfl, rfl, by omega, Lib.hid rfl, rfl⟩
  case round =>
    obtain ⟨k, z, rfl, rfl, hk, hz, rfl⟩ := hrel
    by_cases hlt : k < e
    · have hz1 : z ≤ 729 := by rw [hz.out]; exact pow_le HL.out (by omega)
      have hz2 : z * L ≤ 729 := by rw [hz.out, ← Nat.pow_succ]; exact pow_le HL.out (by omega)
      have hz3 : wrap64 ((z : Int) * (L : Int)) = ((z * L : Nat) : Int) := by rw [← Int.natCast_mul]; exact IntWalk.wrap64_in _ (by omega)
      have R := Lib.hid (show z * L = L ^ (k + 1) from by rw [hz.out, Nat.pow_succ])
      clear hz
      generalize z * L = zz at hz2 hz3 R
      go_wp2
      go_roundg (e - (k + 1))
      case measure => omega
      case rel => exact ⟨k + 1, zz, by go_num, by first | rfl | rw [hz3], by omega, R, rfl⟩
    · have E := Lib.hid (show z = L ^ e from by rw [hz.out]; congr 1; omega)
      clear hz
      go_wp2
      go_ret
      exact ⟨by rw [E.out]; rfl, rfl⟩
theorem SlOf.comap {α β : Type} {f : β → Value} {h : α → β} {w : World} {v : Value} {xs : List α} (hs : SlOf (ValR f) w v (xs.map h)) : SlOf (ValR fun x => f (h x)) w v xs := by
  obtain ⟨us, h1, h2, h3⟩ := hs
  exact ⟨us, h1, by simpa using h2, fun i u x hu hx => h3 i u (h x) hu (by rw [List.getElem?_map, hx]; rfl)⟩
set_option maxHeartbeats 2000000 in
set_option maxRecDepth 100000 in
theorem wordAt_c {w : World} {L n i : Nat} (hL0 : 0 < L) (hL : L ≤ 3) (hn : n ≤ 6) (hi : i < 1000) :
    Calls Try.prog 102 #[.int .i64 L, .int .i64 n, .int .i64 i] w fun e w' => e = .returned (.string (wordT (wordD L n i))) ∧ Below w.heap.size w w' := by
  obtain ⟨D, hD⟩ : ∃ D, D = wordD L n i := ⟨_, rfl⟩
  rw [← hD]
  have HD0 := Lib.hid (show D.take n = wordD L n i from by rw [hD]; exact List.take_of_length_le (by rw [wordD_len]; exact Nat.le_refl _))
  have HDl := Lib.hid (show D.length = n from by rw [hD]; exact wordD_len _ _ _)
  have HDx := Lib.hid (show ∀ x, x ∈ D → x < 3 from fun x hx => by rw [hD] at hx; have := wordD_lt hL0 n i x hx; omega)
  have HL := Lib.hid hL
  clear hD
  go_enter Try.func102, Try.ntmps102
  go_wp2_with (first
    | (at_make; refine wpl_make (R := OValR (Value.int .u8)) rfl (.tmp 9) (.tmp 9) 22 rfl 5 (.int .u8 0) 1 Try.underlying22 infoB8 rfl n (by rfl) (by rfl) (by omega) (by omega) (d := (0 : Int)) (fun _ => ⟨rfl, rfl⟩) ?_; intro w1 hz1 hn1 hb1; have Hz1 := Lib.hid hz1; have Hn1 := Lib.hid hn1; have Hb1 := Lib.hid hb1; clear hz1 hn1 hb1)
    | fail)
  have HN0 := Lib.hid (show New (OwnOf 5 (OValR (Value.int .u8))) w.heap.size w1 (.slice (some ⟨w.heap.size, 0, none⟩) n n) (List.replicate n 0 ++ (D.drop n).map fun x : Nat => 97 + (x : Int)) from by
    rw [List.drop_of_length_le (by rw [HDl.out]; exact Nat.le_refl _)]
    simpa using Hn1.out)
  clear Hz1 Hn1
  go_loopg [2, 8] n (fun g vi v8 wr => ∃ (j : Nat), vi = .int .i64 j ∧ v8 = .int .i64 ((g : Int) - 1) ∧ g ≤ n ∧ j < 1000 ∧ Hid (D.take g = wordD L g j) ∧ Hid (New (OwnOf 5 (OValR (Value.int .u8))) w.heap.size wr (.slice (some ⟨w.heap.size, 0, none⟩) n n) (List.replicate g 0 ++ (D.drop g).map fun x : Nat => 97 + (x : Int))) ∧ Hid (Below w.heap.size w wr))
  case atStart => exact ⟨i, rfl, by first | rfl | (congr 1), Nat.le_refl _, hi, HD0, HN0, Hb1⟩
  case round =>
    clear HD0 HN0 Hb1
    obtain ⟨j, rfl, rfl, hg, hj, HT, HN, HB⟩ := hrel
    cases gk with
    | zero =>
      have hcv := conv_word (w := wr) Try.underlying22 Try.underlying5 Try.underlying9 (wd := D) (a := some ⟨w.heap.size, 0, none⟩) (n := n) (c := n) (by
        obtain ⟨F, hF, _⟩ := HN.out
        have h1 : SlOf (ValR (Value.int .u8)) wr (.slice (some ⟨w.heap.size, 0, none⟩) n n) (D.map fun x : Nat => 97 + (x : Int)) := by
          have h2 : SlOf (ValR (Value.int .u8)) wr _ _ := OwnOf.reads (fun _ _ _ _ h => h.1) hF
          simpa using h2
        exact SlOf.comap (h := fun x : Nat => 97 + (x : Int)) h1) HDx.out
      clear HT HN
      go_wp2
      go_ret
      exact ⟨rfl, HB.out⟩
    | succ m =>
      have hlen : (List.replicate (m + 1) (0 : Int) ++ (D.drop (m + 1)).map fun x : Nat => 97 + (x : Int)).length = n := by simp [HDl.out]; omega
      obtain ⟨b', c', hv, _, _, hblt, hcl, hfr, hst⟩ := HN.out.val_at (i := m) (x := 0) (fun _ => rfl) (by rw [List.getElem?_append_left (by simp)]; simp)
      rw [hlen] at hv
      simp at hv
      obtain ⟨rfl, rfl⟩ := hv
      have hr : D.drop m = (j % L) :: D.drop (m + 1) ∧ D.take m = wordD L m (j / L) := by
        have h1 := HT.out
        unfold wordD at h1
        have hm : m < D.length := by rw [HDl.out]; omega
        obtain ⟨x, hx, hd⟩ := at_lt hm
        rw [List.take_add_one, hx] at h1
        have h2 := List.append_inj' h1 rfl
        have h3 : x = j % L := by have := h2.2; simpa using this
        exact ⟨by rw [hd, h3], h2.1⟩
      have hrx : j % L < L := Nat.mod_lt _ hL0
      have hd1 : j / L ≤ j := Nat.div_le_self _ _
      have hm1 : (j : Int) % (L : Int) = ((j % L : Nat) : Int) := by rw [Int.natCast_emod]
      have hm2 : (j : Int) / (L : Int) = ((j / L : Nat) : Int) := by rw [Int.natCast_ediv]
      generalize j % L = r at hr hrx hm1
      generalize j / L = d at hr hd1 hm2
      have hL3 := HL.out
      have HT2 := Lib.hid hr.2
      have HN2 := Lib.hid (show New (OwnOf 5 (OValR (Value.int .u8))) w.heap.size (wr.setCell ⟨w.heap.size, m, none⟩ (.int .u8 (97 + (r : Int)))) (.slice (some ⟨w.heap.size, 0, none⟩) n n) (List.replicate m 0 ++ (D.drop m).map fun x : Nat => 97 + (x : Int)) from by
        have h := hst (97 + (r : Int))
        have e : (List.replicate (m + 1) (0 : Int) ++ (D.drop (m + 1)).map fun x : Nat => 97 + (x : Int)).set m (97 + (r : Int)) = List.replicate m 0 ++ (D.drop m).map fun x : Nat => 97 + (x : Int) := by
          rw [hr.1, List.replicate_succ', List.append_assoc, List.set_append_right _ _ (by simp)]
          simp
        rw [e] at h
        exact h)
      have HB2 := Lib.hid (HB.out.setCell (p := ⟨w.heap.size, m, none⟩) (Nat.le_refl _) (.int .u8 (97 + (r : Int))))
      have hu8 : IntKind.u8.wrap (97 + (r : Int)) = 97 + (r : Int) := IntWalk.u8_in _ (by omega)
      have hL1 : (L : Int) ≠ 0 := by omega
      have hmn : (m : Int) < (n : Int) := by omega
      have hwr : IntKind.i64.wrap (d : Int) = (d : Int) := IntWalk.i64_in _ (by omega)
      have hwr2 : IntKind.i64.wrap (r : Int) = (r : Int) := IntWalk.i64_in _ (by omega)
      clear HT HN HB hst hr hlen
      go_wp2
      go_roundg m
      case measure => omega
      case rel => exact ⟨d, rfl, rfl, by omega, by omega, HT2, HN2, HB2⟩
abbrev OStrL (e : TypeId) : OwnRel (List ByteArray) := OwnOf e (OValR Value.string)
/-- append of a text, laid in a block of its own. -/
theorem New.pushStr {lo : Nat} {w : World} {v : Value} {xs : List ByteArray} (h : New (OStrL 9) lo w v xs) (hlo : lo ≤ w.heap.size) {w0 : World} (hb : Below w.heap.size w w0) (s : ByteArray) (hl : xs.length ≤ 1000000) :
    ∃ a c w', (Builtin.append_ #[36, 36] 36 #[v, .slice (some ⟨w0.heap.size, 0, none⟩) 1 1]).run Try.prog (w0.alloc (.cells #[.string s] 9)) = .ok (.slice a (xs.length + 1) c) w' ∧ New (OStrL 9) lo w' (.slice a (xs.length + 1) c) (xs ++ [s]) ∧ Below lo w w' := by
  obtain ⟨v', w', hr, hs, hb'⟩ := Sep.push (P := Try.prog) OStr.kept 36 36 (.string ⟨#[]⟩) 16 Try.underlying36 infoStr rfl (Sep.one (OwnOf.kept OStr.kept).held h) hlo (w1 := w0.alloc (.cells #[.string s] 9)) (hb.alloc hb.size _) (q := .string s) (x := s) ⟨[], ⟨rfl, rfl⟩, by simp [Fresh]⟩ (bb := w0.heap.size) (c := 1) (World.cell?_alloc_at _ _ _ 0 rfl) (by omega) (by omega)
  have hn := hs.headNew
  obtain ⟨a, c, e, _⟩ := hs.strsAt
  subst e
  rw [show (xs ++ [s]).length = xs.length + 1 by simp] at hr hn
  exact ⟨a, c, w', hr, hn, hb'⟩
set_option maxHeartbeats 2000000 in
set_option maxRecDepth 100000 in
theorem wordsOf_c {w : World} {L n : Nat} (hL0 : 0 < L) (hL : L ≤ 3) (hn : n ≤ 6) :
    Calls Try.prog 84 #[.int .i64 L, .int .i64 n] w (Makes (OStrL 9) w ((allW L n).map wordT)) := by
  have HE := Lib.hid (show (List.range (L ^ n)).map (fun i => wordT (wordD L n i)) = (allW L n).map wordT from by rw [allW_eq hL0, List.map_map]; rfl)
  have HP := Lib.hid (fun w => powerK_c (w := w) hL hn)
  have HW := Lib.hid (fun w i (hi : i < 1000) => wordAt_c (w := w) hL0 hL hn hi)
  have hM := pow_le hL hn
  generalize L ^ n = M at HE HP hM
  have H0 := Lib.hid (New.empty (e := 9) (R := OValR Value.string) w (Nat.le_refl _))
  have B0 := Lib.hid (show Below w.heap.size w (w.alloc (.cells #[] 9)) from (Below.refl _ _).alloc (Nat.le_refl _) _)
  go_enter Try.func84, Try.ntmps84
  go_wp2_with fail
  refine (HP.out _).mono ?_
  rintro e w' ⟨rfl, rfl⟩
  go_wp2
  go_loopg [5, 11] M (fun g vs i wr => ∃ (k : Nat) (a : Option Addr) (c : Nat), vs = .slice a k c ∧ i = .int .i64 k ∧ k + g = M ∧ Hid (New (OStrL 9) w.heap.size wr (.slice a k c) ((List.range k).map fun i => wordT (wordD L n i))) ∧ Hid (Below w.heap.size w wr))
  case atStart => exact ⟨0, _, _, rfl, rfl, by omega, H0, B0⟩
  case round =>
    clear H0 B0
    obtain ⟨k, a, c, rfl, rfl, hk, HN, HB⟩ := hrel
    by_cases hlt : k < M
    · have C1 := Lib.hid (HW.out wr k (by omega))
      have hz := HB.out.size
      have hki : (k : Int) < (M : Int) := by omega
      go_wp2_with fail
      refine C1.out.mono ?_
      rintro e w2 ⟨rfl, hb2⟩
      obtain ⟨a', c', w3, hr, hn3, hb3⟩ := New.pushStr HN.out hz hb2 (wordT (wordD L n k)) (by simp; omega)
      have e1 : ((List.range k).map fun i => wordT (wordD L n i)).length = k := by simp
      rw [e1] at hr hn3
      have HN3 := Lib.hid (show New (OStrL 9) w.heap.size w3 (.slice a' (k + 1) c') ((List.range (k + 1)).map fun i => wordT (wordD L n i)) from by rw [List.range_succ, List.map_append]; exact hn3)
      have HB3 := Lib.hid (HB.out.trans hb3)
      have Hr := Lib.hid hr
      clear hr hn3 hb3 hb2 HN HB C1 e1
      go_wp2_with (first
        | (at_builtin; refine wpl_append_run rfl (.tmp 14) (.tmp 19) 36 rfl rfl rfl Hr.out ?_)
        | fail)
      go_roundg (M - (k + 1))
      case measure => omega
      case rel => exact ⟨k + 1, _, _, rfl, by go_num, by omega, HN3, HB3⟩
    · obtain rfl : k = M := by omega
      have HR := Lib.hid (show New (OStrL 9) w.heap.size wr (.slice a k c) ((allW L n).map wordT) from by rw [← HE.out]; exact HN.out)
      clear HN
      go_wp2
      go_ret
      exact ⟨_, rfl, HR.out, HB.out⟩
set_option maxHeartbeats 2000000 in
set_option maxRecDepth 100000 in
theorem filtered_c {w : World} {L n : Nat} (hL0 : 0 < L) (hL : L ≤ 3) (hn : n ≤ 6) {F : FuncId} {caps : Array Value} {f : List Nat → Bool} (hcf : ∀ (args : Array Value) (w : World), (callFunc F args).run Try.prog w = .ok (.enter F args) w) (hF : ∀ w1 wd, Below w.heap.size w w1 → wd.length = n → (∀ x, x ∈ wd → x < L) → Calls Try.prog F (#[.string (wordT wd)] ++ caps) w1 fun e w' => e = .returned (.bool (f wd)) ∧ Below w1.heap.size w1 w') :
    Calls Try.prog 51 #[.int .i64 L, .int .i64 n, .func (.func F) #[] caps] w (Makes (OStrL 9) w (((allW L n).filter f).map wordT)) := by
  have HW := Lib.hid (fun w1 => wordsOf_c (w := w1) hL0 hL hn)
  have Hm := Lib.hid (fun wd (h : wd ∈ allW L n) => allW_mem hL0 h)
  have HF := Lib.hid hF
  have hM : (allW L n).length ≤ 729 := by rw [allW_len hL0]; exact pow_le hL hn
  have H0 := Lib.hid (New.empty (e := 9) (R := OValR Value.string) w (Nat.le_refl _))
  generalize allW L n = A at HW Hm hM ⊢
  clear hF
  obtain ⟨w0, e0⟩ : ∃ x, x = w.alloc (.cells #[] 9) := ⟨_, rfl⟩
  have B0 := Lib.hid (show Below w.heap.size w w0 from by rw [e0]; exact (Below.refl _ _).alloc (Nat.le_refl _) _)
  rw [← e0] at H0
  have e0s := e0.symm
  clear e0
  go_enter Try.func51, Try.ntmps51
  go_wp2_with fail
  refine (HW.out _).mono ?_
  rintro e w1 ⟨r, rfl, hn1, hb1⟩
  have hzw := B0.out.size
  have hs1 := ((Sep.one (OwnOf.kept OStr.kept).held H0.out).new (OwnOf.kept OStr.kept).held hb1 hzw hn1).swap
  obtain ⟨ra, rc, er, _⟩ := hs1.swap.strsAt
  subst er
  rw [List.length_map] at hs1 ⊢
  have HS1 := Lib.hid hs1
  have HB1 := Lib.hid (B0.out.trans (hb1.mono hzw))
  clear hn1 hb1 hs1 H0 B0 e0s
  go_wp2
  go_loopg [7, 15] A.length (fun g vs i wr => ∃ (k : Nat) (a : Option Addr) (c : Nat), vs = .slice a ((A.take k).filter f).length c ∧ i = .int .i64 k ∧ k + g = A.length ∧ Hid (Sep w.heap.size wr [Res.strs 9 (.slice a ((A.take k).filter f).length c) (((A.take k).filter f).map wordT), Res.strs 9 (.slice ra A.length rc) (A.map wordT)]) ∧ Hid (Below w.heap.size w wr))
  case atStart => exact ⟨0, _, _, rfl, rfl, by omega, HS1, HB1⟩
  case round =>
    clear HS1 HB1
    obtain ⟨k, a, c, rfl, rfl, hk, HS, HB⟩ := hrel
    by_cases hlt : k < A.length
    · obtain ⟨wd, hwd, _⟩ := at_lt hlt
      obtain ⟨_, _, hv, hq⟩ := HS.out.swap.strsAt
      obtain ⟨b, e1, hb, hc⟩ := hq (by simp; omega)
      simp at hv
      obtain ⟨rfl, rfl⟩ := hv
      subst e1
      have g0 := hc k (wordT wd) (by simp [hwd])
      have hm := Hm.out wd (List.mem_of_getElem? hwd)
      have C1 := Lib.hid (HF.out wr wd HB.out hm.1 hm.2)
      have hz := HB.out.size
      have hki : (k : Int) < (A.length : Int) := by omega
      have HT := Lib.hid (show (A.take (k + 1)).filter f = (A.take k).filter f ++ (if f wd = true then [wd] else []) from by rw [← take_snoc' hwd, List.filter_append]; congr 1; simp [List.filter_cons])
      have hfl : ((A.take k).filter f).length ≤ 729 := Nat.le_trans (List.length_filter_le _ _) (by simp; omega)
      generalize hfn : (A.take k).filter f = fl at HS HT hfl
      clear hfn hwd hq hc hm
      go_wp2_with fail
      refine C1.out.mono ?_
      rintro e w2 ⟨rfl, hb2⟩
      have HS2 := Lib.hid (HS.out.below hb2 (Nat.le_refl _))
      have HB2 := Lib.hid (HB.out.trans (hb2.mono hz))
      have g2 := (hb2.cell (p := ⟨b, k, none⟩) hb).trans g0
      have hz2 := HB2.out.size
      clear C1 hb2 HS HB g0 hb
      cases hf : f wd with
      | false =>
        have HT2 := Lib.hid (show (A.take (k + 1)).filter f = fl from by rw [HT.out, hf]; simp)
        clear HT
        go_wp2
        go_roundg (A.length - (k + 1))
        case measure => omega
        case rel => exact ⟨k + 1, _, _, by rw [HT2.out], by go_num, by omega, by rw [HT2.out]; exact HS2, HB2⟩
      | true =>
        have HT2 := Lib.hid (show (A.take (k + 1)).filter f = fl ++ [wd] from by rw [HT.out, hf]; simp)
        obtain ⟨v', w3, hr, hs3, hb3⟩ := Sep.push (P := Try.prog) OStr.kept 36 36 (.string ⟨#[]⟩) 16 Try.underlying36 infoStr rfl HS2.out hz2 (w1 := w2.alloc (.cells #[.string (wordT wd)] 9)) ((Below.refl _ _).alloc (Nat.le_refl _) _) (q := .string (wordT wd)) (x := wordT wd) ⟨[], ⟨rfl, rfl⟩, by simp [Fresh]⟩ (bb := w2.heap.size) (c := 1) (World.cell?_alloc_at _ _ _ 0 rfl) (by simp; omega) (by simp; omega)
        obtain ⟨a', c', ev, _⟩ := hs3.strsAt
        subst ev
        have e5 : (fl.map wordT ++ [wordT wd]).length = (fl ++ [wd]).length := by simp
        have e6 : fl.map wordT ++ [wordT wd] = (fl ++ [wd]).map wordT := by simp
        rw [e5, e6] at hs3
        rw [e5] at hr
        have e7 : (fl ++ [wd]).length = fl.length + 1 := by simp
        rw [e7] at hs3 hr
        have HS3 := Lib.hid hs3
        have HB3 := Lib.hid (HB2.out.trans hb3)
        have Hr := Lib.hid hr
        have E7 := Lib.hid e7
        clear HT hs3 hr hb3 e5 e6 e7 HS2 HB2
        go_wp2_with (first
          | (at_builtin; refine wpl_append_run rfl (.tmp 22) (.tmp 24) 36 rfl rfl rfl Hr.out ?_)
          | fail)
        go_roundg (A.length - (k + 1))
        case measure => omega
        case rel => exact ⟨k + 1, _, _, by rw [HT2.out, E7.out], by go_num, by omega, by rw [HT2.out, E7.out]; exact HS3, HB3⟩
    · have HR := Lib.hid (show New (OStrL 9) w.heap.size wr (.slice a ((A.take k).filter f).length c) ((A.filter f).map wordT) from by have h := HS.out.headNew; rw [List.take_of_length_le (by omega)] at h ⊢; exact h)
      have hki : ¬ ((k : Int) < (A.length : Int)) := by omega
      generalize ((A.take k).filter f).length = fl at HR
      clear HS
      go_wp2
      go_ret
      exact ⟨_, rfl, HR.out, HB.out⟩
end Go.Proofs.Ytcilgihmaaobeaa
end

section
namespace Go.Proofs.Ytcilgihmaaobeaa
open Go.RowKit Go.Deep Go.Sd
set_option linter.unusedSimpArgs false
abbrev extW (L : Nat) (w : List Nat) : List (List Nat) := (List.range L).map fun x => w ++ [x]
set_option maxHeartbeats 4000000 in
set_option maxRecDepth 100000 in
theorem l2All_c {w : World} {L n : Nat} (hL0 : 0 < L) (hL : L ≤ 3) (hn : n ≤ 6) :
    Calls Try.prog 55 #[.int .i64 L, .int .i64 n] w (Makes (OStrL 9) w ((allW L n).map wordT)) := by
  have Hln := Lib.hid (fun i (hi : i ≤ n) => (show (allW L i).length ≤ 729 from by rw [allW_len hL0]; exact pow_le hL (by omega)))
  have Hme := Lib.hid (fun i wd (h : wd ∈ allW L i) => allW_mem hL0 h)
  have HLn := Lib.hid hL0
  have H0 := Lib.hid (show New (OStrL 9) w.heap.size (w.alloc (.cells #[.string ⟨#[]⟩] 9)) (.slice (some ⟨w.heap.size, 0, none⟩) 1 1) ((allW L 0).map wordT) from New.oneG (e := 9) OStr.kept (lo := w.heap.size) (w := w) (u := .string ⟨#[]⟩) (x := ⟨#[]⟩) ⟨[], ⟨rfl, rfl⟩, by simp [Fresh]⟩ (Nat.le_refl _))
  have HB0 := Lib.hid (show Below w.heap.size w (w.alloc (.cells #[.string ⟨#[]⟩] 9)) from (Below.refl _ _).alloc (Nat.le_refl _) _)
  clear hL0
  go_enter Try.func55, Try.ntmps55
  go_wp2
  go_loopg [5, 6] n (fun g vs i wr => ∃ (k : Nat) (a : Option Addr) (c : Nat), vs = .slice a (allW L k).length c ∧ i = .int .i64 k ∧ k + g = n ∧ Hid (New (OStrL 9) w.heap.size wr (.slice a (allW L k).length c) ((allW L k).map wordT)) ∧ Hid (Below w.heap.size w wr))
  case atStart => exact ⟨0, _, _, rfl, rfl, by omega, H0, HB0⟩
  case round =>
    clear H0 HB0
    obtain ⟨k, a, c, rfl, rfl, hk, HN, HB⟩ := hrel
    obtain ⟨wq, rfl⟩ : ∃ x, x = wr := ⟨_, rfl⟩
    by_cases hlt : k < n
    · have hz := HB.out.size
      have HA := Lib.hid (show allW L (k + 1) = (allW L k).flatMap (extW L) from rfl)
      have hAl := Hln.out k (by omega)
      have hAl1 := Hln.out (k + 1) (by omega)
      have HAm := Lib.hid (fun wd h => Hme.out k wd h)
      have hki : (k : Int) < (n : Int) := by omega
      rw [HA.out] at hAl1
      have HS1 := Lib.hid ((Sep.one (OwnOf.kept OStr.kept).held HN.out).new (OwnOf.kept OStr.kept).held ((Below.refl _ _).alloc (Nat.le_refl _) _) hz (New.empty (e := 9) (R := OValR Value.string) wq (Nat.le_refl _)))
      obtain ⟨w2, e2⟩ : ∃ x, x = wq.alloc (.cells #[] 9) := ⟨_, rfl⟩
      rw [← e2] at HS1
      have HB1 := Lib.hid (show Below w.heap.size w w2 from by rw [e2]; exact HB.out.alloc hz _)
      have e2s := e2.symm
      generalize allW L k = A at HN HA hAl hAl1 HAm HS1 ⊢
      clear e2 HN HB
      go_wp2
      clear e2s
      go_loopg [7, 8] A.length (fun g2 vn i wr => ∃ (j : Nat) (na : Option Addr) (nc : Nat), vn = .slice na ((A.take j).flatMap (extW L)).length nc ∧ i = .int .i64 j ∧ j + g2 = A.length ∧ Hid (Sep w.heap.size wr [Res.strs 9 (.slice na ((A.take j).flatMap (extW L)).length nc) (((A.take j).flatMap (extW L)).map wordT), Res.strs 9 (.slice a A.length c) (A.map wordT)]) ∧ Hid (Below w.heap.size w wr))
      case atStart => exact ⟨0, _, _, rfl, rfl, by omega, HS1, HB1⟩
      case round =>
        clear HS1 HB1 hz
        obtain ⟨j, na, nc, rfl, rfl, hj, HS, HB⟩ := hrel
        obtain ⟨wj, rfl⟩ : ∃ x, x = wr := ⟨_, rfl⟩
        by_cases hjl : j < A.length
        · obtain ⟨wd, hwd, _⟩ := at_lt hjl
          have HT := Lib.hid (show (A.take (j + 1)).flatMap (extW L) = (A.take j).flatMap (extW L) ++ extW L wd from by rw [← take_snoc' hwd, List.flatMap_append]; simp)
          have Hle := Lib.hid (show ((A.take (j + 1)).flatMap (extW L)).length ≤ 729 from by
            have h1 : (A.flatMap (extW L)).length = ((A.take (j + 1)).flatMap (extW L)).length + ((A.drop (j + 1)).flatMap (extW L)).length := by rw [← List.length_append, ← List.flatMap_append, List.take_append_drop]
            omega)
          have hm := HAm.out wd (List.mem_of_getElem? hwd)
          have Hwd := Lib.hid hwd
          have hji : (j : Int) < (A.length : Int) := by omega
          generalize (A.take j).flatMap (extW L) = B at HS HT ⊢
          have HS0 := Lib.hid (show Sep w.heap.size wj [Res.strs 9 (.slice na (B ++ (extW L wd).take 0).length nc) ((B ++ (extW L wd).take 0).map wordT), Res.strs 9 (.slice a A.length c) (A.map wordT)] from by simpa using HS.out)
          clear HS hwd
          go_wp2
          go_loopg [7, 9] L (fun g3 vn i wr => ∃ (x : Nat) (na : Option Addr) (nc : Nat), vn = .slice na (B ++ (extW L wd).take x).length nc ∧ i = .int .i64 x ∧ x + g3 = L ∧ Hid (Sep w.heap.size wr [Res.strs 9 (.slice na (B ++ (extW L wd).take x).length nc) ((B ++ (extW L wd).take x).map wordT), Res.strs 9 (.slice a A.length c) (A.map wordT)]) ∧ Hid (Below w.heap.size w wr))
          case atStart => exact ⟨0, na, nc, by simp, rfl, by omega, HS0, HB⟩
          case round =>
            clear HS0 HB
            obtain ⟨x, na, nc, rfl, rfl, hx, HS, HB⟩ := hrel
            obtain ⟨wx, rfl⟩ : ∃ x, x = wr := ⟨_, rfl⟩
            by_cases hxl : x < L
            · obtain ⟨_, _, hv, hq⟩ := HS.out.swap.strsAt
              obtain ⟨b, e1, hb, hc⟩ := hq (by simp; omega)
              simp at hv
              obtain ⟨rfl, rfl⟩ := hv
              subst e1
              have g0 := hc j (wordT wd) (by simp [Hwd.out])
              have hz := HB.out.size
              have hxi : (x : Int) < (L : Int) := by omega
              have hext : (extW L wd).take (x + 1) = (extW L wd).take x ++ [wd ++ [x]] := (take_snoc' (by simp [List.getElem?_range hxl])).symm
              have hBl : (B ++ (extW L wd).take x).length ≤ 729 := by
                have h1 := Hle.out
                rw [HT.out] at h1
                have h2 : ((extW L wd).take x).length ≤ (extW L wd).length := by rw [List.length_take]; omega
                simp only [List.length_append] at h1 ⊢
                omega
              have hb6a : Below wx.heap.size wx ((wx.alloc (.cells #[.string (wordT (wd ++ [x]))] 9)).drew) := ((Below.refl _ _).alloc (Nat.le_refl _) _).drew
              obtain ⟨v7, w7, hr7, hS7, hb7⟩ := Sep.push (P := Try.prog) OStr.kept 36 36 (.string ⟨#[]⟩) 16 Try.underlying36 infoStr rfl HS.out hz hb6a (q := .string (wordT (wd ++ [x]))) (x := wordT (wd ++ [x])) ⟨[], ⟨rfl, rfl⟩, by simp [Fresh]⟩ (bb := wx.heap.size) (c := 1) (World.cell?_alloc_at _ _ _ 0 rfl) (by simp only [List.length_map]; omega) (by simp only [List.length_map]; omega)
              have e7 : (B ++ (extW L wd).take x).map wordT ++ [wordT (wd ++ [x])] = (B ++ (extW L wd).take (x + 1)).map wordT := by rw [hext]; simp
              obtain ⟨na', nc', rfl, _⟩ := hS7.strsAt
              have e7' : ((B ++ (extW L wd).take x).map wordT ++ [wordT (wd ++ [x])]).length = (B ++ (extW L wd).take x).length + 1 := by simp only [List.length_append, List.length_map, List.length_cons, List.length_nil]
              have e8 : (B ++ (extW L wd).take (x + 1)).length = (B ++ (extW L wd).take x).length + 1 := by rw [hext]; simp only [List.length_append, List.length_cons, List.length_nil]; omega
              rw [e7'] at hr7 hS7
              rw [e7] at hS7
              have HS7 := Lib.hid hS7
              have HB7 := Lib.hid (HB.out.trans hb7)
              have Hr := Lib.hid hr7
              have E8 := Lib.hid e8
              have habc := fun w => abc_slice (x := x) (by omega) w
              have hcat := wordT_snoc wd x
              have hsz1 : (wordT [x]).size = 1 := by simp [wordT, ByteArray.size]
              have hws : (wordT wd).size = wd.length := wordT_size wd
              have hsz2 : ¬ (9223372036854775807 < wd.length + 1) := by rw [hm.1]; omega
              have hSd : wx.drew.cell? ⟨b, j, none⟩ = some (.string (wordT wd)) := g0
              have hS1 : ((wx.alloc (.cells #[.string (wordT (wd ++ [x]))] 9)).drew).cell? ⟨b, j, none⟩ = some (.string (wordT wd)) := (hb6a.cell (p := ⟨b, j, none⟩) hb).trans g0
              generalize (B ++ (extW L wd).take x).length = bl at Hr hBl E8 HS7 ⊢
              have hx3 : IntKind.i64.wrap ((x : Int) + 1) = (x : Int) + 1 := IntWalk.i64_in _ (by omega)
              clear HS HB hS7 hb7 hr7 hb6a e7 e7' e8 hq hc hext hm g0
              go_wp2
              refine wp_region_M 12 (fun w' => w'.cell? ⟨b, j, none⟩ = some (.string (wordT wd))) (by kernel_rfl) ?_
              refine wpAnyM_take 0 (v := ?_) rfl (by kernel_rfl) (by kernel_rfl) (by kernel_rfl) (by kernel_rfl) (fun _ _ _ h => h) (Or.inl ⟨by rfl, ?_⟩) hSd ?_
              rotate_left
              · (intro w hSw; (try dsimp only at hSw); go_simp) <;> (try with_reducible rfl)
              try simp only [Act.put, List.setIfInBounds_toArray, List.set_cons_zero, List.set_cons_succ]
              refine wpAnyM_take 1 (v := ?_) rfl (by kernel_rfl) (by kernel_rfl) (by kernel_rfl) (by kernel_rfl) (fun _ _ _ h => h) (Or.inl ⟨by rfl, ?_⟩) hSd ?_
              rotate_left
              · (intro w hSw; (try dsimp only at hSw); go_simp) <;> (try with_reducible rfl)
              try simp only [Act.put, List.setIfInBounds_toArray, List.set_cons_zero, List.set_cons_succ]
              refine wpAnyM_take 2 (v := ?_) rfl (by kernel_rfl) (by kernel_rfl) (by kernel_rfl) (by kernel_rfl) (fun _ _ _ h => h) (Or.inl ⟨by rfl, ?_⟩) hSd ?_
              rotate_left
              · (intro w hSw; (try dsimp only at hSw); go_simp) <;> (try with_reducible rfl)
              try simp only [Act.put, List.setIfInBounds_toArray, List.set_cons_zero, List.set_cons_succ]
              refine wpAnyM_take 3 (v := ?_) rfl (by kernel_rfl) (by kernel_rfl) (by kernel_rfl) (by kernel_rfl) (fun _ _ _ h => h) (Or.inl ⟨by rfl, ?_⟩) hSd ?_
              rotate_left
              · (intro w hSw; (try dsimp only at hSw); go_simp) <;> (try with_reducible rfl)
              try simp only [Act.put, List.setIfInBounds_toArray, List.set_cons_zero, List.set_cons_succ]
              refine wpAnyM_take 4 (v := ?_) rfl (by kernel_rfl) (by kernel_rfl) (by kernel_rfl) (by kernel_rfl) (fun _ _ _ h => h) (Or.inl ⟨by rfl, ?_⟩) hSd ?_
              rotate_left
              · (intro w hSw; (try dsimp only at hSw); go_simp) <;> (try with_reducible rfl)
              try simp only [Act.put, List.setIfInBounds_toArray, List.set_cons_zero, List.set_cons_succ]
              refine wpAnyM_take 5 (v := ?_) rfl (by kernel_rfl) (by kernel_rfl) (by kernel_rfl) (by kernel_rfl) (fun _ _ _ h => h) (Or.inl ⟨by rfl, ?_⟩) hSd ?_
              rotate_left
              · (intro w hSw; (try dsimp only at hSw); go_simp) <;> (try with_reducible rfl)
              try simp only [Act.put, List.setIfInBounds_toArray, List.set_cons_zero, List.set_cons_succ]
              refine wpAnyM_take 6 (v := ?_) rfl (by kernel_rfl) (by kernel_rfl) (by kernel_rfl) (by kernel_rfl) (fun _ _ _ h => h) (Or.inl ⟨by rfl, ?_⟩) hSd ?_
              rotate_left
              · (intro w hSw; (try dsimp only at hSw); go_simp) <;> (try with_reducible rfl)
              try simp only [Act.put, List.setIfInBounds_toArray, List.set_cons_zero, List.set_cons_succ]
              refine wpAnyM_take 7 (v := ?_) rfl (by kernel_rfl) (by kernel_rfl) (by kernel_rfl) (by kernel_rfl) (fun _ _ _ h => h) (Or.inl ⟨by rfl, ?_⟩) hSd ?_
              rotate_left
              · (intro w hSw; (try dsimp only at hSw); go_simp) <;> (try with_reducible rfl)
              try simp only [Act.put, List.setIfInBounds_toArray, List.set_cons_zero, List.set_cons_succ]
              refine wpAnyM_take 8 (v := ?_) rfl (by kernel_rfl) (by kernel_rfl) (by kernel_rfl) (by kernel_rfl) (fun _ _ _ h => h) (Or.inl ⟨by rfl, ?_⟩) hSd ?_
              rotate_left
              · (intro w hSw; (try dsimp only at hSw); go_simp) <;> (try with_reducible rfl)
              try simp only [Act.put, List.setIfInBounds_toArray, List.set_cons_zero, List.set_cons_succ]
              refine wpAnyM_take 9 (v := ?_) rfl (by kernel_rfl) (by kernel_rfl) (by kernel_rfl) (by kernel_rfl) (fun _ _ _ h => h) (Or.inl ⟨by rfl, ?_⟩) hSd ?_
              rotate_left
              · (intro w hSw; (try dsimp only at hSw); go_simp) <;> (try with_reducible rfl)
              try simp only [Act.put, List.setIfInBounds_toArray, List.set_cons_zero, List.set_cons_succ]
              refine wpAnyM_one 10 (by kernel_rfl) rfl (fun K hK => ?_)
              go_simp
              refine hK.out _ _ (fun _ => hS1) ?_
              clear hK K
              try simp only [Act.put, List.setIfInBounds_toArray, List.set_cons_zero, List.set_cons_succ]
              refine wpAnyM_one 11 (by kernel_rfl) rfl (fun K hK => ?_)
              refine step_append_run (by rfl) (.tmp 28) (.tmp 38) 36 (by rfl) (by rfl) (by rfl) Hr.out ?_
              refine hK.out _ _ (fun h => absurd h (not_remM (by kernel_rfl))) ?_
              clear hK K
              try simp only [Act.put, List.setIfInBounds_toArray, List.set_cons_zero, List.set_cons_succ]
              refine wpAnyM_one 12 (by kernel_rfl) rfl (fun K hK => ?_)
              go_simp
              refine hK.out _ _ (fun h => absurd h (not_remM (by kernel_rfl))) ?_
              clear hK K
              try simp only [Act.put, List.setIfInBounds_toArray, List.set_cons_zero, List.set_cons_succ]
              refine wpAnyM_done (by kernel_rfl) ?_ _
              all_goals (
                go_wp2
                go_roundg (L - (x + 1))
                case measure => omega
                case rel => exact ⟨x + 1, _, _, by rw [E8.out], by go_num, by omega, by rw [E8.out]; exact HS7, HB7⟩)
            · have hxe : x = L := by omega
              have HS2 := Lib.hid (show Sep w.heap.size wx [Res.strs 9 (.slice na ((A.take (j + 1)).flatMap (extW L)).length nc) (((A.take (j + 1)).flatMap (extW L)).map wordT), Res.strs 9 (.slice a A.length c) (A.map wordT)] from by
                have h := HS.out
                rw [List.take_of_length_le (by simp; omega)] at h
                rw [HT.out]
                exact h)
              have E2 := Lib.hid (show (B ++ (extW L wd).take x).length = ((A.take (j + 1)).flatMap (extW L)).length from by rw [List.take_of_length_le (by simp; omega), HT.out])
              have hxi : ¬ ((x : Int) < (L : Int)) := by omega
              generalize (B ++ (extW L wd).take x).length = bl at E2 ⊢
              clear HS hxe HT
              go_wp2
              go_roundg (A.length - (j + 1))
              case measure => omega
              case rel => exact ⟨j + 1, na, nc, by rw [E2.out], by go_num, by omega, HS2, HB⟩
        · have HR := Lib.hid (show New (OStrL 9) w.heap.size wj (.slice na (allW L (k + 1)).length nc) ((allW L (k + 1)).map wordT) from by
            have h := HS.out.headNew
            rw [List.take_of_length_le (by omega)] at h
            rw [HA.out]
            exact h)
          have E2 := Lib.hid (show ((A.take j).flatMap (extW L)).length = (allW L (k + 1)).length from by rw [List.take_of_length_le (by omega), HA.out])
          have hji : ¬ ((j : Int) < (A.length : Int)) := by omega
          generalize ((A.take j).flatMap (extW L)).length = bl at E2 ⊢
          clear HS HA
          go_wp2
          go_roundg (n - (k + 1))
          case measure => omega
          case rel => exact ⟨k + 1, na, nc, by rw [E2.out], by go_num, by omega, HR, HB⟩
    · obtain rfl : k = n := by omega
      have hki : ¬ ((k : Int) < (k : Int)) := by omega
      have HR := Lib.hid HN.out
      generalize (allW L k).length = bl at HR ⊢
      clear HN
      go_wp2
      go_ret
      exact ⟨_, rfl, HR.out, HB.out⟩
end Go.Proofs.Ytcilgihmaaobeaa
end

section
namespace Go.Proofs.Ytcilgihmaaobeaa
open Go.RowKit Go.Deep Go.Sd
set_option linter.unusedSimpArgs false
theorem allW_two {L : Nat} (h0 : 0 < L) (h3 : L ≤ 3) {wd : List Nat} (h : wd ∈ allW L 2) : Two wd := by
  obtain ⟨h1, h2⟩ := allW_mem h0 h
  match wd, h1 with
  | [a, b], _ => exact ⟨a, b, rfl, by have := h2 a (by simp); omega, by have := h2 b (by simp); omega⟩
theorem avoW_two {F : List ByteArray} {L : Nat} (h0 : 0 < L) (h3 : L ≤ 3) {wd : List Nat} (h : wd ∈ avoW F L) : Two wd := allW_two h0 h3 (List.mem_filter.1 h).1
set_option maxHeartbeats 2000000 in
set_option maxRecDepth 100000 in
theorem l3Words_c {w : World} {vs : Value} {L : Nat} {F : List ByteArray} (hz : ShR w vs ((L : Int), F)) (h0 : 0 < L) (h3 : L ≤ 3) (hf : ∀ f, f ∈ F → f.size ≤ 1048576) :
    Calls Try.prog 125 #[vs, .int .i64 2] w (Makes (OStrL 9) w ((avoW F L).map wordT)) := by
  obtain ⟨va, rfl, ht⟩ := hz
  simp only at ht
  obtain ⟨w0, e0, hb0, c0, c1, m0⟩ := boxA_ex w 44 (.int .i64 L) va
  have HFr := Lib.hid (TsR.frame _ _ _ _ ht hb0)
  obtain ⟨va1, va2, rfl, -⟩ := HFr.out.shape
  generalize hfl : F.length = fl at c1 e0 HFr ⊢
  have Hf := Lib.hid hf
  have HB0 := Lib.hid hb0
  have HW := Lib.hid (fun w1 => (show Calls Try.prog 55 #[.int .i64 (L : Int), .int .i64 2] w1 _ from l2All_c (w := w1) (n := 2) h0 h3 (by decide)))
  have Hm := Lib.hid (fun wd (h : wd ∈ allW L 2) => allW_two h0 h3 h)
  have hM : (allW L 2).length ≤ 729 := by rw [allW_len h0]; exact pow_le h3 (by decide)
  have H0 := Lib.hid (New.empty (e := 9) (R := OValR Value.string) w0 (Nat.le_refl _))
  have HAv := Lib.hid (show avoW F L = (allW L 2).filter (fun wd => avoM F (wordT wd)) from rfl)
  generalize avoW F L = AV at HAv ⊢
  generalize allW L 2 = A at HW Hm hM HAv
  obtain ⟨w1, e1⟩ : ∃ x, x = w0.alloc (.cells #[] 9) := ⟨_, rfl⟩
  have B0 := Lib.hid (show Below w0.heap.size w0 w1 from by rw [e1]; exact (Below.refl _ _).alloc (Nat.le_refl _) _)
  rw [← e1] at H0
  have e1s := e1.symm
  have d0 := (B0.out.cell (p := ⟨w.heap.size, 0, none⟩) m0).trans c0
  clear e1 hfl hf ht hb0
  go_enter Try.func125, Try.ntmps125
  go_wp2_with fail
  refine (HW.out _).mono ?_
  rintro e w2 ⟨r, rfl, hn1, hb1⟩
  have hzw := B0.out.size
  have hs1 := ((Sep.one (OwnOf.kept OStr.kept).held H0.out).new (OwnOf.kept OStr.kept).held hb1 hzw hn1).swap
  obtain ⟨ra, rc, er, _⟩ := hs1.swap.strsAt
  subst er
  rw [List.length_map] at hs1 ⊢
  have HS1 := Lib.hid hs1
  have HB1 := Lib.hid (B0.out.trans (hb1.mono hzw))
  clear hn1 hb1 hs1 H0 B0 e1s hzw d0
  go_wp2
  go_loopg [5, 7] A.length (fun g vs i wr => ∃ (k : Nat) (a : Option Addr) (c : Nat), vs = .slice a ((A.take k).filter fun wd => avoM F (wordT wd)).length c ∧ i = .int .i64 k ∧ k + g = A.length ∧ Hid (Sep w0.heap.size wr [Res.strs 9 (.slice a ((A.take k).filter fun wd => avoM F (wordT wd)).length c) (((A.take k).filter fun wd => avoM F (wordT wd)).map wordT), Res.strs 9 (.slice ra A.length rc) (A.map wordT)]) ∧ Hid (Below w0.heap.size w0 wr))
  case atStart => exact ⟨0, _, _, rfl, rfl, by omega, HS1, HB1⟩
  case round =>
    clear HS1 HB1
    obtain ⟨k, a, c, rfl, rfl, hk, HS, HB⟩ := hrel
    obtain ⟨wB, rfl⟩ : ∃ x, x = wr := ⟨_, rfl⟩
    by_cases hlt : k < A.length
    · obtain ⟨g, rfl⟩ : ∃ x, gk = x + 1 := ⟨gk - 1, by omega⟩
      obtain ⟨wd, hwd, _⟩ := at_lt hlt
      obtain ⟨_, _, hv, hq⟩ := HS.out.swap.strsAt
      obtain ⟨b, e1, hb, hc⟩ := hq (by simp; omega)
      simp at hv
      obtain ⟨rfl, rfl⟩ := hv
      subst e1
      have g0 := hc k (wordT wd) (by simp [hwd])
      have hm := (Hm.out wd (List.mem_of_getElem? hwd)).facts.1
      have k0 := (HB.out.cell (p := ⟨w.heap.size, 0, none⟩) m0).trans c0
      have k1 := (HB.out.cell (p := ⟨w.heap.size, 1, none⟩) m0).trans c1
      have C1 := Lib.hid (fun m => Reads.quiet (avo_q (s := wordT wd) ((TsR.frame _ _ _ _ HFr.out HB.out).dn' m) (by rw [hm]; decide) Hf.out))
      have hki : (k : Int) < (A.length : Int) := by omega
      have HT := Lib.hid (show (A.take (k + 1)).filter (fun wd => avoM F (wordT wd)) = (A.take k).filter (fun wd => avoM F (wordT wd)) ++ (if avoM F (wordT wd) = true then [wd] else []) from by rw [← take_snoc' hwd, List.filter_append]; congr 1; simp [List.filter_cons])
      have hfl : ((A.take k).filter fun wd => avoM F (wordT wd)).length ≤ 729 := Nat.le_trans (List.length_filter_le _ _) (by simp; omega)
      generalize hfn : ((A.take k).filter fun wd => avoM F (wordT wd)) = fl' at HS HT hfl
      clear hfn hwd hq hc hm
      cases hav : avoM F (wordT wd) with
      | false =>
        rw [hav] at C1
        have HT2 := Lib.hid (show (A.take (k + 1)).filter (fun wd => avoM F (wordT wd)) = fl' from by rw [HT.out, hav]; simp)
        clear HT hav hb
        go_wp2
        go_quiet ((go_at_call 88; exact C1.out _))
        rename_i nq
        have HS2 := Lib.hid (HS.out.below (below_drewN (Below.refl wB.heap.size wB) nq) (Nat.le_refl _))
        have HB2 := Lib.hid (HB.out.trans (below_drewN (Below.refl w0.heap.size wB) nq))
        go_wp2
        go_roundg g
        case measure => omega
        case rel => exact ⟨k + 1, _, _, by rw [HT2.out], by go_num, by omega, by rw [HT2.out]; exact HS2, HB2⟩
      | true =>
        rw [hav] at C1
        have HT2 := Lib.hid (show (A.take (k + 1)).filter (fun wd => avoM F (wordT wd)) = fl' ++ [wd] from by rw [HT.out, hav]; simp)
        clear HT hav
        go_wp2
        go_quiet ((go_at_call 88; exact C1.out _))
        rename_i nq
        have hs2 := HS.out.below (below_drewN (Below.refl wB.heap.size wB) nq) (Nat.le_refl _)
        have hb2 := HB.out.trans (below_drewN (Below.refl w0.heap.size wB) nq)
        have g2 : (wB.drewN nq).cell? ⟨b, k, none⟩ = _ := g0
        generalize wB.drewN nq = w2 at hs2 hb2 g2 ⊢
        have hz2 := hb2.size
        obtain ⟨v', w3, hr, hs3, hb3⟩ := Sep.push (P := Try.prog) OStr.kept 36 36 (.string ⟨#[]⟩) 16 Try.underlying36 infoStr rfl hs2 hz2 (w1 := w2.alloc (.cells #[.string (wordT wd)] 9)) ((Below.refl _ _).alloc (Nat.le_refl _) _) (q := .string (wordT wd)) (x := wordT wd) ⟨[], ⟨rfl, rfl⟩, by simp [Fresh]⟩ (bb := w2.heap.size) (c := 1) (World.cell?_alloc_at _ _ _ 0 rfl) (by simp; omega) (by simp; omega)
        obtain ⟨a', c', ev, _⟩ := hs3.strsAt
        subst ev
        have e5 : (fl'.map wordT ++ [wordT wd]).length = (fl' ++ [wd]).length := by simp
        have e6 : fl'.map wordT ++ [wordT wd] = (fl' ++ [wd]).map wordT := by simp
        rw [e5, e6] at hs3
        rw [e5] at hr
        have e7 : (fl' ++ [wd]).length = fl'.length + 1 := by simp
        rw [e7] at hs3 hr
        have HS3 := Lib.hid hs3
        have HB3 := Lib.hid (hb2.trans hb3)
        have Hr := Lib.hid hr
        have E7 := Lib.hid e7
        clear hs3 hr hb3 e5 e6 e7 hs2 hb2 HS HB C1
        go_wp2_with (first
          | (at_builtin; refine wpl_append_run rfl (.tmp 26) (.tmp 31) 36 rfl rfl rfl Hr.out ?_)
          | fail)
        go_roundg g
        case measure => omega
        case rel => exact ⟨k + 1, _, _, by rw [HT2.out, E7.out], by go_num, by omega, by rw [HT2.out, E7.out]; exact HS3, HB3⟩
    · have HR := Lib.hid (show New (OStrL 9) w0.heap.size wB (.slice a ((A.take k).filter fun wd => avoM F (wordT wd)).length c) (AV.map wordT) from by have h := HS.out.headNew; rw [HAv.out]; rw [List.take_of_length_le (by omega)] at h ⊢; exact h)
      have hki : ¬ ((k : Int) < (A.length : Int)) := by omega
      have HBf := Lib.hid (HB0.out.trans (HB.out.mono (Nat.le_of_lt m0)))
      have HR2 := Lib.hid (HR.out.mono (Nat.le_of_lt m0))
      generalize ((A.take k).filter fun wd => avoM F (wordT wd)).length = fl' at HR2
      clear HS HR
      go_wp2
      go_ret
      exact ⟨_, rfl, HR2.out, HBf.out⟩
end Go.Proofs.Ytcilgihmaaobeaa
end

section
namespace Go.Proofs.Ytcilgihmaaobeaa
open Go.RowKit Go.Deep Go.Sd
set_option linter.unusedSimpArgs false
theorem pick_sub {α : Type} {xs : List α} {l : List Bool} {x : α} (h : x ∈ pick xs l) : x ∈ xs := by
  obtain ⟨i, -, h2⟩ := (pick_mem _ _ _).1 h
  exact List.mem_of_getElem? h2
set_option maxHeartbeats 4000000 in
set_option maxRecDepth 100000 in
theorem l3Pairs_c {w : World} {vs : Value} {L : Nat} {F : List ByteArray} (hz : ShR w vs ((L : Int), F)) (h0 : 0 < L) (h3 : L ≤ 3) (hf : ∀ f, f ∈ F → f.size ≤ 1048576) :
    Calls Try.prog 105 #[vs] w (Makes (OStrL 9) w ((pairsM F L).map wordT)) := by
  obtain ⟨va, rfl, ht⟩ := hz
  simp only at ht
  obtain ⟨w0, e0, hb0, c0, c1, m0⟩ := boxA_ex w 44 (.int .i64 L) va
  have hFr := TsR.frame _ _ _ _ ht hb0
  obtain ⟨va1, va2, rfl, -⟩ := hFr.shape
  have HFr := Lib.hid hFr
  generalize hfl : F.length = fl at c1 e0 HFr ⊢
  have Hf := Lib.hid hf
  have HB0 := Lib.hid hb0
  have HW := Lib.hid (show Calls Try.prog 125 #[.agg #[.int .i64 L, .slice va1 fl va2], .int .i64 2] w0 _ from l3Words_c (L := L) (F := F) ⟨_, rfl, HFr.out⟩ h0 h3 hf)
  have H2 := Lib.hid (fun u (h : u ∈ avoW F L) => avoW_two h0 h3 h)
  have hM : (avoW F L).length ≤ 729 := Nat.le_trans (List.length_filter_le _ _) (by rw [allW_len h0]; exact pow_le h3 (by decide))
  have HP := Lib.hid (show pairsM F L = pick (avoW F L) (liveL (EG F (avoW F L)) (avoW F L).length) from rfl)
  generalize pairsM F L = PM at HP ⊢
  generalize avoW F L = W at HW H2 hM HP
  clear hfl hf ht hb0 hFr
  go_enter Try.func105, Try.ntmps105
  go_wp2_with fail
  (with_reducible refine HW.out.mono ?_)
  rintro e w1 ⟨r, rfl, hn1, hb1⟩
  have hs1 := Sep.one (OwnOf.kept OStr.kept).held hn1
  obtain ⟨ra, rc, er, _⟩ := hs1.strsAt
  subst er
  rw [List.length_map] at hs1 ⊢
  have HS1 := Lib.hid (show Sep w0.heap.size w1 [Res.strs 9 (.slice ra (pick W (List.replicate W.length true)).length rc) ((pick W (List.replicate W.length true)).map wordT)] from by rw [pick_all]; exact hs1)
  have HB1 := Lib.hid hb1
  have HSup := Lib.hid (Sup.start (E := EG F W) (n := W.length))
  clear hn1 hb1 hs1
  go_wp2
  go_loopg [3] (cntT (List.replicate W.length true) + 1) (fun g ov wr => ∃ (l : List Bool) (a : Option Addr) (c : Nat), ov = .slice a (pick W l).length c ∧ cntT l + 1 = g ∧ Hid (Sup (EG F W) W.length l) ∧ Hid (Sep w0.heap.size wr [Res.strs 9 (.slice a (pick W l).length c) ((pick W l).map wordT)]) ∧ Hid (Below w0.heap.size w0 wr))
  case atStart => exact ⟨_, ra, rc, by rw [pick_all], rfl, HSup, HS1, HB1⟩
  case round =>
    clear HS1 HB1 HSup
    obtain ⟨l, a, c, rfl, hg, HSup, HS, HB⟩ := hrel
    obtain ⟨wA, rfl⟩ : ∃ x, x = wr := ⟨_, rfl⟩
    have hz := HB.out.size
    have hlw := HSup.out.1
    have H2O := Lib.hid (fun u (h : u ∈ pick W l) => H2.out u (pick_sub h))
    have HK := Lib.hid (fun (n2 : Nat) (hn : (pick W (maskF (keepB F (pick W l)) W l)).length = n2) => (show (pick W l).filter (keepB F (pick W l)) = pick W (maskF (keepB F (pick W l)) W l) from pick_filter _ _ _))
    have hOl : (pick W l).length ≤ 729 := by rw [pick_len _ _ hlw]; exact Nat.le_trans cntT_le (by omega)
    have HS0 := Lib.hid ((HS.out.new (OwnOf.kept OStr.kept).held ((Below.refl _ _).alloc (Nat.le_refl _) _) hz (New.empty (e := 9) (R := OValR Value.string) wA (Nat.le_refl _))))
    obtain ⟨wN, eN⟩ : ∃ x, x = wA.alloc (.cells #[] 9) := ⟨_, rfl⟩
    rw [← eN] at HS0
    have HBN := Lib.hid (show Below w0.heap.size w0 wN from by rw [eN]; exact HB.out.alloc hz _)
    have eNs := eN.symm
    clear eN HS HB hz
    obtain ⟨O, hO⟩ : ∃ O, O = pick W l := ⟨_, rfl⟩
    have HO := Lib.hid hO
    rw [← hO] at H2O HK hOl HS0 ⊢
    clear hO
    go_wp2
    clear eNs
    go_loopg [4, 5] O.length (fun g vs i wr => ∃ (k : Nat) (na : Option Addr) (nc : Nat), vs = .slice na ((O.take k).filter (keepB F O)).length nc ∧ i = .int .i64 k ∧ k + g = O.length ∧ Hid (Sep w0.heap.size wr [Res.strs 9 (.slice na ((O.take k).filter (keepB F O)).length nc) (((O.take k).filter (keepB F O)).map wordT), Res.strs 9 (.slice a O.length c) (O.map wordT)]) ∧ Hid (Below w0.heap.size w0 wr))
    case atStart => exact ⟨0, _, _, rfl, rfl, by omega, HS0, HBN⟩
    case round =>
      clear HS0 HBN
      obtain ⟨k, na, nc, rfl, rfl, hk, HS, HB⟩ := hrel
      obtain ⟨wB, rfl⟩ : ∃ x, x = wr := ⟨_, rfl⟩
      by_cases hlt : k < O.length
      · obtain ⟨g2, rfl⟩ : ∃ x, gk = x + 1 := ⟨gk - 1, by omega⟩
        obtain ⟨u, hu, _⟩ := at_lt hlt
        have hsO := HS.out.swap
        obtain ⟨_, _, hv, hq⟩ := hsO.strsAt
        obtain ⟨b, e1, hb, hc⟩ := hq (by simp; omega)
        simp at hv
        obtain ⟨rfl, rfl⟩ := hv
        subst e1
        have g0 := hc k (wordT u) (by simp [hu])
        have hu2 := H2O.out u (List.mem_of_getElem? hu)
        have hTO : TsR wB (.slice (some ⟨b, 0, none⟩) O.length c) (O.map wordT) := by
          obtain ⟨G, hG, -⟩ := hsO.headNew
          exact OwnOf.reads (fun _ _ _ _ h => h.1) hG
        have HGT := Lib.hid (fun (w' : World) (hb' : Below wB.heap.size wB w') => (show Calls Try.prog 126 #[.agg #[.int .i64 L, .slice va1 fl va2], .slice (some ⟨b, 0, none⟩) O.length c, .string (wordT u), .bool true] w' _ from l3GoesT_c (z := ((L : Int), F)) ⟨_, rfl, TsR.frame _ _ _ _ (TsR.frame _ _ _ _ HFr.out HB.out) hb'⟩ Hf.out (TsR.frame _ _ _ _ hTO hb') hu2 H2O.out))
        have HGF := Lib.hid (fun (w' : World) (hb' : Below wB.heap.size wB w') => (show Calls Try.prog 126 #[.agg #[.int .i64 L, .slice va1 fl va2], .slice (some ⟨b, 0, none⟩) O.length c, .string (wordT u), .bool false] w' _ from l3GoesF_c (z := ((L : Int), F)) ⟨_, rfl, TsR.frame _ _ _ _ (TsR.frame _ _ _ _ HFr.out HB.out) hb'⟩ Hf.out (TsR.frame _ _ _ _ hTO hb') hu2 H2O.out))
        have k0 := (HB.out.cell (p := ⟨w.heap.size, 0, none⟩) m0).trans c0
        have k1 := (HB.out.cell (p := ⟨w.heap.size, 1, none⟩) m0).trans c1
        have m1 : w.heap.size < wB.heap.size := Nat.lt_of_lt_of_le m0 HB.out.size
        have hki : (k : Int) < (O.length : Int) := by omega
        have HT := Lib.hid (show (O.take (k + 1)).filter (keepB F O) = (O.take k).filter (keepB F O) ++ (if keepB F O u = true then [u] else []) from by rw [← take_snoc' hu, List.filter_append]; congr 1; simp [List.filter_cons])
        have hfl : ((O.take k).filter (keepB F O)).length ≤ 729 := Nat.le_trans (List.length_filter_le _ _) (by simp; omega)
        have HKB := Lib.hid (show keepB F O u = ((O.any fun v => goesB F u v) && (O.any fun v => goesB F v u)) from rfl)
        generalize hfn : ((O.take k).filter (keepB F O)) = fl' at HS HT hfl
        obtain ⟨p1, hp1⟩ : ∃ x, x = (O.any fun v => goesB F u v) := ⟨_, rfl⟩
        obtain ⟨p2, hp2⟩ : ∃ x, x = (O.any fun v => goesB F v u) := ⟨_, rfl⟩
        simp only at HGT HGF
        rw [← hp1] at HGT HKB
        rw [← hp2] at HGF HKB
        clear hfn hu hq hc hu2 hTO hsO hp1 hp2
        have HSS := Lib.hid (fun (w' : World) (hb' : Below wB.heap.size wB w') => (show w'.cell? ⟨w.heap.size, 0, none⟩ = some (.int .i64 L) ∧ w'.cell? ⟨w.heap.size, 1, none⟩ = some (.slice va1 fl va2) ∧ w'.cell? ⟨b, k, none⟩ = some (.string (wordT u)) from ⟨(hb'.cell (p := ⟨w.heap.size, 0, none⟩) m1).trans k0, (hb'.cell (p := ⟨w.heap.size, 1, none⟩) m1).trans k1, (hb'.cell (p := ⟨b, k, none⟩) hb).trans g0⟩))
        have hS0 := HSS.out _ (Below.refl _ _)
        have B1 := (Below.refl wB.heap.size wB).drew
        have hSd := HSS.out _ B1
        cases p1 with
        | false =>
          have HT2 := Lib.hid (show (O.take (k + 1)).filter (keepB F O) = fl' from by rw [HT.out, HKB.out]; simp)
          clear HT
          go_wp2
          refine wp_region_L (fun w' => w'.cell? ⟨w.heap.size, 0, none⟩ = some (.int .i64 L) ∧ w'.cell? ⟨w.heap.size, 1, none⟩ = some (.slice va1 fl va2) ∧ w'.cell? ⟨b, k, none⟩ = some (.string (wordT u))) (by kernel_rfl) ?_
          refine wpAnyL_take 1 (v := ?_) rfl (by kernel_rfl) (by kernel_rfl) (by kernel_rfl) (by kernel_rfl) (fun _ _ _ h => h) (Or.inl ⟨by rfl, ?_⟩) hSd ?_
          rotate_left
          · (intro w hSw; (try dsimp only at hSw); go_simp) <;> (try with_reducible rfl)
          try simp only [Act.put, List.getElem_toArray, List.getElem_cons_zero, List.getElem_cons_succ, List.setIfInBounds_toArray, List.set_cons_zero, List.set_cons_succ]
          refine wpAnyL_take 2 (v := ?_) rfl (by kernel_rfl) (by kernel_rfl) (by kernel_rfl) (by kernel_rfl) (fun _ _ _ h => h) (Or.inl ⟨by rfl, ?_⟩) hSd ?_
          rotate_left
          · (intro w hSw; (try dsimp only at hSw); go_simp) <;> (try with_reducible rfl)
          try simp only [Act.put, List.getElem_toArray, List.getElem_cons_zero, List.getElem_cons_succ, List.setIfInBounds_toArray, List.set_cons_zero, List.set_cons_succ]
          refine wpAnyL_take 3 (v := ?_) rfl (by kernel_rfl) (by kernel_rfl) (by kernel_rfl) (by kernel_rfl) (fun _ _ _ h => h) (Or.inl ⟨by rfl, ?_⟩) hSd ?_
          rotate_left
          · (intro w hSw; (try dsimp only at hSw); go_simp) <;> (try with_reducible rfl)
          try simp only [Act.put, List.getElem_toArray, List.getElem_cons_zero, List.getElem_cons_succ, List.setIfInBounds_toArray, List.set_cons_zero, List.set_cons_succ]
          refine wpAnyL_take 0 (v := ?_) rfl (by kernel_rfl) (by kernel_rfl) (by kernel_rfl) (by kernel_rfl) (fun _ _ _ h => h) (Or.inl ⟨by rfl, ?_⟩) hSd ?_
          rotate_left
          · (intro w hSw; (try dsimp only at hSw); go_simp) <;> (try with_reducible rfl)
          try simp only [Act.put, List.getElem_toArray, List.getElem_cons_zero, List.getElem_cons_succ, List.setIfInBounds_toArray, List.set_cons_zero, List.set_cons_succ]
          refine wpAnyL_take 4 (v := ?_) rfl (by kernel_rfl) (by kernel_rfl) (by kernel_rfl) (by kernel_rfl) (fun _ _ _ h => h) (Or.inl ⟨by rfl, ?_⟩) hSd ?_
          rotate_left
          · (intro w hSw; (try dsimp only at hSw); go_simp) <;> (try with_reducible rfl)
          try simp only [Act.put, List.getElem_toArray, List.getElem_cons_zero, List.getElem_cons_succ, List.setIfInBounds_toArray, List.set_cons_zero, List.set_cons_succ]
          refine wpAnyL_take 5 (v := ?_) rfl (by kernel_rfl) (by kernel_rfl) (by kernel_rfl) (by kernel_rfl) (fun _ _ _ h => h) (Or.inl ⟨by rfl, ?_⟩) hSd ?_
          rotate_left
          · (intro w hSw; (try dsimp only at hSw); go_simp) <;> (try with_reducible rfl)
          try simp only [Act.put, List.getElem_toArray, List.getElem_cons_zero, List.getElem_cons_succ, List.setIfInBounds_toArray, List.set_cons_zero, List.set_cons_succ]
          refine wpAnyL_one 6 (by kernel_rfl) rfl (fun K hK => ?_)
          go_simp
          (with_reducible refine (HGT.out _ B1).mono ?_)
          rintro e u1 ⟨rfl, q1⟩
          have B2 := B1.trans (q1.mono B1.size)
          have hS2 := HSS.out _ B2
          go_wp2_with fail
          refine hK.out _ _ (fun _ => hS2) ?_
          clear hK K
          try simp only [Act.put, List.getElem_toArray, List.getElem_cons_zero, List.getElem_cons_succ, List.setIfInBounds_toArray, List.set_cons_zero, List.set_cons_succ]
          refine wpAnyL_take 7 (v := ?_) rfl (by kernel_rfl) (by kernel_rfl) (by kernel_rfl) (by kernel_rfl) (fun _ _ _ h => h) (Or.inl ⟨by rfl, ?_⟩) hS2 ?_
          rotate_left
          · (intro w hSw; (try dsimp only at hSw); go_simp) <;> (try with_reducible rfl)
          try simp only [Act.put, List.getElem_toArray, List.getElem_cons_zero, List.getElem_cons_succ, List.setIfInBounds_toArray, List.set_cons_zero, List.set_cons_succ]
          refine wpAnyL_take 8 (v := undef) rfl (by kernel_rfl) (by kernel_rfl) (by kernel_rfl) (by kernel_rfl) (fun _ _ _ h => h) (Or.inr ⟨by rfl, rfl⟩) hS2 ?_
          try simp only [Act.put, List.getElem_toArray, List.getElem_cons_zero, List.getElem_cons_succ, List.setIfInBounds_toArray, List.set_cons_zero, List.set_cons_succ]
          refine wpAnyL_take 9 (v := undef) rfl (by kernel_rfl) (by kernel_rfl) (by kernel_rfl) (by kernel_rfl) (fun _ _ _ h => h) (Or.inr ⟨by rfl, rfl⟩) hS2 ?_
          try simp only [Act.put, List.getElem_toArray, List.getElem_cons_zero, List.getElem_cons_succ, List.setIfInBounds_toArray, List.set_cons_zero, List.set_cons_succ]
          refine wpAnyL_take 10 (v := undef) rfl (by kernel_rfl) (by kernel_rfl) (by kernel_rfl) (by kernel_rfl) (fun _ _ _ h => h) (Or.inr ⟨by rfl, rfl⟩) hS2 ?_
          try simp only [Act.put, List.getElem_toArray, List.getElem_cons_zero, List.getElem_cons_succ, List.setIfInBounds_toArray, List.set_cons_zero, List.set_cons_succ]
          refine wpAnyL_take 11 (v := undef) rfl (by kernel_rfl) (by kernel_rfl) (by kernel_rfl) (by kernel_rfl) (fun _ _ _ h => h) (Or.inr ⟨by rfl, rfl⟩) hS2 ?_
          try simp only [Act.put, List.getElem_toArray, List.getElem_cons_zero, List.getElem_cons_succ, List.setIfInBounds_toArray, List.set_cons_zero, List.set_cons_succ]
          refine wpAnyL_take 12 (v := undef) rfl (by kernel_rfl) (by kernel_rfl) (by kernel_rfl) (by kernel_rfl) (fun _ _ _ h => h) (Or.inr ⟨by rfl, rfl⟩) hS2 ?_
          try simp only [Act.put, List.getElem_toArray, List.getElem_cons_zero, List.getElem_cons_succ, List.setIfInBounds_toArray, List.set_cons_zero, List.set_cons_succ]
          refine wpAnyL_take 13 (v := undef) rfl (by kernel_rfl) (by kernel_rfl) (by kernel_rfl) (by kernel_rfl) (fun _ _ _ h => h) (Or.inr ⟨by rfl, rfl⟩) hS2 ?_
          try simp only [Act.put, List.getElem_toArray, List.getElem_cons_zero, List.getElem_cons_succ, List.setIfInBounds_toArray, List.set_cons_zero, List.set_cons_succ]
          refine wpAnyL_take 14 (v := undef) rfl (by kernel_rfl) (by kernel_rfl) (by kernel_rfl) (by kernel_rfl) (fun _ _ _ h => h) (Or.inr ⟨by rfl, rfl⟩) hS2 ?_
          try simp only [Act.put, List.getElem_toArray, List.getElem_cons_zero, List.getElem_cons_succ, List.setIfInBounds_toArray, List.set_cons_zero, List.set_cons_succ]
          refine wpAnyL_one 15 (by kernel_rfl) rfl (fun K hK => ?_)
          go_simp
          refine hK.out _ _ (fun h => absurd h (not_rem (by kernel_rfl))) ?_
          clear hK K
          try simp only [Act.put, List.getElem_toArray, List.getElem_cons_zero, List.getElem_cons_succ, List.setIfInBounds_toArray, List.set_cons_zero, List.set_cons_succ]
          refine wpAnyL_done (by kernel_rfl) ?_ _
          have HS2 := Lib.hid (HS.out.below B2 (Nat.le_refl _))
          have HB2 := Lib.hid (HB.out.trans (B2.mono HB.out.size))
          go_wp2
          go_roundg g2
          case measure => omega
          case rel => exact ⟨k + 1, _, _, by rw [HT2.out], by go_num, by omega, by rw [HT2.out]; exact HS2, HB2⟩
        | true =>
          cases p2 with
          | false =>
            go_wp2
            go_region_held3 (fun w' => w'.cell? ⟨w.heap.size, 0, none⟩ = some (.int .i64 L) ∧ w'.cell? ⟨w.heap.size, 1, none⟩ = some (.slice va1 fl va2) ∧ w'.cell? ⟨b, k, none⟩ = some (.string (wordT u)))
              (first | with_reducible exact hS3 | with_reducible exact hS2 | with_reducible exact hSd | with_reducible exact hS0 | go_keep)
              ((first
                | (go_at_call 126; (first
                  | (have HQ := HGT.out _ B1; (with_reducible refine HQ.mono ?_); clear HQ; rintro e u1 ⟨rfl, q1⟩; have B2 := B1.trans (q1.mono B1.size); have hS2 := HSS.out _ B2)
                  | (have HQ := HGF.out _ B2; (with_reducible refine HQ.mono ?_); clear HQ; rintro e u2 ⟨rfl, q2⟩; have B3 := B2.trans (q2.mono B2.size); have hS3 := HSS.out _ B3)))
                | fail))
            have HT2 := Lib.hid (show (O.take (k + 1)).filter (keepB F O) = fl' from by rw [HT.out, HKB.out]; simp)
            have HS2 := Lib.hid (HS.out.below B3 (Nat.le_refl _))
            have HB2 := Lib.hid (HB.out.trans (B3.mono HB.out.size))
            clear HT
            go_wp2
            go_roundg g2
            case measure => omega
            case rel => exact ⟨k + 1, _, _, by rw [HT2.out], by go_num, by omega, by rw [HT2.out]; exact HS2, HB2⟩
          | true =>
            go_wp2
            go_region_held3 (fun w' => w'.cell? ⟨w.heap.size, 0, none⟩ = some (.int .i64 L) ∧ w'.cell? ⟨w.heap.size, 1, none⟩ = some (.slice va1 fl va2) ∧ w'.cell? ⟨b, k, none⟩ = some (.string (wordT u)))
              (first | with_reducible exact hS3 | with_reducible exact hS2 | with_reducible exact hSd | with_reducible exact hS0 | go_keep)
              ((first
                | (go_at_call 126; (first
                  | (have HQ := HGT.out _ B1; (with_reducible refine HQ.mono ?_); clear HQ; rintro e u1 ⟨rfl, q1⟩; have B2 := B1.trans (q1.mono B1.size); have hS2 := HSS.out _ B2)
                  | (have HQ := HGF.out _ B2; (with_reducible refine HQ.mono ?_); clear HQ; rintro e u2 ⟨rfl, q2⟩; have B3 := B2.trans (q2.mono B2.size); have hS3 := HSS.out _ B3)))
                | fail))
            have HT2 := Lib.hid (show (O.take (k + 1)).filter (keepB F O) = fl' ++ [u] from by rw [HT.out, HKB.out]; simp)
            have hs2 := HS.out.below B3 (Nat.le_refl _)
            have hb2 := HB.out.trans (B3.mono HB.out.size)
            have g2' := (B3.cell (p := ⟨b, k, none⟩) hb).trans g0
            have hz2 := hb2.size
            obtain ⟨v', w3, hr, hs3, hb3⟩ := Sep.push (P := Try.prog) OStr.kept 36 36 (.string ⟨#[]⟩) 16 Try.underlying36 infoStr rfl hs2 hz2 (w1 := u2.alloc (.cells #[.string (wordT u)] 9)) ((Below.refl _ _).alloc (Nat.le_refl _) _) (q := .string (wordT u)) (x := wordT u) ⟨[], ⟨rfl, rfl⟩, by simp [Fresh]⟩ (bb := u2.heap.size) (c := 1) (World.cell?_alloc_at _ _ _ 0 rfl) (by simp; omega) (by simp; omega)
            obtain ⟨a', c', ev, _⟩ := hs3.strsAt
            subst ev
            have e5 : (fl'.map wordT ++ [wordT u]).length = (fl' ++ [u]).length := by simp
            have e6 : fl'.map wordT ++ [wordT u] = (fl' ++ [u]).map wordT := by simp
            rw [e5, e6] at hs3
            rw [e5] at hr
            have e7 : (fl' ++ [u]).length = fl'.length + 1 := by simp
            rw [e7] at hs3 hr
            have HS3 := Lib.hid hs3
            have HB3 := Lib.hid (hb2.trans hb3)
            have Hr := Lib.hid hr
            have E7 := Lib.hid e7
            clear hs3 hr hb3 e5 e6 e7 hs2 hb2 HS HB HGT HGF HT B1 B2 B3 q1 q2
            go_wp2_with (first
              | (at_builtin; refine wpl_append_run rfl (.tmp 31) (.tmp 36) 36 rfl rfl rfl Hr.out ?_)
              | fail)
            go_roundg g2
            case measure => omega
            case rel => exact ⟨k + 1, _, _, by rw [HT2.out, E7.out], by go_num, by omega, by rw [HT2.out, E7.out]; exact HS3, HB3⟩
      · have hki : ¬ ((k : Int) < (O.length : Int)) := by omega
        obtain ⟨l2, hl2⟩ : ∃ x, x = maskF (keepB F (pick W l)) W l := ⟨_, rfl⟩
        have hX : O.filter (keepB F O) = pick W l2 := by rw [HO.out, hl2]; exact pick_filter _ _ _
        have hl2w : l2.length = W.length := by rw [hl2, maskF_len, hlw]
        have hs9 : Sep w0.heap.size wB [Res.strs 9 (.slice na (pick W l2).length nc) ((pick W l2).map wordT), Res.strs 9 (.slice a O.length c) (O.map wordT)] := by
          have h := HS.out
          rw [List.take_of_length_le (by omega), hX] at h
          exact h
        rw [List.take_of_length_le (by omega), hX]
        have hOn : O.length = (pick W l).length := by rw [HO.out]
        have hP2 : (pick W l2).length ≤ 729 := by rw [pick_len _ _ hl2w]; exact Nat.le_trans cntT_le (by omega)
        clear HS
        by_cases he : (pick W l2).length = O.length
        · have hend := keep_end HSup.out (by rw [← hl2, he, hOn])
          have t9 : (((pick W l2).length : Int) == (O.length : Int)) = true := by rw [he]; simp
          have HR := Lib.hid (show New (OStrL 9) w.heap.size wB (.slice a O.length c) (PM.map wordT) from by
            have h := hs9.swap.headNew
            rw [HP.out, ← hend, ← HO.out]
            exact h.mono (Nat.le_of_lt m0))
          have HBf := Lib.hid (HB0.out.trans (HB.out.mono (Nat.le_of_lt m0)))
          generalize (pick W l2).length = q1 at t9 ⊢
          generalize O.length = q2 at t9 HR hki ⊢
          clear hs9 he hend hX hl2 HB
          go_wp2
          go_ret
          exact ⟨_, rfl, HR.out, HBf.out⟩
        · have t9 : (((pick W l2).length : Int) == (O.length : Int)) = false := by simp; omega
          have hless := keep_less hlw (by rw [← hl2, ← hOn]; exact he)
          rw [← hl2] at hless
          have HS9 := Lib.hid (show Sep w0.heap.size wB [Res.strs 9 (.slice na (pick W l2).length nc) ((pick W l2).map wordT)] from hs9.swap.tail)
          have HSu := Lib.hid (show Sup (EG F W) W.length l2 from by rw [hl2]; exact keep_sup HSup.out)
          clear hs9 he hX hl2
          go_wp2
          go_roundg (cntT l2 + 1)
          case measure => omega
          case rel => exact ⟨l2, na, nc, rfl, rfl, HSu, HS9, HB⟩
end Go.Proofs.Ytcilgihmaaobeaa
end

section
namespace Go.Proofs.Ytcilgihmaaobeaa
open Go.RowKit Go.Deep Go.Sd
theorem stepL_bit {s : Nat} {x : Int} {j : Nat} : ∀ {xs : List Arc3} {out : Nat}, (stepL s x xs out).testBit j = true ↔ out.testBit j = true ∨ ∃ a, a ∈ xs ∧ a.2.2 = x ∧ s.testBit a.1.toNat = true ∧ a.2.1.toNat = j
  | [], out => by simp [stepL]
  | a :: ys, out => by
    unfold stepL
    rw [stepL_bit]
    have key : (if hit s x a = true then out ||| 2 ^ a.2.1.toNat else out).testBit j = true ↔ out.testBit j = true ∨ (a.2.2 = x ∧ s.testBit a.1.toNat = true ∧ a.2.1.toNat = j) := by
      unfold hit
      by_cases h : a.2.2 = x ∧ s.testBit a.1.toNat = true
      · rw [if_pos (by simp [h]), Nat.testBit_or, Bool.or_eq_true, Nat.testBit_two_pow, decide_eq_true_eq]
        simp [h]
      · rw [if_neg (by simpa using h)]
        constructor
        · exact Or.inl
        · rintro (h1 | h1)
          · exact h1
          · exact absurd ⟨h1.1, h1.2.1⟩ h
    rw [key]
    constructor
    · rintro ((h | h) | ⟨b, hb, h⟩)
      · exact Or.inl h
      · exact Or.inr ⟨a, by simp, h⟩
      · exact Or.inr ⟨b, by simp [hb], h⟩
    · rintro (h | ⟨b, hb, h⟩)
      · exact Or.inl (Or.inl h)
      · rcases List.mem_cons.1 hb with e | hb
        · subst e; exact Or.inl (Or.inr h)
        · exact Or.inr ⟨b, hb, h⟩
theorem stepN_bit {xs : List Arc3} {s : Nat} {x : Int} {j : Nat} : (stepN xs s x).testBit j = true ↔ ∃ a, a ∈ xs ∧ a.2.2 = x ∧ s.testBit a.1.toNat = true ∧ a.2.1.toNat = j := by
  unfold stepN
  rw [stepL_bit]
  simp
theorem allN_bit (S : Int) (i : Nat) : (allN S).testBit i = true ↔ i < S.toNat := by
  unfold allN
  rw [Nat.testBit_two_pow_sub_one, decide_eq_true_eq]
theorem nat_zero {s : Nat} : s = 0 ↔ ∀ i, ¬ s.testBit i = true := by
  constructor
  · rintro rfl i
    simp
  · intro h
    refine Nat.eq_of_testBit_eq fun i => ?_
    have := h i
    simp at this ⊢
    exact this
/-- A part of a set. -/
def Sub (s t : Nat) : Prop := ∀ i, s.testBit i = true → t.testBit i = true
theorem Sub.step {s t : Nat} (h : Sub s t) (xs : List Arc3) (x : Int) : Sub (stepN xs s x) (stepN xs t x) := fun i hi => by
  obtain ⟨a, ha, hx, hs, hj⟩ := stepN_bit.1 hi
  exact stepN_bit.2 ⟨a, ha, hx, h _ hs, hj⟩
/-- What is reached lies among the states. -/
theorem step_all {S L : Nat} {xs : List Arc3} (ho : ∀ a, a ∈ xs → okArc L S a) (s : Nat) (x : Int) (i : Nat) (h : (stepN xs s x).testBit i = true) : i < S := by
  obtain ⟨a, ha, -, -, hj⟩ := stepN_bit.1 h
  have := ho a ha
  unfold okArc at this
  omega
theorem readB_append (xs : List Arc3) : ∀ (u w : List UInt8) (s : Nat), readB xs (u ++ w) s = readB xs w (readB xs u s)
  | [], _, _ => rfl
  | _ :: u, w, _ => readB_append xs u w _
/-! Graphs made of sorted arcs. -/
theorem akey_lt {L S : Nat} (hL : L ≤ 4) {a b : Arc3} (ha : okArc L S a) (hb : okArc L S b) : akey a < akey b ↔ a.1 < b.1 ∨ (a.1 = b.1 ∧ a.2.2 < b.2.2) := by
  unfold okArc at ha hb
  unfold akey
  omega
theorem resolv_of {l : Lb} (h1 : 1 ≤ l.1 ∧ l.1 ≤ 3) (h2 : 1 ≤ l.2.1 ∧ l.2.1 ≤ 12) (ho : ∀ a, a ∈ l.2.2 → okArc l.1.toNat l.2.1.toNat a) (hs : SortK l.2.2) : resolvM l = true := by
  have allOf : ∀ {f : Nat → Bool} {m k : Nat}, (∀ j, j < m → f (k + j) = true) → allF f m k = true := by
    intro f m
    induction m with
    | zero => intro k _; rfl
    | succ m ih =>
      intro k h
      show (if f k = true then allF f m (k + 1) else false) = true
      rw [if_pos (by simpa using h 0 (by omega))]
      exact ih fun j hj => by rw [show k + 1 + j = k + (j + 1) by omega]; exact h (j + 1) (by omega)
  have hlt : ∀ k, k + 1 < l.2.2.length → akey (at3 l.2.2 k) < akey (at3 l.2.2 (k + 1)) ∧ okArc l.1.toNat l.2.1.toNat (at3 l.2.2 k) := fun k hk => by
    unfold SortK at hs
    have := List.pairwise_iff_getElem.1 hs k (k + 1) (by omega) hk (by omega)
    rw [at3_of (List.getElem?_eq_getElem (show k < l.2.2.length by omega)), at3_of (List.getElem?_eq_getElem hk)]
    exact ⟨this, ho _ (List.getElem_mem _)⟩
  have hat : ∀ k, k < l.2.2.length → okArc l.1.toNat l.2.1.toNat (at3 l.2.2 k) := fun k hk => by
    rw [at3_of (List.getElem?_eq_getElem hk)]
    exact ho _ (List.getElem_mem _)
  unfold resolvM isLab
  rw [Bool.and_eq_true, Bool.and_eq_true, Bool.and_eq_true]
  refine ⟨⟨decide_eq_true h1, decide_eq_true h2, allOf fun j hj => ?_⟩, allOf fun j hj => ?_⟩
  · rw [Nat.zero_add]
    unfold arcB arcOk
    have h3 := hat j hj
    rw [Bool.and_eq_true]
    refine ⟨decide_eq_true ?_, ?_⟩
    · unfold okArc at h3; omega
    · cases j with
      | zero => simp
      | succ j =>
        rw [Nat.add_sub_cancel]
        obtain ⟨h4, h5⟩ := hlt j hj
        have h6 := (akey_lt (by omega) h5 h3).1 h4
        unfold before
        rw [Bool.or_eq_true]
        right
        by_cases e : (at3 l.2.2 j).1 = (at3 l.2.2 (j + 1)).1
        · rw [if_neg (by simp [e])]
          rw [if_pos (by omega)]
          exact decide_eq_true (by omega)
        · rw [if_pos e]
          exact decide_eq_true (by omega)
  · rw [Nat.zero_add]
    unfold resB
    cases j with
    | zero => simp
    | succ j =>
      rw [Nat.add_sub_cancel]
      obtain ⟨h4, h5⟩ := hlt j hj
      have h6 := (akey_lt (by omega) h5 (hat _ hj)).1 h4
      rw [Bool.or_eq_true]
      right
      rw [Bool.not_eq_true', Bool.and_eq_false_iff, decide_eq_false_iff_not, decide_eq_false_iff_not]
      by_cases e : (at3 l.2.2 j).1 = (at3 l.2.2 (j + 1)).1
      · exact Or.inr (by omega)
      · exact Or.inl e
end Go.Proofs.Ytcilgihmaaobeaa
end
