/-
  All words of a length: the program's power, wordAt, wordsOf.
-/
import Derived.Test.YtdohepngandajaaRows
import Derived.Test.YtdohepngandajaaBase
import Derived.Test.YtdohepngandajaaTabs
import Derived.Test.YtdohepngandajaaHarn
import Derived.Test.YtdohepngandajaaPairLib
import Derived.Test.YtdohepngandajaaShortCl
import Derived.Test.YtdohepngandajaaShortS
import Derived.Test.YtdohepngandajaaWordM
import Derived.Test.YtdohepngandajaaReachK
import Derived.IntWalk
namespace Go.Proofs.Ytdohepngandajaa
open Go.RowKit Go.Deep Go.Sd
set_option linter.unusedSimpArgs false
set_option maxHeartbeats 400000 in
theorem powerK_c {w : World} {L e : Nat} (hL : L ≤ 3) (he : e ≤ 6) :
    Calls Try.prog 192 #[.int .i64 L, .int .i64 e] w fun x w' => x = .returned (.int .i64 ((L ^ e : Nat) : Int)) ∧ w = w' := by
  have HL := Lib.hid hL
  go_enter Try.func192, Try.ntmps192
  go_wp2
  go_loopg [5, 7] e (fun g v i wr => ∃ (k z : Nat), i = .int .i64 k ∧ v = .int .i64 z ∧ k + g = e ∧ Hid (z = L ^ k) ∧ w = wr)
  case atStart => exact ⟨0, 1, rfl, rfl, by omega, Lib.hid rfl, rfl⟩
  case round =>
    obtain ⟨k, z, rfl, rfl, hk, hz, rfl⟩ := hrel
    by_cases hlt : k < e
    · have hz1 : z ≤ 729 := by rw [hz.out]; exact pow_le HL.out (by omega)
      have hz2 : z * L ≤ 729 := by rw [hz.out, ← Nat.pow_succ]; exact pow_le HL.out (by omega)
      have hz3 : wrap64 ((z : Int) * (L : Int)) = ((z * L : Nat) : Int) := by rw [← Int.natCast_mul]; exact IntWalk.wrap64_in _ (by omega)
      have R := Lib.hid (show z * L = L ^ (k + 1) from by rw [hz.out, Nat.pow_succ])
      clear hz
      generalize z * L = zz at hz2 hz3 R
      go_wp2
      go_roundg (e - (k + 1))
      case measure => omega
      case rel => exact ⟨k + 1, zz, by go_num, by first | rfl | rw [hz3], by omega, R, rfl⟩
    · have E := Lib.hid (show z = L ^ e from by rw [hz.out]; congr 1; omega)
      clear hz
      go_wp2
      go_ret
      exact ⟨by rw [E.out]; rfl, rfl⟩
theorem SlOf.comap {α β : Type} {f : β → Value} {h : α → β} {w : World} {v : Value} {xs : List α} (hs : SlOf (ValR f) w v (xs.map h)) : SlOf (ValR fun x => f (h x)) w v xs := by
  obtain ⟨us, h1, h2, h3⟩ := hs
  exact ⟨us, h1, by simpa using h2, fun i u x hu hx => h3 i u (h x) hu (by rw [List.getElem?_map, hx]; rfl)⟩
set_option maxHeartbeats 2000000 in
set_option maxRecDepth 100000 in
theorem wordAt_c {w : World} {L n i : Nat} (hL0 : 0 < L) (hL : L ≤ 3) (hn : n ≤ 6) (hi : i < 1000) :
    Calls Try.prog 193 #[.int .i64 L, .int .i64 n, .int .i64 i] w fun e w' => e = .returned (.string (wordT (wordD L n i))) ∧ Below w.heap.size w w' := by
  obtain ⟨D, hD⟩ : ∃ D, D = wordD L n i := ⟨_, rfl⟩
  rw [← hD]
  have HD0 := Lib.hid (show D.take n = wordD L n i from by rw [hD]; exact List.take_of_length_le (by rw [wordD_len]; exact Nat.le_refl _))
  have HDl := Lib.hid (show D.length = n from by rw [hD]; exact wordD_len _ _ _)
  have HDx := Lib.hid (show ∀ x, x ∈ D → x < 3 from fun x hx => by rw [hD] at hx; have := wordD_lt hL0 n i x hx; omega)
  have HL := Lib.hid hL
  clear hD
  go_enter Try.func193, Try.ntmps193
  go_wp2_with (first
    | (at_make; refine wpl_make (R := OValR (Value.int .u8)) rfl (.tmp 9) (.tmp 9) 64 rfl 5 (.int .u8 0) 1 Try.underlying64 infoB8 rfl n (by rfl) (by rfl) (by omega) (by omega) (d := (0 : Int)) (fun _ => ⟨rfl, rfl⟩) ?_; intro w1 hz1 hn1 hb1; have Hz1 := Lib.hid hz1; have Hn1 := Lib.hid hn1; have Hb1 := Lib.hid hb1; clear hz1 hn1 hb1)
    | fail)
  have HN0 := Lib.hid (show New (OwnOf 5 (OValR (Value.int .u8))) w.heap.size w1 (.slice (some ⟨w.heap.size, 0, none⟩) n n) (List.replicate n 0 ++ (D.drop n).map fun x : Nat => 97 + (x : Int)) from by
    rw [List.drop_of_length_le (by rw [HDl.out]; exact Nat.le_refl _)]
    simpa using Hn1.out)
  clear Hz1 Hn1
  go_loopg [2, 8] n (fun g vi v8 wr => ∃ (j : Nat), vi = .int .i64 j ∧ v8 = .int .i64 ((g : Int) - 1) ∧ g ≤ n ∧ j < 1000 ∧ Hid (D.take g = wordD L g j) ∧ Hid (New (OwnOf 5 (OValR (Value.int .u8))) w.heap.size wr (.slice (some ⟨w.heap.size, 0, none⟩) n n) (List.replicate g 0 ++ (D.drop g).map fun x : Nat => 97 + (x : Int))) ∧ Hid (Below w.heap.size w wr))
  case atStart => exact ⟨i, rfl, by first | rfl | (congr 1), Nat.le_refl _, hi, HD0, HN0, Hb1⟩
  case round =>
    clear HD0 HN0 Hb1
    obtain ⟨j, rfl, rfl, hg, hj, HT, HN, HB⟩ := hrel
    cases gk with
    | zero =>
      have hcv := conv_word (w := wr) Try.underlying64 Try.underlying5 Try.underlying9 (wd := D) (a := some ⟨w.heap.size, 0, none⟩) (n := n) (c := n) (by
        obtain ⟨F, hF, _⟩ := HN.out
        have h1 : SlOf (ValR (Value.int .u8)) wr (.slice (some ⟨w.heap.size, 0, none⟩) n n) (D.map fun x : Nat => 97 + (x : Int)) := by
          have h2 : SlOf (ValR (Value.int .u8)) wr _ _ := OwnOf.reads (fun _ _ _ _ h => h.1) hF
          simpa using h2
        exact SlOf.comap (h := fun x : Nat => 97 + (x : Int)) h1) HDx.out
      clear HT HN
      go_wp2
      go_ret
      exact ⟨rfl, HB.out⟩
    | succ m =>
      have hlen : (List.replicate (m + 1) (0 : Int) ++ (D.drop (m + 1)).map fun x : Nat => 97 + (x : Int)).length = n := by simp [HDl.out]; omega
      obtain ⟨b', c', hv, _, _, hblt, hcl, hfr, hst⟩ := HN.out.val_at (i := m) (x := 0) (fun _ => rfl) (by rw [List.getElem?_append_left (by simp)]; simp)
      rw [hlen] at hv
      simp at hv
      obtain ⟨rfl, rfl⟩ := hv
      have hr : D.drop m = (j % L) :: D.drop (m + 1) ∧ D.take m = wordD L m (j / L) := by
        have h1 := HT.out
        unfold wordD at h1
        have hm : m < D.length := by rw [HDl.out]; omega
        obtain ⟨x, hx, hd⟩ := at_lt hm
        rw [List.take_add_one, hx] at h1
        have h2 := List.append_inj' h1 rfl
        have h3 : x = j % L := by have := h2.2; simpa using this
        exact ⟨by rw [hd, h3], h2.1⟩
      have hrx : j % L < L := Nat.mod_lt _ hL0
      have hd1 : j / L ≤ j := Nat.div_le_self _ _
      have hm1 : (j : Int) % (L : Int) = ((j % L : Nat) : Int) := by rw [Int.natCast_emod]
      have hm2 : (j : Int) / (L : Int) = ((j / L : Nat) : Int) := by rw [Int.natCast_ediv]
      generalize j % L = r at hr hrx hm1
      generalize j / L = d at hr hd1 hm2
      have hL3 := HL.out
      have HT2 := Lib.hid hr.2
      have HN2 := Lib.hid (show New (OwnOf 5 (OValR (Value.int .u8))) w.heap.size (wr.setCell ⟨w.heap.size, m, none⟩ (.int .u8 (97 + (r : Int)))) (.slice (some ⟨w.heap.size, 0, none⟩) n n) (List.replicate m 0 ++ (D.drop m).map fun x : Nat => 97 + (x : Int)) from by
        have h := hst (97 + (r : Int))
        have e : (List.replicate (m + 1) (0 : Int) ++ (D.drop (m + 1)).map fun x : Nat => 97 + (x : Int)).set m (97 + (r : Int)) = List.replicate m 0 ++ (D.drop m).map fun x : Nat => 97 + (x : Int) := by
          rw [hr.1, List.replicate_succ', List.append_assoc, List.set_append_right _ _ (by simp)]
          simp
        rw [e] at h
        exact h)
      have HB2 := Lib.hid (HB.out.setCell (p := ⟨w.heap.size, m, none⟩) (Nat.le_refl _) (.int .u8 (97 + (r : Int))))
      have hu8 : IntKind.u8.wrap (97 + (r : Int)) = 97 + (r : Int) := IntWalk.u8_in _ (by omega)
      have hL1 : (L : Int) ≠ 0 := by omega
      have hmn : (m : Int) < (n : Int) := by omega
      have hwr : IntKind.i64.wrap (d : Int) = (d : Int) := IntWalk.i64_in _ (by omega)
      have hwr2 : IntKind.i64.wrap (r : Int) = (r : Int) := IntWalk.i64_in _ (by omega)
      clear HT HN HB hst hr hlen
      go_wp2
      go_roundg m
      case measure => omega
      case rel => exact ⟨d, rfl, rfl, by omega, by omega, HT2, HN2, HB2⟩
abbrev OStrL (e : TypeId) : OwnRel (List ByteArray) := OwnOf e (OValR Value.string)
/-- append of a text, laid in a block of its own. -/
theorem New.pushStr {lo : Nat} {w : World} {v : Value} {xs : List ByteArray} (h : New (OStrL 9) lo w v xs) (hlo : lo ≤ w.heap.size) {w0 : World} (hb : Below w.heap.size w w0) (s : ByteArray) (hl : xs.length ≤ 1000000) :
    ∃ a c w', (Builtin.append_ #[36, 36] 36 #[v, .slice (some ⟨w0.heap.size, 0, none⟩) 1 1]).run Try.prog (w0.alloc (.cells #[.string s] 9)) = .ok (.slice a (xs.length + 1) c) w' ∧ New (OStrL 9) lo w' (.slice a (xs.length + 1) c) (xs ++ [s]) ∧ Below lo w w' := by
  obtain ⟨v', w', hr, hs, hb'⟩ := Sep.push (P := Try.prog) OStr.kept 36 36 (.string ⟨#[]⟩) 16 Try.underlying36 infoStr rfl (Sep.one (OwnOf.kept OStr.kept).held h) hlo (w1 := w0.alloc (.cells #[.string s] 9)) (hb.alloc hb.size _) (q := .string s) (x := s) ⟨[], ⟨rfl, rfl⟩, by simp [Fresh]⟩ (bb := w0.heap.size) (c := 1) (World.cell?_alloc_at _ _ _ 0 rfl) (by omega) (by omega)
  have hn := hs.headNew
  obtain ⟨a, c, e, _⟩ := hs.strsAt
  subst e
  rw [show (xs ++ [s]).length = xs.length + 1 by simp] at hr hn
  exact ⟨a, c, w', hr, hn, hb'⟩
set_option maxHeartbeats 2000000 in
set_option maxRecDepth 100000 in
theorem wordsOf_c {w : World} {L n : Nat} (hL0 : 0 < L) (hL : L ≤ 3) (hn : n ≤ 6) :
    Calls Try.prog 145 #[.int .i64 L, .int .i64 n] w (Makes (OStrL 9) w ((allW L n).map wordT)) := by
  have HE := Lib.hid (show (List.range (L ^ n)).map (fun i => wordT (wordD L n i)) = (allW L n).map wordT from by rw [allW_eq hL0, List.map_map]; rfl)
  have HP := Lib.hid (fun w => powerK_c (w := w) hL hn)
  have HW := Lib.hid (fun w i (hi : i < 1000) => wordAt_c (w := w) hL0 hL hn hi)
  have hM := pow_le hL hn
  generalize L ^ n = M at HE HP hM
  have H0 := Lib.hid (New.empty (e := 9) (R := OValR Value.string) w (Nat.le_refl _))
  have B0 := Lib.hid (show Below w.heap.size w (w.alloc (.cells #[] 9)) from (Below.refl _ _).alloc (Nat.le_refl _) _)
  go_enter Try.func145, Try.ntmps145
  go_wp2_with fail
  refine (HP.out _).mono ?_
  rintro e w' ⟨rfl, rfl⟩
  go_wp2
  go_loopg [5, 11] M (fun g vs i wr => ∃ (k : Nat) (a : Option Addr) (c : Nat), vs = .slice a k c ∧ i = .int .i64 k ∧ k + g = M ∧ Hid (New (OStrL 9) w.heap.size wr (.slice a k c) ((List.range k).map fun i => wordT (wordD L n i))) ∧ Hid (Below w.heap.size w wr))
  case atStart => exact ⟨0, _, _, rfl, rfl, by omega, H0, B0⟩
  case round =>
    clear H0 B0
    obtain ⟨k, a, c, rfl, rfl, hk, HN, HB⟩ := hrel
    by_cases hlt : k < M
    · have C1 := Lib.hid (HW.out wr k (by omega))
      have hz := HB.out.size
      have hki : (k : Int) < (M : Int) := by omega
      go_wp2_with fail
      refine C1.out.mono ?_
      rintro e w2 ⟨rfl, hb2⟩
      obtain ⟨a', c', w3, hr, hn3, hb3⟩ := New.pushStr HN.out hz hb2 (wordT (wordD L n k)) (by simp; omega)
      have e1 : ((List.range k).map fun i => wordT (wordD L n i)).length = k := by simp
      rw [e1] at hr hn3
      have HN3 := Lib.hid (show New (OStrL 9) w.heap.size w3 (.slice a' (k + 1) c') ((List.range (k + 1)).map fun i => wordT (wordD L n i)) from by rw [List.range_succ, List.map_append]; exact hn3)
      have HB3 := Lib.hid (HB.out.trans hb3)
      have Hr := Lib.hid hr
      clear hr hn3 hb3 hb2 HN HB C1 e1
      go_wp2_with (first
        | (at_builtin; refine wpl_append_run rfl (.tmp 14) (.tmp 19) 36 rfl rfl rfl Hr.out ?_)
        | fail)
      go_roundg (M - (k + 1))
      case measure => omega
      case rel => exact ⟨k + 1, _, _, rfl, by go_num, by omega, HN3, HB3⟩
    · obtain rfl : k = M := by omega
      have HR := Lib.hid (show New (OStrL 9) w.heap.size wr (.slice a k c) ((allW L n).map wordT) from by rw [← HE.out]; exact HN.out)
      clear HN
      go_wp2
      go_ret
      exact ⟨_, rfl, HR.out, HB.out⟩
set_option maxHeartbeats 2000000 in
set_option maxRecDepth 100000 in
theorem filtered_c {w : World} {L n : Nat} (hL0 : 0 < L) (hL : L ≤ 3) (hn : n ≤ 6) {F : FuncId} {caps : Array Value} {f : List Nat → Bool} (hcf : ∀ (args : Array Value) (w : World), (callFunc F args).run Try.prog w = .ok (.enter F args) w) (hF : ∀ w1 wd, Below w.heap.size w w1 → wd.length = n → (∀ x, x ∈ wd → x < L) → Calls Try.prog F (#[.string (wordT wd)] ++ caps) w1 fun e w' => e = .returned (.bool (f wd)) ∧ Below w1.heap.size w1 w') :
    Calls Try.prog 79 #[.int .i64 L, .int .i64 n, .func (.func F) #[] caps] w (Makes (OStrL 9) w (((allW L n).filter f).map wordT)) := by
  have HW := Lib.hid (fun w1 => wordsOf_c (w := w1) hL0 hL hn)
  have Hm := Lib.hid (fun wd (h : wd ∈ allW L n) => allW_mem hL0 h)
  have HF := Lib.hid hF
  have hM : (allW L n).length ≤ 729 := by rw [allW_len hL0]; exact pow_le hL hn
  have H0 := Lib.hid (New.empty (e := 9) (R := OValR Value.string) w (Nat.le_refl _))
  generalize allW L n = A at HW Hm hM ⊢
  clear hF
  obtain ⟨w0, e0⟩ : ∃ x, x = w.alloc (.cells #[] 9) := ⟨_, rfl⟩
  have B0 := Lib.hid (show Below w.heap.size w w0 from by rw [e0]; exact (Below.refl _ _).alloc (Nat.le_refl _) _)
  rw [← e0] at H0
  have e0s := e0.symm
  clear e0
  go_enter Try.func79, Try.ntmps79
  go_wp2_with fail
  refine (HW.out _).mono ?_
  rintro e w1 ⟨r, rfl, hn1, hb1⟩
  have hzw := B0.out.size
  have hs1 := ((Sep.one (OwnOf.kept OStr.kept).held H0.out).new (OwnOf.kept OStr.kept).held hb1 hzw hn1).swap
  obtain ⟨ra, rc, er, _⟩ := hs1.swap.strsAt
  subst er
  rw [List.length_map] at hs1 ⊢
  have HS1 := Lib.hid hs1
  have HB1 := Lib.hid (B0.out.trans (hb1.mono hzw))
  clear hn1 hb1 hs1 H0 B0 e0s
  go_wp2
  go_loopg [7, 15] A.length (fun g vs i wr => ∃ (k : Nat) (a : Option Addr) (c : Nat), vs = .slice a ((A.take k).filter f).length c ∧ i = .int .i64 k ∧ k + g = A.length ∧ Hid (Sep w.heap.size wr [Res.strs 9 (.slice a ((A.take k).filter f).length c) (((A.take k).filter f).map wordT), Res.strs 9 (.slice ra A.length rc) (A.map wordT)]) ∧ Hid (Below w.heap.size w wr))
  case atStart => exact ⟨0, _, _, rfl, rfl, by omega, HS1, HB1⟩
  case round =>
    clear HS1 HB1
    obtain ⟨k, a, c, rfl, rfl, hk, HS, HB⟩ := hrel
    by_cases hlt : k < A.length
    · obtain ⟨wd, hwd, _⟩ := at_lt hlt
      obtain ⟨_, _, hv, hq⟩ := HS.out.swap.strsAt
      obtain ⟨b, e1, hb, hc⟩ := hq (by simp; omega)
      simp at hv
      obtain ⟨rfl, rfl⟩ := hv
      subst e1
      have g0 := hc k (wordT wd) (by simp [hwd])
      have hm := Hm.out wd (List.mem_of_getElem? hwd)
      have C1 := Lib.hid (HF.out wr wd HB.out hm.1 hm.2)
      have hz := HB.out.size
      have hki : (k : Int) < (A.length : Int) := by omega
      have HT := Lib.hid (show (A.take (k + 1)).filter f = (A.take k).filter f ++ (if f wd = true then [wd] else []) from by rw [← take_snoc' hwd, List.filter_append]; congr 1; simp [List.filter_cons])
      have hfl : ((A.take k).filter f).length ≤ 729 := Nat.le_trans (List.length_filter_le _ _) (by simp; omega)
      generalize hfn : (A.take k).filter f = fl at HS HT hfl
      clear hfn hwd hq hc hm
      go_wp2_with fail
      refine C1.out.mono ?_
      rintro e w2 ⟨rfl, hb2⟩
      have HS2 := Lib.hid (HS.out.below hb2 (Nat.le_refl _))
      have HB2 := Lib.hid (HB.out.trans (hb2.mono hz))
      have g2 := (hb2.cell (p := ⟨b, k, none⟩) hb).trans g0
      have hz2 := HB2.out.size
      clear C1 hb2 HS HB g0 hb
      cases hf : f wd with
      | false =>
        have HT2 := Lib.hid (show (A.take (k + 1)).filter f = fl from by rw [HT.out, hf]; simp)
        clear HT
        go_wp2
        go_roundg (A.length - (k + 1))
        case measure => omega
        case rel => exact ⟨k + 1, _, _, by rw [HT2.out], by go_num, by omega, by rw [HT2.out]; exact HS2, HB2⟩
      | true =>
        have HT2 := Lib.hid (show (A.take (k + 1)).filter f = fl ++ [wd] from by rw [HT.out, hf]; simp)
        obtain ⟨v', w3, hr, hs3, hb3⟩ := Sep.push (P := Try.prog) OStr.kept 36 36 (.string ⟨#[]⟩) 16 Try.underlying36 infoStr rfl HS2.out hz2 (w1 := w2.alloc (.cells #[.string (wordT wd)] 9)) ((Below.refl _ _).alloc (Nat.le_refl _) _) (q := .string (wordT wd)) (x := wordT wd) ⟨[], ⟨rfl, rfl⟩, by simp [Fresh]⟩ (bb := w2.heap.size) (c := 1) (World.cell?_alloc_at _ _ _ 0 rfl) (by simp; omega) (by simp; omega)
        obtain ⟨a', c', ev, _⟩ := hs3.strsAt
        subst ev
        have e5 : (fl.map wordT ++ [wordT wd]).length = (fl ++ [wd]).length := by simp
        have e6 : fl.map wordT ++ [wordT wd] = (fl ++ [wd]).map wordT := by simp
        rw [e5, e6] at hs3
        rw [e5] at hr
        have e7 : (fl ++ [wd]).length = fl.length + 1 := by simp
        rw [e7] at hs3 hr
        have HS3 := Lib.hid hs3
        have HB3 := Lib.hid (HB2.out.trans hb3)
        have Hr := Lib.hid hr
        have E7 := Lib.hid e7
        clear HT hs3 hr hb3 e5 e6 e7 HS2 HB2
        go_wp2_with (first
          | (at_builtin; refine wpl_append_run rfl (.tmp 22) (.tmp 24) 36 rfl rfl rfl Hr.out ?_)
          | fail)
        go_roundg (A.length - (k + 1))
        case measure => omega
        case rel => exact ⟨k + 1, _, _, by rw [HT2.out, E7.out], by go_num, by omega, by rw [HT2.out, E7.out]; exact HS3, HB3⟩
    · have HR := Lib.hid (show New (OStrL 9) w.heap.size wr (.slice a ((A.take k).filter f).length c) ((A.filter f).map wordT) from by have h := HS.out.headNew; rw [List.take_of_length_le (by omega)] at h ⊢; exact h)
      have hki : ¬ ((k : Int) < (A.length : Int)) := by omega
      generalize ((A.take k).filter f).length = fl at HR
      clear HS
      go_wp2
      go_ret
      exact ⟨_, rfl, HR.out, HB.out⟩
end Go.Proofs.Ytdohepngandajaa
