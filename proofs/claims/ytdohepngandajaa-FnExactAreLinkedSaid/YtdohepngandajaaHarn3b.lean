/-
  The laws' helpers on lists of tables: marks.
-/
import Derived.Test.YtdohepngandajaaRows
import Derived.Test.YtdohepngandajaaBase
import Derived.Test.YtdohepngandajaaHarn
import Derived.Test.YtdohepngandajaaLawKit
import Derived.Test.YtdohepngandajaaHarn3
namespace Go.Proofs.Ytdohepngandajaa
open Go.RowKit Go.Deep Go.Sd
theorem _root_.Go.Sd.OTabs.reads' {eI eR eT : TypeId} {w : World} {v : Value} {xs : List (List (List Int))} {F : List Nat} (h : OTabs eI eR eT w v xs F) : Tabs w v xs := OTabs.reads h
def cntSSS : List (List (List Int)) → Int
  | [] => 0
  | r :: rs => cntSS r + cntSSS rs
def markSSS : List (List (List Int)) → Int → List (List (List Int))
  | [], _ => []
  | r :: rs, k => markSS r k :: markSSS rs (k + cntSS r)
def heldSSS : List (List (List Int)) → Int → Int
  | [], k => k
  | r :: rs, k => if heldSS r k < 0 then -1 else heldSSS rs (heldSS r k)
theorem cntSSS_nn (m : List (List (List Int))) : 0 ≤ cntSSS m := by
  induction m with
  | nil => simp [cntSSS]
  | cons r rs ih => have := cntSS_nn r; unfold cntSSS; omega
theorem markSSS_len (m : List (List (List Int))) (k : Int) : (markSSS m k).length = m.length := by
  induction m generalizing k with
  | nil => rfl
  | cons x xs ih => simp [markSSS, ih]
theorem heldSSS_mark (m : List (List (List Int))) (k : Int) (h : 0 ≤ k) : heldSSS (markSSS m k) k = k + cntSSS m := by
  induction m generalizing k with
  | nil => simp [heldSSS, markSSS, cntSSS]
  | cons x xs ih =>
    have := cntSS_nn x
    simp only [markSSS, heldSSS, heldSS_mark x k h, cntSSS]
    rw [if_neg (by omega), ih _ (by omega)]
    omega
theorem cntSSS_mark (m : List (List (List Int))) (k : Int) : cntSSS (markSSS m k) = cntSSS m := by
  induction m generalizing k with
  | nil => rfl
  | cons r rs ih => simp [markSSS, cntSSS, cntSS_mark, ih]
theorem markSSS_at (m : List (List (List Int))) (k : Int) (i : Nat) (x : List (List Int)) (h : m[i]? = some x) : (markSSS m k)[i]? = some (markSS x (k + cntSSS (m.take i))) ∧ cntSSS (m.take (i + 1)) = cntSSS (m.take i) + cntSS x := by
  induction m generalizing k i with
  | nil => simp at h
  | cons r rs ih =>
    cases i with
    | zero => simp at h; subst h; simp [markSSS, cntSSS]
    | succ i =>
      have := ih (k + cntSS r) i (by simpa using h)
      simp only [markSSS, List.getElem?_cons_succ, List.take_succ_cons, cntSSS]
      refine ⟨?_, by rw [this.2]; omega⟩
      rw [this.1]; congr 2; omega
theorem cntSSS_take (m : List (List (List Int))) (i : Nat) : 0 ≤ cntSSS (m.take i) ∧ cntSSS (m.take i) ≤ cntSSS m := by
  induction m generalizing i with
  | nil => simp [cntSSS]
  | cons r rs ih =>
    cases i with
    | zero => simp [cntSSS]; have := cntSSS_nn rs; have := cntSS_nn r; omega
    | succ i => simp only [List.take_succ_cons, cntSSS]; have := ih i; have := cntSS_nn r; omega

set_option maxHeartbeats 400000 in
theorem markIntSSS_c {w : World} {v : Value} {m : List (List (List Int))} {F : List Nat} {k0 : Int} (h : OTabs 3 50 41 w v m F) (hF : F.Nodup) (h0 : 0 ≤ k0) (h1 : k0 + cntSSS m ≤ 4611686018427387904) :
    Calls Try.prog 36 #[v, .int .i64 k0] w (Marks (OTabs 3 50 41) F w v (markSSS m k0) (k0 + cntSSS m)) := by
  have hsh := h.reads.shape
  have hlen := h.reads.len
  obtain ⟨a, c, hv, _, _, _⟩ := hsh
  obtain ⟨n, hn⟩ : ∃ n, n = m.length := ⟨_, rfl⟩
  rw [← hn] at hv hlen
  have Hn := Lib.hid hn
  have Hm := Lib.hid (markSSS_len m k0)
  have H1 := Lib.hid h1
  clear hn h1
  subst hv
  go_enter Try.func36, Try.ntmps36
  go_wp2
  go_loopg [1, 5] n (fun g x i wr => ∃ (k : Nat) (j : Int), i = .int .i64 k ∧ x = .int .i64 j ∧ Hid (j = k0 + cntSSS (m.take k)) ∧ k + g = n ∧ OTabs 3 50 41 wr (.slice a n c) ((markSSS m k0).take k ++ m.drop k) F ∧ Off F w wr)
  case atStart => exact ⟨0, k0, rfl, rfl, Lib.hid (by simp [cntSSS]), by omega, by simpa using h, Off.refl _ _⟩
  case round =>
    obtain ⟨k, j, rfl, rfl, Hj, hk, hown, hoff⟩ := hrel
    clear h
    by_cases hlt : k < n
    · obtain ⟨x, hx, _⟩ := at_lt (xs := m) (k := k) (by have := Hn.out; omega)
      have hat := markSSS_at m k0 k x hx
      have ht := cntSSS_take m k
      have ht1 := cntSSS_take m (k + 1)
      obtain ⟨b, c', u, G, hv, _, hbF, _, hcl, hfr, hu, hGF, hGn, hst, _⟩ := hown.focus (OTab.kept _ _) hF (mark_at (markSSS m k0) m k n (by rw [Hm.out, Hn.out]) Hn.out hlt x hx)
      obtain rfl : a = some ⟨b, 0, none⟩ := by simp at hv; exact hv.1
      have Hc := Lib.hid (markIntSS_c (k0 := j) hu hGn (by have := Hj.out; omega) (by have := Hj.out; have := H1.out; rw [hat.2] at ht1; omega))
      have Hst := Lib.hid (show ∀ w1, OTab 3 50 w1 u (markSS x j) G → Off G wr w1 → OTabs 3 50 41 w1 (.slice (some ⟨b, 0, none⟩) n c) ((markSSS m k0).take (k + 1) ++ m.drop (k + 1)) F by
        intro w1 h2 h3
        have := hst w1 (markSS x j) h2 (fun q hq hqG => h3.block q ((OTabs.kept _ _ _).lt _ _ _ _ hown q hq) hqG)
        rw [mark_step (markSSS m k0) m k n (by rw [Hm.out, Hn.out]) Hn.out hlt _ (by rw [hat.1, ← Hj.out])] at this
        exact this)
      have HG := Lib.hid hGF
      have Hat := Lib.hid hat
      have hj : 0 ≤ j ∧ j + cntSS x ≤ 4611686018427387904 := by have := Hj.out; have := H1.out; rw [hat.2] at ht1; omega
      obtain ⟨hj1, hj2⟩ := hj
      clear hv hst hown hx hu hGF hGn hat ht ht1
      go_wp2_with (go_at_call 35; refine Hc.out.mono ?_; rintro e w1 ⟨rfl, hm1, hoff1⟩)
      go_roundg (n - (k + 1))
      case measure => omega
      case rel => exact ⟨k + 1, _, by go_num, rfl, Lib.hid (by rw [Hat.out.2, Hj.out]; omega), by omega, Hst.out _ hm1 hoff1, hoff.trans (hoff1.mono HG.out)⟩
    · have e : k = n := by omega
      subst e
      rw [List.take_of_length_le (by rw [Hm.out, ← Hn.out]; omega), drop_len (by have := Hn.out; omega), List.append_nil] at hown
      rw [List.take_of_length_le (by have := Hn.out; omega)] at Hj
      go_wp2
      go_ret
      exact ⟨by rw [← Hj.out]; rfl, hown, hoff⟩

theorem heldSSS_bd (m : List (List (List Int))) (k : Int) (h : 0 ≤ k) : -1 ≤ heldSSS m k ∧ heldSSS m k ≤ k + cntSSS m := by
  induction m generalizing k with
  | nil => simp [heldSSS, cntSSS]; omega
  | cons r rs ih =>
    unfold heldSSS
    have hb := heldSS_bd r k h
    have hn := cntSSS_nn rs
    split
    · simp only [cntSSS]; omega
    · have := ih (heldSS r k) (by omega); simp only [cntSSS]; omega

set_option maxHeartbeats 400000 in
theorem heldIntSSS_c {w : World} {v : Value} {m : List (List (List Int))} {k0 : Int} (h : Tabs w v m) (h0 : 0 ≤ k0) (h1 : k0 + cntSSS m ≤ 4611686018427387904) :
    Calls Try.prog 37 #[v, .int .i64 k0] w fun e w' => e = .returned (.int .i64 (heldSSS m k0)) ∧ w = w' := by
  have hlen := h.len
  obtain ⟨a, c, rfl, _, _, hcell⟩ := h.shape
  clear h
  obtain ⟨n, hn⟩ : ∃ n, n = m.length := ⟨_, rfl⟩
  rw [← hn] at hcell hlen ⊢
  have Hn := Lib.hid hn
  have H1 := Lib.hid h1
  clear hn h1
  go_enter Try.func37, Try.ntmps37
  go_wp2
  go_loopg [1, 5] n (fun g x i wr => ∃ (k : Nat) (j : Int), i = .int .i64 k ∧ x = .int .i64 j ∧ 0 ≤ j ∧ Hid (j ≤ k0 + cntSSS (m.take k)) ∧ k + g = n ∧ Hid (heldSSS m k0 = heldSSS (m.drop k) j) ∧ w = wr)
  case atStart => exact ⟨0, k0, rfl, rfl, by omega, Lib.hid (by simp [cntSSS]), by omega, Lib.hid (by simp), rfl⟩
  case round =>
    obtain ⟨k, j, rfl, rfl, hj0, Hj, hk, H, rfl⟩ := hrel
    by_cases hlt : k < n
    · obtain ⟨b, o, rfl, hb, hx0⟩ := hcell (by omega)
      obtain ⟨x, hx, hd⟩ := at_lt (xs := m) (k := k) (by have := Hn.out; omega)
      obtain ⟨u, hu, hr⟩ := hx0 k x hx
      have hat := (markSSS_at m k0 k x hx).2
      have ht1 := cntSSS_take m (k + 1)
      have H2 := Lib.hid (show heldSSS m k0 = if heldSS x j < 0 then -1 else heldSSS (m.drop (k + 1)) (heldSS x j) from by rw [H.out, hd]; rfl)
      have Hc := Lib.hid (heldIntSS_c hr hj0 (by have := Hj.out; have := H1.out; omega))
      have hbd := heldSS_bd x j hj0
      have Hb := Lib.hid (show heldSS x j ≤ k0 + cntSSS (m.take (k + 1)) from by have := Hj.out; omega)
      clear H hx hd hx0 hcell hr hat ht1
      generalize heldSS x j = y at H2 Hc hbd Hb
      by_cases hy : y < 0
      · have H3 := Lib.hid (show heldSSS m k0 = -1 from by rw [H2.out, if_pos hy])
        clear H2
        go_wp2_with (go_at_call 101; refine Hc.out.mono ?_; rintro e w' ⟨rfl, rfl⟩)
        go_ret
        exact ⟨by rw [H3.out]; rfl, rfl⟩
      · have H3 := Lib.hid (show heldSSS m k0 = heldSSS (m.drop (k + 1)) y from by rw [H2.out, if_neg hy])
        clear H2
        go_wp2_with (go_at_call 101; refine Hc.out.mono ?_; rintro e w' ⟨rfl, rfl⟩)
        go_roundg (n - (k + 1))
        case measure => omega
        case rel => exact ⟨k + 1, y, by go_num, rfl, by omega, Hb, by omega, H3, rfl⟩
    · have H2 := Lib.hid (show heldSSS m k0 = j from by rw [H.out, drop_len (by have := Hn.out; omega)]; rfl)
      clear H
      go_wp2
      go_ret
      exact ⟨by rw [H2.out]; rfl, rfl⟩
theorem markIntSSS_in {lo hi : Nat} {w : World} {v : Value} {m : List (List (List Int))} {k0 : Int} (h : NewIn (OTabs 3 50 41) lo hi w v m) (h0 : 0 ≤ k0) (h1 : k0 + cntSSS m ≤ 4611686018427387904) :
    Calls Try.prog 36 #[v, .int .i64 k0] w (MarksIn (OTabs 3 50 41) lo hi w v (markSSS m k0) (k0 + cntSSS m)) := by
  obtain ⟨F, hF, hn, hge⟩ := h
  exact (markIntSSS_c hF hn h0 h1).mono fun e w' hm => hm.inn hn hge
theorem cntSSS_bd {m : List (List (List Int))} (h : m.length ≤ 1048576) (hr : ∀ t, t ∈ m → t.length ≤ 1048576 ∧ ∀ r, r ∈ t → r.length ≤ 1048576) : cntSSS m ≤ 1152921504606846976 := by
  have key : ∀ m : List (List (List Int)), (∀ t, t ∈ m → t.length ≤ 1048576 ∧ ∀ r, r ∈ t → r.length ≤ 1048576) → cntSSS m ≤ (m.length : Int) * 1099511627776 := by
    intro m
    induction m with
    | nil => intro _; simp [cntSSS]
    | cons x m ih =>
      intro hm
      have h1 := ih fun y hy => hm y (by simp [hy])
      have h2 := hm x (by simp)
      have e1 := cntSS_bd (p := 1048576) (r := 1048576) h2.1 h2.2
      simp only [cntSSS, List.length_cons]
      omega
  have := key m hr
  omega
theorem heldIntSSS_same {w : World} {v : Value} {m : List (List (List Int))} {k0 : Int} (h : Tabs w v (markSSS m k0)) (h0 : 0 ≤ k0) (h1 : k0 + cntSSS m ≤ 4611686018427387904) :
    Calls Try.prog 37 #[v, .int .i64 k0] w fun e w' => e = .returned (.int .i64 (k0 + cntSSS m)) ∧ w = w' := by
  have := heldIntSSS_c h h0 (by rw [cntSSS_mark]; exact h1)
  rw [heldSSS_mark _ _ h0] at this
  exact this
end Go.Proofs.Ytdohepngandajaa
