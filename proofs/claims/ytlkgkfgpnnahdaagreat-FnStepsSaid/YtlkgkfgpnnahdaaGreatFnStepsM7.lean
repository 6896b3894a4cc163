/-
  Texts of this claim joined: laws for its walks, contracts of the functions that the law reaches.
-/
import Derived.Test.YtlkgkfgpnnahdaaGreatRows
import Derived.Test.YtlkgkfgpnnahdaaGreatFnStepsM1
import Derived.Test.YtlkgkfgpnnahdaaGreatFnStepsM2
import Derived.IntWalk
import Derived.Laws.IdiomStrings
import Derived.Test.YtlkgkfgpnnahdaaGreatFnStepsM3
import Derived.Test.YtlkgkfgpnnahdaaGreatFnStepsM5
import Derived.Test.YtlkgkfgpnnahdaaGreatFnStepsM6
import Derived.Test.YtlkgkfgpnnahdaaGreatFnStepsM4
import Derived.Deep.RegionHeld3
section
/-
  Words of letters, both sides.
-/
namespace Go.Proofs.YtlkgkfgpnnahdaaGreat
open Go.RowKit Go.Deep Go.Sd

def letB (k : Int) : List UInt8 → Bool
  | [] => true
  | c :: l => if 97 ≤ c.toNat ∧ (c.toNat : Int) - 97 < k then letB k l else false
def wordM (k : Int) (s : ByteArray) : Bool := decide (1 ≤ k ∧ k ≤ 3) && (decide (s.size ≤ 16) && letB k s.data.toList)
theorem str_len (s : ByteArray) : s.data.toList.length = s.size := by show s.data.toList.length = s.data.size; exact Array.length_toList
theorem str_drop (s : ByteArray) (k : Nat) (h : k < s.size) : s.data.toList.drop k = s[k] :: s.data.toList.drop (k + 1) := by
  have h1 : k < s.data.toList.length := by rw [str_len]; exact h
  rw [List.drop_eq_getElem_cons h1]
  rfl
theorem str_end (s : ByteArray) (k : Nat) (h : ¬ k < s.size) : s.data.toList.drop k = [] := List.drop_eq_nil_of_le (by rw [str_len]; omega)
/-- The letters of a text. -/
def lets (l : List UInt8) : List Int := l.map fun c => (c.toNat : Int) - 97
theorem byte_lt (c : UInt8) : c.toNat < 256 := c.toNat_lt

end Go.Proofs.YtlkgkfgpnnahdaaGreat
end

section
/-
  Texts parted at a byte (the reference's).
-/
namespace Go.Proofs.YtlkgkfgpnnahdaaGreat
open Go.RowKit Go.Deep Go.Sd
set_option linter.unusedSimpArgs false
theorem slVal_kept {α : Type} {f : α → Value} (hf : ∀ x, (f x).oneCell' = true) : Kept (OValR f) := ⟨fun _ _ _ _ _ h _ => h, fun _ _ _ _ h b hb => by rw [h.2] at hb; simp at hb, fun _ _ _ _ h => by rw [h.1]; exact hf _⟩
theorem infoTx : (Tryz.prog.info? 9).map (fun i => (i.zero, i.size, i.bytes)) = some (some (.string ⟨#[]⟩), 1, 16) := by kernel_rfl
abbrev OTxt : OwnRel (List ByteArray) := OwnOf 9 (OValR Value.string)
theorem OTxt.kept : Kept OTxt := OwnOf.kept (slVal_kept fun _ => rfl)
abbrev TxtR : World → Value → List ByteArray → Prop := SlOf (ValR Value.string)
theorem New.txt {lo : Nat} {w : World} {v : Value} {xs : List ByteArray} (h : New OTxt lo w v xs) : TxtR w v xs := by obtain ⟨F, hF, _⟩ := h; exact OwnOf.reads (fun _ _ _ _ h => h.1) hF
theorem TxtR.frame : Framed TxtR := SlOf.frame (fun _ _ _ _ h _ => h)
def splitL (s : ByteArray) (c : Nat) : Nat → Nat → Nat → List ByteArray
  | 0, _, _ => []
  | g + 1, f, i => if h : i < s.size then (if s[i].toNat = c then s.extract f i :: splitL s c g (i + 1) (i + 1) else splitL s c g f (i + 1)) else s.extract f i :: splitL s c g (i + 1) (i + 1)
def splitB (s : ByteArray) (c : Nat) : List ByteArray := splitL s c (s.size + 1) 0 0
set_option maxHeartbeats 1000000 in
set_option maxRecDepth 100000 in
theorem SplitByte_c {w : World} {s : ByteArray} {c : Nat} (hs : s.size ≤ 1000) (hc : c < 256) :
    Calls Tryz.prog 101 #[.string s, .int .u8 c] w (Makes OTxt w (splitB s c)) := by
  have H0 := Lib.hid (show ([] : List ByteArray) ++ splitL s c (s.size + 1) 0 0 = splitB s c from rfl)
  generalize splitB s c = R at H0 ⊢
  have HN0 := Lib.hid (New.empty (e := 9) (R := OValR Value.string) w (Nat.le_refl w.heap.size))
  have HB0 := Lib.hid ((Below.refl w.heap.size w).alloc (Nat.le_refl _) (.cells #[] 9))
  go_enter Tryz.func101, Tryz.ntmps101
  go_wp2
  go_loopg [5, 6, 7] (s.size + 1) (fun g v fv iv wr => ∃ (f i : Nat) (L : List ByteArray), fv = .int .i64 f ∧ iv = .int .i64 i ∧ i + g = s.size + 1 ∧ f ≤ i ∧ L.length ≤ i ∧ Hid (L ++ splitL s c g f i = R) ∧ Hid (New OTxt w.heap.size wr v L) ∧ Hid (Below w.heap.size w wr))
  case atStart => exact ⟨0, 0, [], rfl, rfl, by omega, by omega, by simp, H0, HN0, HB0⟩
  case round =>
    clear H0 HN0 HB0
    obtain ⟨f, i, L, rfl, rfl, hi, hf, hL, HR, Hn, Hb⟩ := hrel
    obtain ⟨wk, rfl⟩ : ∃ x, x = wr := ⟨_, rfl⟩
    have hle := Hb.out.size
    obtain ⟨oa, oc, rfl, -⟩ := (New.txt Hn.out).shape
    by_cases hg : 0 < gk
    · obtain ⟨g, hgk⟩ : ∃ g, gk = g + 1 := ⟨gk - 1, by omega⟩
      subst hgk
      have hii : (i : Int) ≤ (s.size : Int) := by omega
      by_cases his : i < s.size
      · have hne : ((i : Int) == (s.size : Int)) = false := by simp; omega
        have hsi : (i : Int) < (s.size : Int) := by omega
        by_cases hcc : s[i].toNat = c
        · have t1 : ((s[i].toNat : Int) == (c : Int)) = true := by simp [hcc]
          have HR2 := Lib.hid (show (L ++ [s.extract f i]) ++ splitL s c g (i + 1) (i + 1) = R from by have h := HR.out; rw [splitL, dif_pos his, if_pos hcc] at h; rw [List.append_assoc]; exact h)
          clear HR hcc
          go_wp2_with (at_builtin; refine wpl_push (w0 := wk) (lo := w.heap.size) (y := s.extract f i) (slVal_kept fun _ => rfl) rfl (.tmp 26) (.tmp 31) 86 rfl 9 (.string ⟨#[]⟩) 16 Tryz.underlying86 infoTx rfl Hn.out hle ((Below.refl _ _).alloc (Nat.le_refl _) _) ⟨[], ⟨rfl, rfl⟩, by simp [Fresh]⟩ (bb := wk.heap.size) (c := 1) (by simp) rfl rfl (by omega) (by omega) ?_; intro v3 w3 hn3 _ _ hb3; have Hn3 := Lib.hid hn3; have Hb3 := Lib.hid hb3; clear hn3 hb3)
          go_roundg g
          case measure => omega
          case rel => exact ⟨i + 1, i + 1, _, by go_num, by go_num, by omega, by omega, by simp; omega, HR2, Hn3, Lib.hid (Hb.out.trans Hb3.out)⟩
        · have t1 : ((s[i].toNat : Int) == (c : Int)) = false := by simp; omega
          have HR2 := Lib.hid (show L ++ splitL s c g f (i + 1) = R from by have h := HR.out; rw [splitL, dif_pos his, if_neg hcc] at h; exact h)
          clear HR hcc
          go_wp2
          go_roundg g
          case measure => omega
          case rel => exact ⟨f, i + 1, L, rfl, by go_num, by omega, by omega, by omega, HR2, Hn, Hb⟩
      · have hie : i = s.size := by omega
        have heq : ((i : Int) == (s.size : Int)) = true := by simp [hie]
        have HR2 := Lib.hid (show (L ++ [s.extract f i]) ++ splitL s c g (i + 1) (i + 1) = R from by have h := HR.out; rw [splitL, dif_neg his] at h; rw [List.append_assoc]; exact h)
        clear HR hie
        go_wp2_with (at_builtin; refine wpl_push (w0 := wk) (lo := w.heap.size) (y := s.extract f i) (slVal_kept fun _ => rfl) rfl (.tmp 26) (.tmp 31) 86 rfl 9 (.string ⟨#[]⟩) 16 Tryz.underlying86 infoTx rfl Hn.out hle ((Below.refl _ _).alloc (Nat.le_refl _) _) ⟨[], ⟨rfl, rfl⟩, by simp [Fresh]⟩ (bb := wk.heap.size) (c := 1) (by simp) rfl rfl (by omega) (by omega) ?_; intro v3 w3 hn3 _ _ hb3; have Hn3 := Lib.hid hn3; have Hb3 := Lib.hid hb3; clear hn3 hb3)
        go_roundg g
        case measure => omega
        case rel => exact ⟨i + 1, i + 1, _, by go_num, by go_num, by omega, by omega, by simp; omega, HR2, Hn3, Lib.hid (Hb.out.trans Hb3.out)⟩
    · obtain rfl : gk = 0 := by omega
      have hii : ¬ ((i : Int) ≤ (s.size : Int)) := by omega
      have HF := Lib.hid (show L = R from by have h := HR.out; rw [splitL, List.append_nil] at h; exact h)
      clear HR
      go_wp2
      go_ret
      exact ⟨_, rfl, by rw [← HF.out]; exact Hn.out, Hb.out⟩
end Go.Proofs.YtlkgkfgpnnahdaaGreat
end

section
/-
  Numbers written in decimal digits (the reference's).
-/
namespace Go.Proofs.YtlkgkfgpnnahdaaGreat
open Go.RowKit Go.Deep Go.Sd
set_option linter.unusedSimpArgs false
theorem bs_size (a b : ByteArray) : (a ++ b).size = a.size + b.size := by simp
def fmtL : Nat → Nat → ByteArray → ByteArray
  | 0, _, u => u
  | g + 1, m, u => if m = 0 then u else fmtL g (m / 10) ((⟨#[48 + UInt8.ofNat (m % 10)]⟩ : ByteArray) ++ u)
def fmtN (m : Nat) : ByteArray := if m = 0 then ⟨#[48]⟩ else fmtL 18 m ⟨#[]⟩
set_option maxHeartbeats 2000000 in
set_option maxRecDepth 100000 in
theorem FormatInt_c {w : World} {m : Nat} (hm : m < 1000000000000000000) :
    Calls Tryz.prog 116 #[.int .i64 m] w fun e w' => e = .returned (.string (fmtN m)) ∧ Below w.heap.size w w' := by
  by_cases h0 : m = 0
  · subst h0
    have HF := Lib.hid (show fmtN 0 = ⟨#[48]⟩ from rfl)
    go_enter Tryz.func116, Tryz.ntmps116
    go_wp2
    go_ret
    exact ⟨by rw [HF.out]; rfl, Below.refl _ _⟩
  have HF := Lib.hid (show fmtN m = fmtL 18 m ⟨#[]⟩ from by unfold fmtN; rw [if_neg h0])
  generalize fmtN m = T at HF ⊢
  have e0 : ((m : Int) == 0) = false := by simp; omega
  have e1 : ¬ ((m : Int) < 0) := by omega
  have d1 : decide ((m : Int) < 0) = false := decide_eq_false (by omega)
  have HP0 := Lib.hid (show m < 10 ^ 18 from hm)
  have HZ0 := Lib.hid (show (⟨#[]⟩ : ByteArray).size + 18 = 18 from rfl)
  clear h0 hm
  go_enter Tryz.func116, Tryz.ntmps116
  go_wp2
  go_loopg [0, 4, 5] 18 (fun g nv tv rv wr => ∃ (m : Nat) (u : ByteArray), nv = .int .i64 m ∧ tv = .string u ∧ u.size ≤ 18 ∧ Hid (u.size + g = 18) ∧ Hid (m < 10 ^ g) ∧ Hid (T = fmtL g m u) ∧ Hid (Below w.heap.size w wr))
  case atStart => exact ⟨m, ⟨#[]⟩, rfl, rfl, by decide, HZ0, HP0, HF, Lib.hid (Below.refl _ _)⟩
  case round =>
    clear HF HP0 HZ0 e0 e1 d1
    obtain ⟨m, u, rfl, rfl, hu, HZ, HP, HT, HB⟩ := hrel
    obtain ⟨wk, rfl⟩ : ∃ x, x = wr := ⟨_, rfl⟩
    by_cases hz : m = 0
    · have t0 : ((m : Int) != 0) = false := by simp [hz]
      have HF := Lib.hid (show T = u from by rw [HT.out]; cases gk with | zero => rfl | succ g => (unfold fmtL; rw [if_pos hz]))
      clear HT HP HZ hz
      go_wp2
      go_ret
      exact ⟨by rw [HF.out]; rfl, HB.out⟩
    · cases gk with
      | zero => exact absurd HP.out (by simp; omega)
      | succ g =>
        have t0 : ((m : Int) != 0) = true := by simp [hz]
        have HT2 := Lib.hid (show T = fmtL g (m / 10) ((⟨#[48 + UInt8.ofNat (m % 10)]⟩ : ByteArray) ++ u) from by rw [HT.out]; exact if_neg hz)
        have hr : m % 10 < 10 := Nat.mod_lt _ (by omega)
        have hq : m / 10 ≤ m := Nat.div_le_self _ _
        have HP2 := Lib.hid (show m / 10 < 10 ^ g from by have h := HP.out; rw [Nat.pow_succ] at h; omega)
        have hm1 : (m : Int) % 10 = ((m % 10 : Nat) : Int) := by omega
        have hm2 : (m : Int) / 10 = ((m / 10 : Nat) : Int) := by omega
        have hm0' : (0 : Int) ≤ (m : Int) := by omega
        have hmb : m < 1000000000000000000 := by
          have h := HP.out
          have hz := HZ.out
          have h2 : 10 ^ (g + 1) ≤ 10 ^ 18 := Nat.pow_le_pow_right (by decide) (by omega)
          omega
        generalize m % 10 = r at HT2 hr hm1
        generalize m / 10 = q at HT2 hq HP2 hm2
        have hu8 : IntKind.u8.wrap (48 + (r : Int)) = 48 + (r : Int) := IntWalk.u8_in _ (by omega)
        have hcv : (convert 22 9 (.slice (some ⟨wk.heap.size, 0, none⟩) 1 1)).run Tryz.prog (wk.alloc (.cells #[.int .u8 (48 + (r : Int))] 5)) = .ok (.string ⟨#[48 + UInt8.ofNat r]⟩) (wk.alloc (.cells #[.int .u8 (48 + (r : Int))] 5)) := by
          have h := run_convert_bytes_back (P := Tryz.prog) (wk.alloc (.cells #[.int .u8 (48 + (r : Int))] 5)) 22 9 5 ⟨wk.heap.size, 0, none⟩ 1 [48 + UInt8.ofNat r] Tryz.underlying22 Tryz.underlying5 Tryz.underlying9 (fun j hj => by
            have hj0 : j = 0 := by simpa using hj
            subst hj0
            have e4 : (48 + UInt8.ofNat r).toNat = 48 + r := by simp; omega
            have e2 : (⟨wk.heap.size, 0, none⟩ : Addr).add 0 = ⟨wk.heap.size, 0, none⟩ := by unfold Addr.add; split <;> simp_all
            rw [e2, World.cell?_alloc_at _ _ _ 0 rfl]
            simp only [List.getElem_cons_zero, e4]
            rfl)
          exact h
        have hs1 : (⟨#[48 + UInt8.ofNat r]⟩ : ByteArray).size = 1 := rfl
        have hsz : ¬ (9223372036854775807 < 1 + u.size) := by omega
        have hwq : IntKind.i64.wrap (q : Int) = (q : Int) := IntWalk.i64_in _ (by omega)
        have hwr : IntKind.i64.wrap (r : Int) = (r : Int) := IntWalk.i64_in _ (by omega)
        have hr0 : ¬ ((r : Int) < 0) := by omega
        have dr : decide ((r : Int) < 0) = false := decide_eq_false (by omega)
        have hw48 : IntKind.i64.wrap (48 + (r : Int)) = 48 + (r : Int) := IntWalk.i64_in _ (by omega)
        have hsz2 := Lib.hid (show ((⟨#[48 + UInt8.ofNat r]⟩ : ByteArray) ++ u).size + g = 18 from by have := HZ.out; rw [bs_size, hs1]; omega)
        have hz1 := HB.out.size
        have HB2 := Lib.hid (HB.out.alloc hz1 (.cells #[.int .u8 (48 + (r : Int))] 5))
        obtain ⟨u2, hu2⟩ : ∃ x, x = (⟨#[48 + UInt8.ofNat r]⟩ : ByteArray) ++ u := ⟨_, rfl⟩
        rw [← hu2] at HT2 hsz2
        have hu2s := hu2.symm
        have hu2z : u2.size ≤ 18 := by have := hsz2.out; omega
        clear HT HP HB hu2 hmb hz HZ
        go_wp2
        go_roundg g
        case measure => omega
        case rel => exact ⟨q, u2, rfl, rfl, hu2z, hsz2, HP2, HT2, HB2⟩
end Go.Proofs.YtlkgkfgpnnahdaaGreat
end

section
/-
  Numbers of one digit, and matrices out of texts of such numbers (the reference's).
-/
namespace Go.Proofs.YtlkgkfgpnnahdaaGreat
open Go.RowKit Go.Deep Go.Sd
set_option linter.unusedSimpArgs false
theorem fmtN_dig : ∀ d, d ≤ 9 → fmtN d = ⟨#[UInt8.ofNat (48 + d)]⟩ := by decide
theorem dig_size {d : Nat} (h : d ≤ 9) : (fmtN d).size = 1 := by rw [fmtN_dig d h]; rfl
theorem dig_at {d : Nat} (h : d ≤ 9) (h0 : 0 < (fmtN d).size) : (fmtN d)[0].toNat = 48 + d := by
  have key : ∀ (s : ByteArray) (h0 : 0 < s.size), s = ⟨#[UInt8.ofNat (48 + d)]⟩ → s[0].toNat = 48 + d := by
    rintro s h0 rfl
    show (UInt8.ofNat (48 + d)).toNat = 48 + d
    simp
    omega
  exact key _ h0 (fmtN_dig d h)
set_option maxHeartbeats 2000000 in
set_option maxRecDepth 100000 in
theorem l1Read_one {w : World} {d : Nat} {s : ByteArray} (h9 : d ≤ 9) (hz : s.size = 1) (hb : ∀ h : 0 < s.size, s[0].toNat = 48 + d) (hf : fmtN d = s) :
    Calls Tryz.prog 115 #[.string s, .int .i64 12] w fun e w' => e = .returned (.tuple #[.int .i64 d, .bool true]) ∧ Below w.heap.size w w' := by
  have HFm := Lib.hid (fun w1 => FormatInt_c (w := w1) (m := d) (by omega))
  rw [hf] at HFm
  have h0 : 0 < s.size := by omega
  have hb1 := hb h0
  have hb45 : ((48 + (d : Int)) == 45) = false := by simp; omega
  have dlt : decide (48 + (d : Int) < 48) = false := decide_eq_false (by omega)
  have dgt : decide ((57 : Int) < 48 + (d : Int)) = false := decide_eq_false (by omega)
  clear hf hb
  go_enter Tryz.func115, Tryz.ntmps115
  go_wp2
  go_loopg [8, 9] 1 (fun g nv iv wr => ((g = 1 ∧ nv = .int .i64 0 ∧ iv = .int .i64 0) ∨ (g = 0 ∧ nv = .int .i64 d ∧ iv = .int .i64 1)) ∧ wr = w)
  case atStart => exact ⟨Or.inl ⟨rfl, rfl, rfl⟩, rfl⟩
  case round =>
    obtain ⟨h | h, rfl⟩ := hrel
    · obtain ⟨rfl, rfl, rfl⟩ := h
      go_wp2
      go_roundg 0
      case measure => omega
      case rel => exact ⟨Or.inr ⟨rfl, by go_num, by go_num⟩, rfl⟩
    · obtain ⟨rfl, rfl, rfl⟩ := h
      go_wp2_with fail
      (with_reducible refine (HFm.out _).mono ?_)
      rintro e w2 ⟨rfl, hb2⟩
      have HB := Lib.hid hb2
      clear hb2 HFm
      go_wp2
      go_ret2
      exact ⟨rfl, HB.out⟩
theorem ParseInt_dig {w : World} {d : Nat} (h9 : d ≤ 9) :
    Calls Tryz.prog 102 #[.string (fmtN d)] w fun e w' => e = .returned (.tuple #[.int .i64 d, .bool true]) ∧ Below w.heap.size w w' := by
  have H := Lib.hid (l1Read_one (w := w) h9 (dig_size h9) (dig_at h9) rfl)
  generalize fmtN d = s at *
  go_enter Tryz.func102, Tryz.ntmps102
  go_wp2_with fail
  (with_reducible refine H.out.mono ?_)
  rintro e w2 ⟨rfl, hb2⟩
  have HB := Lib.hid hb2
  clear hb2 H
  go_wp2
  go_ret2
  exact ⟨rfl, HB.out⟩
theorem map_at' {α β : Type} {f : α → β} {xs : List α} {k : Nat} {x : α} (h : xs[k]? = some x) : (xs.map f)[k]? = some (f x) := by rw [List.getElem?_map, h]; rfl
def intsN (l : List Nat) : List Int := l.map Int.ofNat
def tabN' (m : List (List Nat)) : List (List Int) := m.map intsN
/-- The text is that of a matrix of numbers of one digit. -/
def Texts (t : ByteArray) (m : List (List Nat)) : Prop := t.size ≤ 100 ∧ (splitB t 47).map (fun r => splitB r 44) = m.map (fun l => l.map fmtN) ∧ (∀ r, r ∈ splitB t 47 → r.size ≤ 100) ∧ (∀ l, l ∈ m → l.length ≤ 9 ∧ ∀ x, x ∈ l → x ≤ 9) ∧ m.length ≤ 9 ∧ isMat (tabN' m) = true
abbrev ResS (v : Value) (xs : List ByteArray) : Res := Res.of OTxt OTxt.kept.held v xs
abbrev ResN (v : Value) (xs : List Int) : Res := Res.of (OInts 3) (OInts.kept _).held v xs
abbrev ResM (v : Value) (M : List (List Int)) : Res := Res.of (OTab 3 46) (OTab.kept _ _).held v M
theorem TxtR.at {w : World} {v : Value} {xs : List ByteArray} (h : TxtR w v xs) {k : Nat} {x : ByteArray} (hx : xs[k]? = some x) : ∃ b o c, v = .slice (some ⟨b, o, none⟩) xs.length c ∧ w.cell? ⟨b, o + k, none⟩ = some (.string x) := by
  obtain ⟨a, c, rfl, -, -, hc⟩ := h.shape
  have hi := (List.getElem?_eq_some_iff.1 hx).1
  obtain ⟨b, o, rfl, hb, hx'⟩ := hc (by omega)
  obtain ⟨u, hu, hru⟩ := hx' k x hx
  exact ⟨b, o, c, rfl, by rw [hu, show u = .string x from hru]⟩
set_option maxHeartbeats 800000 in
set_option maxRecDepth 100000 in
theorem ParseMatrix_c {w : World} {t : ByteArray} {m : List (List Nat)} (h : Texts t m) :
    Calls Tryz.prog 71 #[.string t] w (Makes2 (OTab 3 46) w (tabN' m) true) := by
  obtain ⟨ht, hsp, hrs, hxs, hml, him⟩ := h
  have HS := Lib.hid (fun w1 => (show Calls Tryz.prog 101 #[.string t, .int .u8 47] w1 (Makes OTxt w1 (splitB t 47)) from SplitByte_c (w := w1) (s := t) (c := 47) (by omega) (by omega)))
  have HL := Lib.hid (show (splitB t 47).length = m.length from by have h := congrArg List.length hsp; simpa using h)
  have HAt := Lib.hid (fun (k : Nat) (r : ByteArray) (h : (splitB t 47)[k]? = some r) => (show ∃ l, m[k]? = some l ∧ splitB r 44 = l.map fmtN ∧ r.size ≤ 100 ∧ l.length ≤ 9 ∧ ∀ x, x ∈ l → x ≤ 9 from by
    have h1 : ((splitB t 47).map fun r => splitB r 44)[k]? = (m.map fun l => l.map fmtN)[k]? := by rw [hsp]
    rw [map_at' h, List.getElem?_map] at h1
    obtain ⟨l, hl, he⟩ := Option.map_eq_some_iff.1 h1.symm
    have hm := List.mem_of_getElem? hl
    exact ⟨l, hl, he.symm, hrs r (List.mem_of_getElem? h), (hxs l hm).1, (hxs l hm).2⟩))
  have HI := Lib.hid (fun w1 v (h : Tab w1 v (tabN' m)) => (show Calls Tryz.prog 37 #[v] w1 (fun e w' => e = .returned (.bool true) ∧ w1 = w') from by have h2 := spec_IsMatrix_c h; rw [him] at h2; exact h2))
  have HTl := Lib.hid (show (tabN' m).length = m.length from by simp [tabN'])
  have HTa := Lib.hid (fun k l (h : m[k]? = some l) => (show (tabN' m)[k]? = some (intsN l) from map_at' h))
  generalize splitB t 47 = rows at *
  generalize tabN' m = T at *
  have HB0 := Lib.hid ((Below.refl w.heap.size w).alloc (Nat.le_refl _) (.cells #[] 46))
  have HS0 := Lib.hid (Sep.one (OTab.kept 3 46).held (New.empty (e := 46) (R := OInts 3) w (Nat.le_refl w.heap.size)))
  obtain ⟨wz, ez⟩ : ∃ x, x = w.alloc (.cells #[] 46) := ⟨_, rfl⟩
  rw [← ez] at HS0 HB0
  have ezs := ez.symm
  clear hsp hrs hxs him ez
  go_enter Tryz.func71, Tryz.ntmps71
  go_wp2_with fail
  (with_reducible refine (HS.out _).mono ?_)
  rintro e w1 ⟨vr, rfl, hnr, hb1⟩
  obtain ⟨ra, rc, rfl, -⟩ := (New.txt hnr).shape
  have hzz := HB0.out.size
  have HS1 := Lib.hid (HS0.out.new OTxt.kept.held hb1 hzz hnr).swap
  have HB1 := Lib.hid (HB0.out.trans (hb1.mono hzz))
  obtain ⟨N, hN⟩ : ∃ N, N = m.length := ⟨_, rfl⟩
  have Hmn := Lib.hid hN
  rw [HL.out, ← hN] at HS1 ⊢
  rw [← hN] at HTl hml
  clear hnr hb1 ezs HS0 HB0 hN HS hzz
  go_wp2
  go_loopg [4, 6] N (fun g v iv wr => ∃ (k : Nat), iv = .int .i64 k ∧ k + g = N ∧ Hid (Sep w.heap.size wr [ResM v (T.take k), ResS (.slice ra N rc) rows]) ∧ Hid (Below w.heap.size w wr))
  case atStart => exact ⟨0, rfl, by omega, HS1, HB1⟩
  case round =>
    clear HS1 HB1
    obtain ⟨k, rfl, hk, HSk, Hb⟩ := hrel
    obtain ⟨wk, rfl⟩ : ∃ x, x = wr := ⟨_, rfl⟩
    have hle := Hb.out.size
    obtain ⟨oa, oc, rfl, -⟩ := (New.tab HSk.out.headNew).shape
    have hkl : (T.take k).length = k := by rw [List.length_take]; have := HTl.out; omega
    rw [hkl] at HSk ⊢
    have Hkl := Lib.hid hkl
    clear hkl
    by_cases hkN : k < N
    · have hki : (k : Int) < (N : Int) := by omega
      obtain ⟨g, rfl⟩ : ∃ x, gk = x + 1 := ⟨gk - 1, by omega⟩
      obtain ⟨r, hr, -⟩ := at_lt (xs := rows) (k := k) (by have := HL.out; have := Hmn.out; omega)
      obtain ⟨l, hl, hsl, hrz, hl9, hlx⟩ := HAt.out k r hr
      obtain ⟨b, o, c, hv, g0⟩ := (New.txt HSk.out.swap.headNew).at hr
      simp only [Value.slice.injEq] at hv
      obtain ⟨rfl, -, rfl⟩ := hv
      have HTk := Lib.hid (take_snoc' (HTa.out k l hl))
      have HSr := Lib.hid (fun w2 => (show Calls Tryz.prog 101 #[.string r, .int .u8 44] w2 (Makes OTxt w2 (l.map fmtN)) from by rw [← hsl]; exact SplitByte_c (w := w2) (s := r) (c := 44) (by omega) (by omega)))
      have Hlx := Lib.hid hlx
      have HBo := Lib.hid (show Below wk.heap.size wk (wk.alloc (.cells #[] 3)) from (Below.refl _ _).alloc (Nat.le_refl _) _)
      have HSo := Lib.hid (HSk.out.new (OInts.kept 3).held HBo.out hle (New.empty (e := 3) (R := OIntR) wk (Nat.le_refl wk.heap.size)))
      obtain ⟨wz, ez⟩ : ∃ x, x = wk.alloc (.cells #[] 3) := ⟨_, rfl⟩
      rw [← ez] at HSo HBo
      have g0z := (HBo.out.cell (p := ⟨b, o + k, none⟩) (World.block_lt_of_cell? _ _ g0)).trans g0
      have ezs := ez.symm
      have hzw : w.heap.size ≤ wz.heap.size := Nat.le_trans hle HBo.out.size
      have HBz := Lib.hid (Hb.out.trans (HBo.out.mono hle))
      clear hr hl hsl hlx ez g0 HSk Hb HBo
      go_wp2_with fail
      (with_reducible refine (HSr.out _).mono ?_)
      rintro e w2 ⟨vp, rfl, hnp, hb2⟩
      obtain ⟨pa, pc, rfl, -⟩ := (New.txt hnp).shape
      have HS2 := Lib.hid (HSo.out.new OTxt.kept.held hb2 hzw hnp).swap
      have HB2 := Lib.hid (HBz.out.trans (hb2.mono hzw))
      obtain ⟨P, hP⟩ : ∃ P, P = l.length := ⟨_, rfl⟩
      have HP := Lib.hid hP
      rw [List.length_map, ← hP] at HS2 ⊢
      rw [← hP] at hl9
      clear hnp hb2 ezs HSo hP HSr g0z HBz
      go_wp2
      go_loopg [7, 9] P (fun g2 v jv wr2 => ∃ (j : Nat), jv = .int .i64 j ∧ j + g2 = P ∧ Hid (Sep w.heap.size wr2 [ResN v ((intsN l).take j), ResS (.slice pa P pc) (l.map fmtN), ResM (.slice oa k oc) (T.take k), ResS (.slice (some ⟨b, o, none⟩) N rc) rows]) ∧ Hid (Below w.heap.size w wr2))
      case atStart => exact ⟨0, rfl, by omega, HS2, HB2⟩
      case round =>
        clear HS2 HB2
        obtain ⟨j, rfl, hj, HSj, HB⟩ := hrel
        obtain ⟨wi, rfl⟩ : ∃ x, x = wr := ⟨_, rfl⟩
        have hzi := HB.out.size
        obtain ⟨qa, qc, rfl, -⟩ := (New.ints HSj.out.headNew).shape
        have hil : (intsN l).length = P := by rw [HP.out]; simp [intsN]
        have hjl : ((intsN l).take j).length = j := by rw [List.length_take]; omega
        rw [hjl] at HSj ⊢
        have Hjl := Lib.hid hjl
        have Hil := Lib.hid hil
        clear hil hjl
        by_cases hjP : j < P
        · have hji : (j : Int) < (P : Int) := by omega
          obtain ⟨g2, rfl⟩ : ∃ x, gk = x + 1 := ⟨gk - 1, by omega⟩
          obtain ⟨x, hx, -⟩ := at_lt (xs := l) (k := j) (by have := HP.out; omega)
          have hx9 := Hlx.out x (List.mem_of_getElem? hx)
          obtain ⟨b2, o2, c2, hv, g0⟩ := (New.txt HSj.out.swap.headNew).at (map_at' (f := fmtN) hx)
          simp only [Value.slice.injEq] at hv
          obtain ⟨rfl, -, rfl⟩ := hv
          have HTj := Lib.hid (take_snoc' (show (intsN l)[j]? = some (x : Int) from map_at' hx))
          have HD := Lib.hid (ParseInt_dig (w := wi) hx9)
          generalize fmtN x = s at g0 HD
          clear hx
          go_wp2_with fail
          (with_reducible refine HD.out.mono ?_)
          rintro e w3 ⟨rfl, hb3⟩
          have hs3 := HSj.out.below hb3 (Nat.le_refl _)
          have HB3 := Lib.hid (HB.out.trans (hb3.mono hzi))
          have hz3 := HB3.out.size
          obtain ⟨v4, w4, hr4, hs4, hb4⟩ := hs3.push (P := Tryz.prog) OIntR.kept 46 46 (.int .i64 0) 8 Tryz.underlying46 infoI rfl hz3 (w1 := w3.alloc (.cells #[.int .i64 x] 3)) ((Below.refl _ _).alloc (Nat.le_refl _) _) (q := .int .i64 x) (x := (x : Int)) ⟨[], ⟨rfl, rfl⟩, by simp [Fresh]⟩ (bb := w3.heap.size) (c := 1) (World.cell?_alloc_at _ _ _ 0 rfl) (by have := Hjl.out; omega) (by have := Hjl.out; omega)
          have Hr4 := Lib.hid hr4
          have HS4 := Lib.hid hs4
          have HB4 := Lib.hid (HB3.out.trans hb4)
          clear hb3 HD hs3 hr4 hs4 hb4 g0 HSj HB
          go_wp2_with (at_builtin; refine wpl_append_run rfl (.tmp 44) (.tmp 46) 46 rfl rfl rfl Hr4.out ?_)
          go_roundg g2
          case measure => omega
          case rel => exact ⟨j + 1, by go_num, by omega, Lib.hid (by rw [← HTj.out]; exact HS4.out), HB4⟩
        · have hji : ¬ ((j : Int) < (P : Int)) := by omega
          have hs5 := HSj.out
          rw [List.take_of_length_le (by have := Hil.out; omega)] at hs5
          obtain ⟨v4, w4, hr4, hs4, hb4⟩ := (hs5.front [_, _]).absorb (P := Tryz.prog) (OInts.kept 3) 24 24 (.slice none 0 0) 24 Tryz.underlying24 infoR rfl hzi (w1 := wi.alloc (.cells #[.slice qa j qc] 46)) ((Below.refl _ _).alloc (Nat.le_refl _) _) (bb := wi.heap.size) (c := 1) (World.cell?_alloc_at _ _ _ 0 rfl) (by have := Hkl.out; omega) (by have := Hkl.out; omega)
          have Hr4 := Lib.hid hr4
          have HS4 := Lib.hid (show Sep w.heap.size w4 [ResM v4 (T.take (k + 1)), ResS (.slice (some ⟨b, o, none⟩) N rc) rows] from by rw [← HTk.out]; exact hs4.swap.tail)
          have HB4 := Lib.hid (HB.out.trans hb4)
          clear hs5 hr4 hs4 hb4 HSj HB
          go_wp2_with (at_builtin; refine wpl_append_run rfl (.tmp 48) (.tmp 50) 24 rfl rfl rfl Hr4.out ?_)
          go_roundg g
          case measure => omega
          case rel => exact ⟨k + 1, by go_num, by omega, HS4, HB4⟩
    · have hki : ¬ ((k : Int) < (N : Int)) := by omega
      have hT := HSk.out.headNew
      rw [List.take_of_length_le (by have := HTl.out; omega)] at hT
      have HIm := Lib.hid (HI.out wk _ hT.tab)
      have HTn := Lib.hid hT
      clear hT HSk
      go_wp2_with fail
      (with_reducible refine HIm.out.mono ?_)
      rintro e w9 ⟨rfl, hw9⟩
      rw [← hw9]
      clear hw9 w9
      go_wp2
      go_ret2
      exact ⟨_, rfl, HTn.out, Hb.out⟩
end Go.Proofs.YtlkgkfgpnnahdaaGreat
end

section
/-
  Small matrices drawn.
-/
namespace Go.Sd
open Go.RowKit Go.Deep
/-- An entry of the first of some own things, a table: its row's cell, its own, and what a store leaves. -/
theorem Sep.tabSet {eI eR : TypeId} {hh : Held (OTab eI eR)} {lo : Nat} {w : World} {v : Value} {m : List (List Int)} {rs : List Res} (h : Sep lo w (Res.of (OTab eI eR) hh v m :: rs)) {i j : Nat} {r : List Int} {x : Int} (hr : m[i]? = some r) (hx : r[j]? = some x) :
    ∃ b c rb rc, v = .slice (some ⟨b, 0, none⟩) m.length c ∧ lo ≤ b ∧ b < w.heap.size ∧ w.cell? ⟨b, i, none⟩ = some (.slice (some ⟨rb, 0, none⟩) r.length rc) ∧ lo ≤ rb ∧ rb < w.heap.size ∧ w.cell? ⟨rb, j, none⟩ = some (.int .i64 x) ∧ w.frozen? ⟨rb, j, none⟩ = false ∧
      ∀ y, Sep lo (w.setCell ⟨rb, j, none⟩ (.int .i64 y)) (Res.of (OTab eI eR) hh v (m.set i (r.set j y)) :: rs) := by
  obtain ⟨F, ⟨G0, H, rfl, h1, h2⟩, hn, hge⟩ := h
  have hnd := List.nodup_append.1 hn
  have hF : OTab eI eR w v m G0 := h1
  have hlt := (OTab.kept eI eR).lt _ _ _ _ hF
  obtain ⟨b, c, u, G, hv, hc, hbF, hbG, hcell, _, hu, hGF, hGn, hst, _⟩ := OwnOf.focus (OInts.kept eI) hF hnd.1 hr
  obtain ⟨rb, rc, u2, G2, rfl, hrc, hrb, _, hcell2, hfr2, ⟨rfl, rfl⟩, _, _, _, hst2⟩ := OwnOf.focus OIntR.kept hu hGn hx
  refine ⟨b, c, rb, rc, hv, hge b (List.mem_append_left _ hbF), hlt b hbF, hcell, hge rb (List.mem_append_left _ (hGF rb hrb)), hlt rb (hGF rb hrb), hcell2, hfr2, fun y => ?_⟩
  obtain ⟨F', hF', _, _, e⟩ := hst2 w (.int .i64 y) y [] ⟨rfl, rfl⟩ (by simp) (fun _ _ _ => rfl)
  rw [e rfl] at hF'
  refine ⟨G0 ++ H, ⟨G0, H, rfl, hst _ _ hF' (fun q hq hqG => Below.heap_setCell _ _ _ _ (fun e => hqG (by have e2 : q = rb := e; exact e2 ▸ hrb))), h2.keep fun q hq => Below.heap_setCell _ _ _ _ fun e => ?_⟩, hn, hge⟩
  have e2 : q = rb := e
  exact hnd.2.2 rb (hGF rb hrb) q hq e2.symm
end Go.Sd
namespace Go.Proofs.YtlkgkfgpnnahdaaGreat
open Go.RowKit Go.Deep Go.Sd
set_option linter.unusedSimpArgs false
theorem Cur.perm2 {lo : Nat} {w : World} {cb : Nat} {K : Value} {n : Nat} {r s : Res} {rs : List Res} (h : Cur lo w cb K n (r :: s :: rs)) : Cur lo w cb K n (s :: r :: rs) := by
  obtain ⟨i, x, hi, hs⟩ := h
  exact ⟨i, x, hi, hs.swap23⟩
def l4Texts : List ByteArray := [⟨#[49, 44, 49, 47, 49, 44, 48]⟩, ⟨#[50]⟩, ⟨#[49, 44, 49, 47, 49, 44, 49]⟩, ⟨#[48, 44, 49, 47, 49, 44, 48]⟩, ⟨#[48, 44, 49, 44, 48, 47, 48, 44, 48, 44, 49, 47, 49, 44, 49, 44, 48]⟩, ⟨#[49, 44, 49, 44, 48, 47, 48, 44, 49, 44, 49, 47, 49, 44, 48, 44, 49]⟩, ⟨#[49, 44, 48, 47, 49, 44, 49]⟩, ⟨#[48, 44, 49, 47, 48, 44, 48]⟩, ⟨#[51]⟩, ⟨#[49, 44, 50, 47, 49, 44, 48]⟩, ⟨#[48]⟩, ⟨#[48, 44, 50, 47, 49, 44, 48]⟩]
def l4Mats : List (List (List Nat)) := [[[1, 1], [1, 0]], [[2]], [[1, 1], [1, 1]], [[0, 1], [1, 0]], [[0, 1, 0], [0, 0, 1], [1, 1, 0]], [[1, 1, 0], [0, 1, 1], [1, 0, 1]], [[1, 0], [1, 1]], [[0, 1], [0, 0]], [[3]], [[1, 2], [1, 0]], [[0]], [[0, 2], [1, 0]]]
instance (t : ByteArray) (m : List (List Nat)) : Decidable (Texts t m) := by unfold Texts; infer_instance
theorem l4Texts_ok : ∀ i, i < 12 → Texts (l4Texts.getD i ⟨#[]⟩) (l4Mats.getD i []) ∧ (l4Mats.getD i []).length ≤ 4 := by
  have h : ((List.range 12).all fun i => decide (Texts (l4Texts.getD i ⟨#[]⟩) (l4Mats.getD i []) ∧ (l4Mats.getD i []).length ≤ 4)) = true := by decide +kernel
  intro i hi
  exact of_decide_eq_true (List.all_eq_true.1 h i (List.mem_range.2 hi))
theorem l4Texts_mem {x : ByteArray} (h : x ∈ l4Texts) : ∃ m, Texts x m ∧ m.length ≤ 4 := by
  obtain ⟨i, hi⟩ := List.getElem?_of_mem h
  have h1 : i < 12 := (List.getElem?_eq_some_iff.1 hi).1
  have h2 := l4Texts_ok i h1
  rw [show l4Texts.getD i ⟨#[]⟩ = x from by simp [List.getD, hi]] at h2
  exact ⟨_, h2⟩
/-- What a drawn matrix is. -/
def SmallD (m : List (List Int)) : Prop := isMat m = true ∧ m.length ≤ 4 ∧ ∀ r, r ∈ m → ∀ x, x ∈ r → x ≤ 9
theorem tabN'_len (m : List (List Nat)) : (tabN' m).length = m.length := by simp [tabN']
def In02 (n : Nat) (m : List (List Int)) : Prop := Sq n m ∧ ∀ r, r ∈ m → ∀ x, x ∈ r → 0 ≤ x ∧ x ≤ 2
theorem In02.zero (n : Nat) : In02 n (List.replicate n (List.replicate n 0)) := by
  refine ⟨⟨by simp, fun r hr => by rw [(List.mem_replicate.1 hr).2]; simp⟩, fun r hr x hx => ?_⟩
  rw [(List.mem_replicate.1 hr).2] at hx
  rw [(List.mem_replicate.1 hx).2]
  omega
theorem In02.set {n : Nat} {m : List (List Int)} (h : In02 n m) {i j : Nat} {r : List Int} {y : Int} (hr : m[i]? = some r) (hy : 0 ≤ y ∧ y ≤ 2) : In02 n (m.set i (r.set j y)) := by
  have hm := List.mem_of_getElem? hr
  refine ⟨⟨by rw [List.length_set]; exact h.1.1, fun q hq => ?_⟩, fun q hq x hx => ?_⟩
  · rcases List.mem_or_eq_of_mem_set hq with h1 | h1
    · exact h.1.2 q h1
    · rw [h1, List.length_set]; exact h.1.2 r hm
  · rcases List.mem_or_eq_of_mem_set hq with h1 | h1
    · exact h.2 q h1 x hx
    · rw [h1] at hx
      rcases List.mem_or_eq_of_mem_set hx with h2 | h2
      · exact h.2 r hm x h2
      · rw [h2]; exact hy
theorem In02.mat {n : Nat} {m : List (List Int)} (h : In02 n m) (h1 : 1 ≤ n) (h4 : n ≤ 4) : SmallD m := by
  refine ⟨?_, by rw [h.1.1]; exact h4, fun r hr x hx => by have := h.2 r hr x hx; omega⟩
  unfold isMat
  rw [Bool.and_eq_true, List.all_eq_true]
  refine ⟨decide_eq_true (by rw [h.1.1]; omega), fun r hr => ?_⟩
  unfold rowOk
  rw [Bool.and_eq_true, List.all_eq_true]
  refine ⟨by have := h.1.2 r hr; rw [h.1.1]; simp [this], fun x hx => ?_⟩
  have := h.2 r hr x hx
  simp [entOk]
  omega
set_option maxHeartbeats 4000000 in
set_option maxRecDepth 100000 in
theorem l4Draw_c {lo : Nat} {w : World} {cb : Nat} {K : Value} {xs : List Int} {rs : List Res} {most : Nat} (hK : ∀ w', Below lo w w' → BytR w' K xs) (hc : Cur lo w cb K xs.length rs) (hlo : lo ≤ w.heap.size) (h1 : 1 ≤ most) (h4 : most ≤ 4) :
    Calls Tryz.prog 41 #[.pointer (some ⟨cb, 0, none⟩), .int .i64 most] w fun e w' => ∃ v : Value, e = .returned v ∧ ∃ m : List (List Int), SmallD m ∧ Cur lo w' cb K xs.length (ResM v m :: rs) ∧ Below lo w w' := by
  have HK := Lib.hid hK
  have HO := Lib.hid (l1Once_i (z := 3) hK hc hlo (by omega) (by omega))
  clear hK hc
  go_enter Tryz.func41, Tryz.ntmps41
  go_wp2_with fail
  (with_reducible refine HO.out.mono ?_)
  rintro e w1 ⟨b, rfl, hc, hb, ho⟩
  have HC1 := Lib.hid hc
  have HB1 := Lib.hid hb
  have HO1 := Lib.hid ho
  have hz1 : lo ≤ w1.heap.size := Nat.le_trans hlo hb.size
  clear hc hb ho HO
  cases b with
  | true =>
    have hcx := Lib.hid (HC1.out.box hz1 (l4Texts.map Value.string) 9)
    obtain ⟨w2, e2⟩ : ∃ x, x = w1.alloc (.cells #[.string ⟨#[49, 44, 49, 47, 49, 44, 48]⟩, .string ⟨#[50]⟩, .string ⟨#[49, 44, 49, 47, 49, 44, 49]⟩, .string ⟨#[48, 44, 49, 47, 49, 44, 48]⟩, .string ⟨#[48, 44, 49, 44, 48, 47, 48, 44, 48, 44, 49, 47, 49, 44, 49, 44, 48]⟩, .string ⟨#[49, 44, 49, 44, 48, 47, 48, 44, 49, 44, 49, 47, 49, 44, 48, 44, 49]⟩, .string ⟨#[49, 44, 48, 47, 49, 44, 49]⟩, .string ⟨#[48, 44, 49, 47, 48, 44, 48]⟩, .string ⟨#[51]⟩, .string ⟨#[49, 44, 50, 47, 49, 44, 48]⟩, .string ⟨#[48]⟩, .string ⟨#[48, 44, 50, 47, 49, 44, 48]⟩] 9) := ⟨_, rfl⟩
    have HC2 := Lib.hid (show Cur lo w2 cb K xs.length (Res.box w1.heap.size (l4Texts.map Value.string) :: rs) from by rw [e2]; exact hcx.out)
    have hb2 : Below w1.heap.size w1 w2 := by rw [e2]; exact (Below.refl _ _).alloc (Nat.le_refl _) _
    have HB2 := Lib.hid (HB1.out.trans (hb2.mono hz1))
    have HO2 := Lib.hid (HO1.out.trans (Off.of_below hb2))
    have hz2 : lo ≤ w2.heap.size := Nat.le_trans hz1 hb2.size
    have HP := Lib.hid (show Calls Tryz.prog 72 #[.pointer (some ⟨cb, 0, none⟩), .slice (some ⟨w1.heap.size, 0, none⟩) 12 12] w2 _ from l1Pick_c (ls := l4Texts) (c := 12) (fun w' hb => HK.out w' (HB2.out.trans hb)) HC2.out hz2 (by decide) (by decide))
    have e2s := e2.symm
    clear hcx hb2 e2
    go_wp2_with fail
    (with_reducible refine HP.out.mono ?_)
    rintro e w3 ⟨x, rfl, hx, hc, hb, ho⟩
    obtain ⟨m, hm, hm4⟩ := l4Texts_mem hx
    have HC3 := Lib.hid hc.rest
    have HB3 := Lib.hid (HB2.out.trans hb)
    have HO3 := Lib.hid (HO2.out.trans ho)
    have hz3 : lo ≤ w3.heap.size := Nat.le_trans hz2 hb.size
    have HM := Lib.hid (ParseMatrix_c (w := w3) hm)
    have HSm := Lib.hid (show SmallD (tabN' m) from ⟨hm.2.2.2.2.2, by rw [tabN'_len]; exact hm4, fun r hr x hx => by
      unfold tabN' at hr
      obtain ⟨l, hl, rfl⟩ := List.mem_map.1 hr
      obtain ⟨y, hy, rfl⟩ := List.mem_map.1 hx
      exact Int.ofNat_le.2 ((hm.2.2.2.1 l hl).2 y hy)⟩)
    clear hx hc hb ho hm hm4 e2s HP HC2 HO2
    go_wp2_with fail
    (with_reducible refine HM.out.mono ?_)
    rintro e w4 ⟨v, rfl, hn, hb⟩
    have HC4 := Lib.hid (HC3.out.new (OTab.kept 3 46).held hb hz3 hn)
    have HB4 := Lib.hid (HB3.out.trans (hb.mono hz3))
    have HO4 := Lib.hid (HO3.out.trans (Off.of_below hb))
    clear hn hb HM
    go_wp2
    go_ret
    exact ⟨v, rfl, _, HSm.out, HC4.out, HB4.out⟩
  | false =>
    have HP := Lib.hid (l1Below_c (N := most) (fun w' hb => HK.out w' (HB1.out.trans hb)) HC1.out hz1 h1 (by omega))
    go_wp2_with fail
    (with_reducible refine HP.out.mono ?_)
    rintro e w2 ⟨x, rfl, hx, hc, hb, ho⟩
    obtain ⟨n, hn⟩ : ∃ n, n = x + 1 := ⟨_, rfl⟩
    have hni : IntKind.i64.wrap (1 + (x : Int)) = (n : Int) := by rw [IntWalk.i64_in _ (by omega)]; omega
    have hni2 : (1 + (x : Int)) = (n : Int) := by omega
    have HC2 := Lib.hid hc
    have HB2 := Lib.hid (HB1.out.trans hb)
    have HO2 := Lib.hid (HO1.out.trans ho)
    have hz2 : lo ≤ w2.heap.size := Nat.le_trans hz1 hb.size
    have hn1 : 1 ≤ n := by omega
    have hn4 : n ≤ 4 := by omega
    have HZ := Lib.hid (fun w2 => l4Zero_c (w := w2) (p := n) (r := n) (by omega) (by omega))
    clear hc hb ho HP hn hx
    go_wp2_with fail
    (with_reducible refine (HZ.out _).mono ?_)
    rintro e w3 ⟨v, rfl, hnv, hb⟩
    obtain ⟨tb0, tc0, rfl, -, -, htx⟩ := (New.tab hnv).shape
    obtain ⟨tb, hto, rfl, -, -⟩ := htx (by simp; omega)
    obtain ⟨b9, c9, u9, hv9, -⟩ := hnv.at (OInts.kept 3) (i := 0) (x := List.replicate n 0) (show (List.replicate n (List.replicate n (0 : Int)))[0]? = some (List.replicate n 0) from by rw [List.getElem?_replicate, if_pos (by omega)])
    simp only [Value.slice.injEq, Option.some.injEq, Addr.mk.injEq] at hv9
    obtain ⟨⟨rfl, rfl, -⟩, -, -⟩ := hv9
    have HC3 := Lib.hid (HC2.out.new (OTab.kept 3 46).held hb hz2 hnv)
    have HB3 := Lib.hid (HB2.out.trans (hb.mono hz2))
    have HO3 := Lib.hid (HO2.out.trans (Off.of_below hb))
    have HI0 := Lib.hid (In02.zero n)
    have hrl : (List.replicate n (List.replicate n (0 : Int))).length = n := by simp
    rw [hrl] at HC3 ⊢
    generalize List.replicate n (List.replicate n (0 : Int)) = Z at HC3 HI0
    clear htx hnv hb HZ hni hni2 hrl
    obtain ⟨vt, hvt⟩ : ∃ v : Value, v = .slice (some ⟨tb, 0, none⟩) n tc0 := ⟨_, rfl⟩
    rw [← hvt] at HC3
    have Hvt := Lib.hid hvt
    clear hvt
    go_wp2
    go_loopg [9] n (fun g iv wr => ∃ (k : Nat) (m : List (List Int)), iv = .int .i64 k ∧ k + g = n ∧ Hid (In02 n m) ∧ Hid (Cur lo wr cb K xs.length (ResM vt m :: rs)) ∧ Hid (Below lo w wr) )
    case atStart => exact ⟨0, Z, rfl, by omega, HI0, HC3, HB3⟩
    case round =>
      clear HI0 HC3 HB3
      obtain ⟨k, m, rfl, hk, HI, HC, HB⟩ := hrel
      obtain ⟨wk, rfl⟩ : ∃ x, x = wr := ⟨_, rfl⟩
      by_cases hkn : k < n
      · have hki : (k : Int) < (n : Int) := by omega
        obtain ⟨g, rfl⟩ : ∃ x, gk = x + 1 := ⟨gk - 1, by omega⟩
        go_wp2
        go_loopg [10] n (fun g2 jv wr2 => ∃ (j : Nat) (m : List (List Int)), jv = .int .i64 j ∧ j + g2 = n ∧ Hid (In02 n m) ∧ Hid (Cur lo wr2 cb K xs.length (ResM vt m :: rs)) ∧ Hid (Below lo w wr2) )
        case atStart => exact ⟨0, m, rfl, by omega, HI, HC, HB⟩
        case round =>
          clear HI HC HB
          obtain ⟨j, m, rfl, hj, HI, HC, HB⟩ := hrel
          obtain ⟨wi, rfl⟩ : ∃ x, x = wr := ⟨_, rfl⟩
          have hzi : lo ≤ wi.heap.size := Nat.le_trans hlo HB.out.size
          by_cases hjn : j < n
          · have hji : (j : Int) < (n : Int) := by omega
            obtain ⟨g2, rfl⟩ : ∃ x, gk = x + 1 := ⟨gk - 1, by omega⟩
            obtain ⟨r, hr, -⟩ := at_lt (xs := m) (k := k) (by rw [HI.out.1.1]; exact hkn)
            have hrl := HI.out.1.2 r (List.mem_of_getElem? hr)
            obtain ⟨x, hx, -⟩ := at_lt (xs := r) (k := j) (by rw [hrl]; exact hjn)
            obtain ⟨ci, ch, hcin, hsep⟩ := HC.out
            have hcb := hsep.headBox.1
            obtain ⟨tb1, tc1, rb, rc, hv, hlt, hbt, gr, hlr, hbr, -, -, -⟩ := hsep.swap.tabSet hr hx
            rw [Hvt.out, HI.out.1.1] at hv
            simp only [Value.slice.injEq, Option.some.injEq, Addr.mk.injEq] at hv
            obtain ⟨⟨rfl, -, -⟩, -, rfl⟩ := hv
            rw [hrl] at gr
            have hne : tb ≠ cb ∧ rb ≠ cb := by
              obtain ⟨F, ⟨G, H, e1, hG, G2, H2, e2, hG2, h3⟩, hnd, hge⟩ := hsep
              obtain ⟨rfl, -⟩ := hG
              have hnn := List.nodup_append.1 (e1 ▸ hnd)
              have hto : OTab 3 46 wi vt m G2 := hG2
              obtain ⟨b5, c5, u5, G5, hv5, -, hb5, -, hc5, -, hu5, hGF5, hG5n, -, -⟩ := OwnOf.focus (OInts.kept _) hto (List.nodup_append.1 (e2 ▸ hnn.2.1)).1 hr
              rw [Hvt.out] at hv5
              simp only [Value.slice.injEq, Option.some.injEq, Addr.mk.injEq] at hv5
              obtain ⟨⟨rfl, -, -⟩, -, -⟩ := hv5
              rw [gr] at hc5
              obtain ⟨b6, c6, u6, G6, hv6, -, hb6, -⟩ := OwnOf.focus OIntR.kept hu5 hG5n hx
              have e5 := Option.some.inj hc5
              rw [← e5] at hv6
              simp only [Value.slice.injEq, Option.some.injEq, Addr.mk.injEq] at hv6
              obtain ⟨⟨rfl, -, -⟩, -, -⟩ := hv6
              subst e2
              exact ⟨fun e => hnn.2.2 cb (by simp) tb (List.mem_append_left _ hb5) e.symm, fun e => hnn.2.2 cb (by simp) rb (List.mem_append_left _ (hGF5 rb hb6)) e.symm⟩
            have Hst := Lib.hid (fun (w2 : World) (hc2 : Cur lo w2 cb K xs.length (ResM vt m :: rs)) (ho : Off [cb] wi w2) => (show (w2.frozen? ⟨rb, j, none⟩ = false ∧ w2.cell? ⟨rb, j, none⟩ = some (.int .i64 x)) ∧ ∀ y, 0 ≤ y ∧ y ≤ 2 → Cur lo (w2.setCell ⟨rb, j, none⟩ (.int .i64 y)) cb K xs.length (ResM vt (m.set k (r.set j y)) :: rs) from by
              obtain ⟨ci2, ch2, hcin2, hsep2⟩ := hc2
              obtain ⟨tb1, tc1, rb1, rc1, hv, -, -, gr1, -, -, x1, f1, s1⟩ := hsep2.swap.tabSet hr hx
              rw [Hvt.out, HI.out.1.1] at hv
              simp only [Value.slice.injEq, Option.some.injEq, Addr.mk.injEq] at hv
              obtain ⟨⟨rfl, -, -⟩, -, -⟩ := hv
              have e7 : w2.cell? ⟨tb, k, none⟩ = wi.cell? ⟨tb, k, none⟩ := World.cell?_of_block (ho.block tb hbt (by simp; exact hne.1))
              rw [e7, gr] at gr1
              have e8 := Option.some.inj gr1
              simp only [Value.slice.injEq, Option.some.injEq, Addr.mk.injEq] at e8
              obtain ⟨⟨rfl, -, -⟩, -, -⟩ := e8
              exact ⟨⟨f1, x1⟩, fun y _ => ⟨ci2, ch2, hcin2, (s1 y).swap⟩⟩))
            have Hin := Lib.hid (fun y (hy : 0 ≤ y ∧ y ≤ 2) => HI.out.set (j := j) hr hy)
            obtain ⟨w1a, e1a⟩ : ∃ x, x = (wi.alloc (.cells #[.int .i64 0, .int .i64 1, .int .i64 0, .int .i64 1, .int .i64 2] 3)).drew := ⟨_, rfl⟩
            have hb1a : Below wi.heap.size wi w1a := by rw [e1a]; exact ((Below.refl _ _).alloc (Nat.le_refl _) _).drew
            have HC1a := Lib.hid (show Cur lo w1a cb K xs.length (Res.box wi.heap.size (([0, 1, 0, 1, 2] : List Int).map (Value.int .i64)) :: ResM vt m :: rs) from by rw [e1a]; exact (HC.out.box hzi (([0, 1, 0, 1, 2] : List Int).map (Value.int .i64)) 3).below (Below.refl _ _).drew)
            have HB1a := Lib.hid (HB.out.trans (hb1a.mono hzi))
            have HO1a := Lib.hid (Off.of_below (F := [cb]) hb1a)
            have hz1a : lo ≤ w1a.heap.size := Nat.le_trans hzi hb1a.size
            have HPk := Lib.hid (show Calls Tryz.prog 73 #[.pointer (some ⟨cb, 0, none⟩), .slice (some ⟨wi.heap.size, 0, none⟩) 5 5] w1a _ from l1PickInt_c (ls := [0, 1, 0, 1, 2]) (c := 5) (fun w' hb => HK.out w' (HB1a.out.trans hb)) HC1a.out hz1a (by decide) (by decide))
            have HSc := Lib.hid (fun (w2 : World) (ho : Off [cb] wi w2) => (show w2.cell? ⟨tb, k, none⟩ = some (.slice (some ⟨rb, 0, none⟩) n rc) from (World.cell?_of_block (ho.block tb hbt (by simp; exact hne.1))).trans gr))
            have hSd : wi.drew.cell? ⟨tb, k, none⟩ = some (.slice (some ⟨rb, 0, none⟩) n rc) := gr
            have hS1 : w1a.cell? ⟨tb, k, none⟩ = some (.slice (some ⟨rb, 0, none⟩) n rc) := HSc.out _ HO1a.out
            have e1s := e1a.symm
            clear e1a
            have hvt := Hvt.out
            subst hvt
            clear hr hx hsep hcb hne hb1a HI HC gr HC1a
            go_wp2
            refine wp_region_L (fun w' => w'.cell? ⟨tb, k, none⟩ = some (.slice (some ⟨rb, 0, none⟩) n rc)) (by kernel_rfl) ?_
            refine wpAnyL_take 0 (v := ?_) rfl (by kernel_rfl) (by kernel_rfl) (by kernel_rfl) (by kernel_rfl) (fun _ _ _ h => h) (Or.inl ⟨by rfl, ?_⟩) hSd ?_
            rotate_left
            · (intro w hSw; (try dsimp only at hSw); go_simp) <;> (try with_reducible rfl)
            try simp only [Act.put, List.getElem_toArray, List.getElem_cons_zero, List.getElem_cons_succ, List.setIfInBounds_toArray, List.set_cons_zero, List.set_cons_succ]
            refine wpAnyL_take 1 (v := ?_) rfl (by kernel_rfl) (by kernel_rfl) (by kernel_rfl) (by kernel_rfl) (fun _ _ _ h => h) (Or.inl ⟨by rfl, ?_⟩) hSd ?_
            rotate_left
            · (intro w hSw; (try dsimp only at hSw); go_simp) <;> (try with_reducible rfl)
            try simp only [Act.put, List.getElem_toArray, List.getElem_cons_zero, List.getElem_cons_succ, List.setIfInBounds_toArray, List.set_cons_zero, List.set_cons_succ]
            refine wpAnyL_take 2 (v := ?_) rfl (by kernel_rfl) (by kernel_rfl) (by kernel_rfl) (by kernel_rfl) (fun _ _ _ h => h) (Or.inl ⟨by rfl, ?_⟩) hSd ?_
            rotate_left
            · (intro w hSw; (try dsimp only at hSw); go_simp) <;> (try with_reducible rfl)
            try simp only [Act.put, List.getElem_toArray, List.getElem_cons_zero, List.getElem_cons_succ, List.setIfInBounds_toArray, List.set_cons_zero, List.set_cons_succ]
            refine wpAnyL_take 3 (v := ?_) rfl (by kernel_rfl) (by kernel_rfl) (by kernel_rfl) (by kernel_rfl) (fun _ _ _ h => h) (Or.inl ⟨by rfl, ?_⟩) hSd ?_
            rotate_left
            · (intro w hSw; (try dsimp only at hSw); go_simp) <;> (try with_reducible rfl)
            try simp only [Act.put, List.getElem_toArray, List.getElem_cons_zero, List.getElem_cons_succ, List.setIfInBounds_toArray, List.set_cons_zero, List.set_cons_succ]
            refine wpAnyL_take 4 (v := ?_) rfl (by kernel_rfl) (by kernel_rfl) (by kernel_rfl) (by kernel_rfl) (fun _ _ _ h => h) (Or.inl ⟨by rfl, ?_⟩) hSd ?_
            rotate_left
            · (intro w hSw; (try dsimp only at hSw); go_simp) <;> (try with_reducible rfl)
            try simp only [Act.put, List.getElem_toArray, List.getElem_cons_zero, List.getElem_cons_succ, List.setIfInBounds_toArray, List.set_cons_zero, List.set_cons_succ]
            refine wpAnyL_take 5 (v := ?_) rfl (by kernel_rfl) (by kernel_rfl) (by kernel_rfl) (by kernel_rfl) (fun _ _ _ h => h) (Or.inl ⟨by rfl, ?_⟩) hSd ?_
            rotate_left
            · (intro w hSw; (try dsimp only at hSw); go_simp) <;> (try with_reducible rfl)
            try simp only [Act.put, List.getElem_toArray, List.getElem_cons_zero, List.getElem_cons_succ, List.setIfInBounds_toArray, List.set_cons_zero, List.set_cons_succ]
            refine wpAnyL_one 6 (by kernel_rfl) rfl (fun K hK => ?_)
            go_simp
            refine hK.out _ _ (fun _ => hS1) ?_
            clear hK K
            try simp only [Act.put, List.getElem_toArray, List.getElem_cons_zero, List.getElem_cons_succ, List.setIfInBounds_toArray, List.set_cons_zero, List.set_cons_succ]
            refine wpAnyL_one 7 (by kernel_rfl) rfl (fun K hK => ?_)
            go_simp
            (with_reducible refine HPk.out.mono ?_)
            rintro e w3 ⟨y, rfl, hy3, hc, hb, ho⟩
            have hy : 0 ≤ y ∧ y ≤ 2 := by simp at hy3; omega
            have HCp := Lib.hid hc.rest
            have HBp := Lib.hid (HB1a.out.trans hb)
            have HOp := Lib.hid (HO1a.out.trans ho)
            have hS3 : w3.cell? ⟨tb, k, none⟩ = some (.slice (some ⟨rb, 0, none⟩) n rc) := HSc.out _ HOp.out
            have hf3 := (Hst.out w3 HCp.out HOp.out).1.1
            have hx3 := (Hst.out w3 HCp.out HOp.out).1.2
            clear hc hb ho hy3
            go_wp2_with fail
            refine hK.out _ _ (fun _ => hS3) ?_
            clear hK K
            try simp only [Act.put, List.getElem_toArray, List.getElem_cons_zero, List.getElem_cons_succ, List.setIfInBounds_toArray, List.set_cons_zero, List.set_cons_succ]
            refine wpAnyL_take 8 (v := ?_) rfl (by kernel_rfl) (by kernel_rfl) (by kernel_rfl) (by kernel_rfl) (fun _ _ _ h => h) (Or.inl ⟨by rfl, ?_⟩) hS3 ?_
            rotate_left
            · (intro w hSw; (try dsimp only at hSw); go_simp) <;> (try with_reducible rfl)
            try simp only [Act.put, List.getElem_toArray, List.getElem_cons_zero, List.getElem_cons_succ, List.setIfInBounds_toArray, List.set_cons_zero, List.set_cons_succ]
            refine wpAnyL_one 9 (by kernel_rfl) rfl (fun K hK => ?_)
            go_simp
            refine hK.out _ _ (fun h => absurd h (not_rem (by kernel_rfl))) ?_
            clear hK K
            try simp only [Act.put, List.getElem_toArray, List.getElem_cons_zero, List.getElem_cons_succ, List.setIfInBounds_toArray, List.set_cons_zero, List.set_cons_succ]
            refine wpAnyL_done (by kernel_rfl) ?_ _
            go_wp2
            go_roundg g2
            case measure => omega
            case rel => exact ⟨j + 1, _, by go_num, by omega, Lib.hid (Hin.out y hy), Lib.hid ((Hst.out w3 HCp.out HOp.out).2 y hy), Lib.hid (HBp.out.setCell (p := ⟨rb, j, none⟩) hlr _)⟩
          · have hji : ¬ ((j : Int) < (n : Int)) := by omega
            go_wp2
            go_roundg g
            case measure => omega
            case rel => exact ⟨k + 1, m, by go_num, by omega, HI, HC, HB⟩
      · have hki : ¬ ((k : Int) < (n : Int)) := by omega
        have HSm := Lib.hid (HI.out.mat hn1 hn4)
        clear HI
        go_wp2
        go_ret
        exact ⟨_, rfl, m, HSm.out, by rw [← Hvt.out]; exact HC.out, HB.out⟩
end Go.Proofs.YtlkgkfgpnnahdaaGreat
end

section
/-
  Own slices of numbers among other own things: their beginnings, and what is appended to them.
-/
namespace Go.Sd
open Go.RowKit Go.Deep
section
variable {P : Program} {w : World}
/-- append of plain values to an own slice, by footprints. -/
theorem run_valsF {α : Type} {f : α → Value} (hf : ∀ x, (f x).oneCell' = true) (t ty : TypeId)
    (e : TypeId) (z : Value) (bytes : Nat) (ht : P.underlying t = some (.slice e)) (hinfo : (P.info? e).map (fun i => (i.zero, i.size, i.bytes)) = some (some z, 1, bytes)) (hz1 : z.cells = #[z])
    {v : Value} {ys : List α} {F : List Nat} (h0 : OwnOf e (OValR f) w v ys F) (hnd : F.Nodup)
    {v2 : Value} {xs : List α} (h2 : SlOf (ValR f) w v2 xs)
    (hbytes : (ys.length + xs.length) * bytes ≤ 140737488355328) (h63 : ys.length + xs.length ≤ 9223372036854775807) :
    ∃ v' w' F', (Builtin.append_ #[t, t] ty #[v, v2]).run P w = .ok v' w' ∧ OwnOf e (OValR f) w' v' (ys ++ xs) F' ∧ F'.Nodup ∧ (∀ b, b ∈ F' → b ∈ F ∨ w.heap.size ≤ b) ∧ w.grownBy w' v.ownBlock ∧ ∀ k, v.ownBlock = some k → k ∈ F := by
  obtain ⟨i, hi, hzz⟩ := Option.map_eq_some_iff.1 hinfo
  simp only [Prod.mk.injEq] at hzz
  obtain ⟨hz, hsz, hby⟩ := hzz
  have h0' := h0
  obtain ⟨us, Fs, how, hl, hr, rfl⟩ := h0
  have hul : us.length = ys.length := by simpa using how.1
  obtain ⟨vs, hsl, hvl, hvr⟩ := h2
  have hvs : vs = xs.map f := by
    apply List.ext_getElem?
    intro j
    by_cases hj : j < xs.length
    · rw [List.getElem?_map, List.getElem?_eq_getElem hj, List.getElem?_eq_getElem (by omega)]
      exact congrArg some (hvr j _ _ (List.getElem?_eq_getElem (by omega)) (List.getElem?_eq_getElem hj))
    · rw [List.getElem?_eq_none (by omega), List.getElem?_eq_none (by simp; omega)]
  subst hvs
  obtain ⟨_, ad, c, hv2, _, _, hn, hcells⟩ := hsl
  simp only [List.length_map] at hv2
  have hown : ∀ k, v.ownBlock = some k → k ∈ v.ownBlock.toList ++ Fs.flatten := fun k hk => by simp [hk]
  have key : ∀ (ad : Addr), (∀ (j : Nat) (u : Value), (xs.map f)[j]? = some u → w.cell? (ad.add j) = some u) → v2 = .slice (some ad) xs.length c → ∃ v' w' F', (Builtin.append_ #[t, t] ty #[v, v2]).run P w = .ok v' w' ∧ OwnOf e (OValR f) w' v' (ys ++ xs) F' ∧ F'.Nodup ∧ (∀ b, b ∈ F' → b ∈ v.ownBlock.toList ++ Fs.flatten ∨ w.heap.size ≤ b) ∧ w.grownBy w' v.ownBlock ∧ ∀ k, v.ownBlock = some k → k ∈ v.ownBlock.toList ++ Fs.flatten := by
    intro ad had hv2'
    obtain ⟨v', w', hrun, how', hg, _, hat⟩ := run_append_own_at (P := P) w 0 t ty e i z 1 bytes ht hi hz hsz hby (by rw [hz1]; rfl) (by decide) v ys.length us how ad xs.length c (xs.map f) (by simp) had
      (by
        intro u hu
        obtain ⟨y, _, rfl⟩ := List.mem_map.1 hu
        exact hf y) h63 hbytes (Nat.zero_le _)
    have hFs : ∀ G, G ∈ Fs → G = [] := fun G hG => by
      obtain ⟨j, hj⟩ := List.getElem?_of_mem hG
      have hj1 : j < Fs.length := (List.getElem?_eq_some_iff.1 hj).1
      exact (hr j us[j] ys[j] G (List.getElem?_eq_getElem (by omega)) (List.getElem?_eq_getElem (by omega)) hj).2
    have hfl : (Fs ++ List.replicate xs.length []).flatten = [] := by
      rw [List.flatten_eq_nil_iff]
      intro G hG
      rcases List.mem_append.1 hG with hG | hG
      · exact hFs G hG
      · exact (List.mem_replicate.1 hG).2
    refine ⟨v', w', v'.ownBlock.toList ++ (Fs ++ List.replicate xs.length []).flatten, by rw [hv2']; exact hrun, ⟨us ++ xs.map f, Fs ++ List.replicate xs.length [], by simpa using how', by simp [hl], ?_, rfl⟩, ?_, ?_, hg, hown⟩
    · intro j u' x' G' hu' hx' hG'
      by_cases hj : j < ys.length
      · rw [List.getElem?_append_left (by omega)] at hu' hx' hG'
        exact hr j u' x' G' hu' hx' hG'
      · rw [List.getElem?_append_right (by omega)] at hu' hx' hG'
        rw [hul, List.getElem?_map, hx'] at hu'
        simp at hu'
        exact ⟨hu'.symm, (List.mem_replicate.1 (List.mem_of_getElem? hG')).2⟩
    · rw [hfl]
      cases v'.ownBlock <;> simp
    · intro b hb
      rw [hfl] at hb
      simp at hb
      rcases hat with hat | hat
      · rw [hat] at hb; exact Or.inl (hown b hb)
      · rw [hat] at hb; simp at hb; omega
  cases ad with
  | none =>
    have hx0 : xs = [] := by
      rcases hcells with h | ⟨b, o, h, _⟩
      · simpa using h
      · cases h
    subst hx0
    have := hn rfl
    subst this
    refine ⟨v, w, _, ?_, by rw [List.append_nil]; exact h0', hnd, fun b hb => Or.inl hb, ⟨rfl, rfl, rfl, Nat.le_refl _, fun _ _ _ => rfl⟩, hown⟩
    rw [hv2]
    exact run_append_owned_none (P := P) w 0 t ty e i 1 ht hi v _ us how
  | some ad =>
    rcases hcells with hnil | ⟨b, o, had, _, hc⟩
    · exact key ad (by rw [hnil]; simp) hv2
    · cases had
      refine key _ (fun j u hj => ?_) hv2
      have := hc j u hj
      cases j <;> simpa [Addr.add] using this
end
/-- append of numbers to the first of some own things. -/
theorem Sep.pushVals {P : Program} {lo : Nat} {w : World} {e : TypeId} {v : Value} {xs : List Int} {rs : List Res} (t ty : TypeId) (ht : P.underlying t = some (.slice e)) (hinfo : (P.info? e).map (fun i => (i.zero, i.size, i.bytes)) = some (some (.int .i64 0), 1, 8))
    (h : Sep lo w (Res.ints e v xs :: rs)) (hlo : lo ≤ w.heap.size) {v2 : Value} {ys : List Int} (h2 : Ints w v2 ys) (hl : xs.length + ys.length ≤ 16777216) :
    ∃ v' w', (Builtin.append_ #[t, t] ty #[v, v2]).run P w = .ok v' w' ∧ Sep lo w' (Res.ints e v' (xs ++ ys) :: rs) ∧ Below lo w w' := by
  obtain ⟨G, hG, hf, hK⟩ := h.head
  have hG' : OInts e w v xs G := hG
  obtain ⟨v', w', F', hr, hF', hn', hs, hg, hv⟩ := run_valsF (P := P) (f := Value.int .i64) (fun _ => rfl) t ty e (.int .i64 0) 8 ht hinfo rfl hG' hf.1 h2 (by omega) (by omega)
  refine ⟨v', w', hr, hK w' (Res.ints e v' (xs ++ ys)) F' hF' hn' hs hlo fun b hlt hn => hg.block b hlt fun e => hn (hv b e.symm), (Below.refl lo w).grown hg (by omega) fun k hk => hf.2 k (hv k hk)⟩
/-- The beginning of the first of some own things. -/
theorem Sep.pre {lo : Nat} {w : World} {e : TypeId} {b n c : Nat} {xs : List Int} {rs : List Res} (h : Sep lo w (Res.ints e (.slice (some ⟨b, 0, none⟩) n c) xs :: rs)) {k : Nat} (hk : k ≤ xs.length) : Sep lo w (Res.ints e (.slice (some ⟨b, 0, none⟩) k c) (xs.take k) :: rs) := by
  obtain ⟨F, ⟨G2, H, rfl, h1, h2⟩, hn, hge⟩ := h
  have hnd := List.nodup_append.1 hn
  obtain ⟨F3, hF3, hfr3⟩ := New.pre (lo := lo) (e := e) (xs := xs) (b := b) (n := n) (c := c) (w := w) ⟨G2, h1, hnd.1, fun b hb => hge b (List.mem_append_left _ hb)⟩ hk
  have e3 : ∀ q, q ∈ F3 → q ∈ G2 := fun q hq => by
    have h1' : OInts e w (.slice (some ⟨b, 0, none⟩) n c) xs G2 := h1
    obtain ⟨us, Fs, ⟨hul, hor⟩, hFl, hr, rfl⟩ := hF3
    obtain ⟨us2, Fs2, ⟨hul2, hor2⟩, hFl2, hr2, rfl⟩ := h1'
    have hFs : ∀ G, G ∈ Fs → G = [] := fun G hG => by
      obtain ⟨j, hj⟩ := List.getElem?_of_mem hG
      have hj1 : j < Fs.length := (List.getElem?_eq_some_iff.1 hj).1
      exact (hr j us[j] (xs.take k)[j] G (List.getElem?_eq_getElem (by omega)) (List.getElem?_eq_getElem (by omega)) hj).2
    have hfl : Fs.flatten = [] := List.flatten_eq_nil_iff.2 hFs
    rw [hfl] at hq
    have e : q = b := by simpa [Value.ownBlock] using hq
    rw [e]
    exact List.mem_append_left _ (by simp [Value.ownBlock])
  refine ⟨F3 ++ H, ⟨F3, H, rfl, hF3, h2⟩, List.nodup_append.2 ⟨hfr3.1, hnd.2.1, fun p hp q hq => hnd.2.2 p (e3 p hp) q hq⟩, fun q hq => ?_⟩
  rcases List.mem_append.1 hq with hq | hq
  · exact hfr3.2 q hq
  · exact hge q (List.mem_append_right _ hq)
end Go.Sd
namespace Go.Proofs.YtlkgkfgpnnahdaaGreat
open Go.RowKit Go.Deep Go.Sd
theorem Cur.pushInt {lo : Nat} {w : World} {cb : Nat} {K : Value} {n : Nat} {rs : List Res} {v : Value} {P : List Int} (h : Cur lo w cb K n (Res.ints 3 v P :: rs)) (hlo : lo ≤ w.heap.size) (x : Int) (hl : P.length ≤ 16777216) :
    ∃ a c w', (Builtin.append_ #[46, 46] 46 #[v, .slice (some ⟨w.heap.size, 0, none⟩) 1 1]).run Tryz.prog (w.alloc (.cells #[.int .i64 x] 3)) = .ok (.slice a (P.length + 1) c) w' ∧ Cur lo w' cb K n (Res.ints 3 (.slice a (P.length + 1) c) (P ++ [x]) :: rs) ∧ Below lo w w' := by
  obtain ⟨i, z, hi, hs⟩ := h
  obtain ⟨a, c, w', hr, hs', hb⟩ := Sep.pushInt (P := Tryz.prog) 46 46 Tryz.underlying46 infoI hs.swap hlo x hl 3
  rw [List.length_append, List.length_singleton] at hr hs'
  exact ⟨a, c, w', hr, ⟨i, z, hi, hs'.swap⟩, hb⟩
theorem Cur.tabOf {lo : Nat} {w : World} {cb : Nat} {K : Value} {n : Nat} {rs : List Res} {v : Value} {m : List (List Int)} (h : Cur lo w cb K n rs) (hm : ResM v m ∈ rs) : Tab w v m := by
  obtain ⟨G, hG, -⟩ := h.out.get hm
  have hG' : OTab 3 46 w v m G := hG
  exact hG'.reads
/-- A table that lies in blocks from a number on. -/
def Far (lo : Nat) (w : World) (v : Value) (m : List (List Int)) : Prop := ∃ G, OTab 3 46 w v m G ∧ ∀ b, b ∈ G → lo ≤ b
theorem Far.tab {lo : Nat} {w : World} {v : Value} {m : List (List Int)} (h : Far lo w v m) : Tab w v m := by
  obtain ⟨G, h, -⟩ := h
  exact h.reads
theorem Far.off {lo : Nat} {w w' : World} {v : Value} {m : List (List Int)} (h : Far lo w v m) {F : List Nat} (ho : Off F w w') (hF : ∀ b, b ∈ F → b < lo) : Far lo w' v m := by
  obtain ⟨G, h, hg⟩ := h
  exact ⟨G, (OTab.kept _ _).keep _ _ _ _ _ h fun b hb => ho.block b ((OTab.kept _ _).lt _ _ _ _ h b hb) fun hm => by have := hF b hm; have := hg b hb; omega, hg⟩
theorem Far.below {lo : Nat} {w w' : World} {v : Value} {m : List (List Int)} (h : Far lo w v m) (hb : Below w.heap.size w w') : Far lo w' v m := h.off (F := []) (Off.of_below hb) (by simp)
theorem Far.mono {lo lo' : Nat} {w : World} {v : Value} {m : List (List Int)} (h : Far lo w v m) (hl : lo' ≤ lo) : Far lo' w v m := by
  obtain ⟨G, h, hg⟩ := h
  exact ⟨G, h, fun b hb => Nat.le_trans hl (hg b hb)⟩
theorem Far.new {lo : Nat} {w : World} {v : Value} {m : List (List Int)} (h : New (OTab 3 46) lo w v m) : Far lo w v m := by
  obtain ⟨G, h, -, hg⟩ := h
  exact ⟨G, h, hg⟩
theorem Cur.farOf {lo : Nat} {w : World} {cb : Nat} {K : Value} {n : Nat} {rs : List Res} {v : Value} {m : List (List Int)} (h : Cur lo w cb K n rs) (hm : ResM v m ∈ rs) : Far lo w v m := by
  obtain ⟨G, hG, hg⟩ := h.out.get hm
  exact ⟨G, hG, hg⟩
theorem Cur.intsOf {lo : Nat} {w : World} {cb : Nat} {K : Value} {n : Nat} {rs : List Res} {v : Value} {m : List Int} (h : Cur lo w cb K n rs) (hm : Res.ints 3 v m ∈ rs) : Ints w v m := by
  obtain ⟨G, hG, -⟩ := h.out.get hm
  have hG' : OInts 3 w v m G := hG
  exact hG'.reads
end Go.Proofs.YtlkgkfgpnnahdaaGreat
end

section
/-
  The lists between zeros and a row: the model.
-/
namespace Go.Sd

abbrev Tbl := List (List Int)
def exts (l : List Int) (x : Int) : Tbl := (List.range (x.toNat + 1)).map fun (y : Nat) => l ++ [(y : Int)]
def ext (cur : Tbl) (x : Int) : Tbl := cur.flatMap fun l => exts l x
def rowLe3 : List Int → Bool
  | [] => true
  | x :: r => decide (0 ≤ x ∧ x ≤ 3) && rowLe3 r
def compo : List Int → List Int → Tbl
  | [], h => [h]
  | x :: r, h => (List.range (x.toNat + 1)).flatMap fun (y : Nat) => compo r (h ++ [(y : Int)])
def goOn (keep : List Int → Bool) : List Int → Tbl → Tbl
  | [], cur => cur.filter keep
  | x :: r, cur => if 0 ≤ x ∧ x ≤ 3 then goOn keep r (ext cur x) else []
theorem goOn_bad (keep : List Int → Bool) : ∀ (r : List Int) (cur : Tbl), rowLe3 r = false → goOn keep r cur = []
  | [], _, h => by cases h
  | x :: r, cur, h => by
    unfold goOn
    split
    · rename_i hx
      unfold rowLe3 at h
      rw [decide_eq_true hx] at h
      exact goOn_bad keep r _ (by simpa using h)
    · rfl
theorem flatMap_map' {α β γ : Type} (f : α → β) (g : β → List γ) (l : List α) : (l.map f).flatMap g = l.flatMap fun a => g (f a) := by
  induction l with
  | nil => rfl
  | cons a l ih => simp [ih]
theorem flatMap_assoc' {α β γ : Type} (f : α → List β) (g : β → List γ) (l : List α) : (l.flatMap f).flatMap g = l.flatMap fun a => (f a).flatMap g := by
  induction l with
  | nil => rfl
  | cons a l ih => simp [List.flatMap_append, ih]
theorem flatMap_single' {α : Type} (l : List α) : l.flatMap (fun a => [a]) = l := by
  induction l with
  | nil => rfl
  | cons a l ih => simp
theorem goOn_comp (keep : List Int → Bool) : ∀ (r : List Int) (cur : Tbl), rowLe3 r = true → goOn keep r cur = (cur.flatMap fun l => compo r l).filter keep
  | [], cur, _ => by
    show cur.filter keep = _
    rw [show (fun l => compo [] l) = fun l => [l] from rfl, flatMap_single']
  | x :: r, cur, h => by
    unfold rowLe3 at h
    rw [Bool.and_eq_true, decide_eq_true_eq] at h
    unfold goOn
    rw [if_pos h.1, goOn_comp keep r _ h.2]
    congr 1
    unfold ext
    rw [flatMap_assoc']
    congr 1
    funext l
    unfold exts
    rw [flatMap_map']
    rfl
def Le2 : List Int → List Int → Prop
  | [], [] => True
  | a :: t, x :: r => (0 ≤ a ∧ a ≤ x) ∧ Le2 t r
  | _, _ => False
theorem comp_mem : ∀ (r h l : List Int), rowLe3 r = true → l ∈ compo r h → ∃ t, l = h ++ t ∧ Le2 t r
  | [], h, l, _, hl => by
    simp [compo] at hl
    exact ⟨[], by simp [hl], trivial⟩
  | x :: r, h, l, ho, hl => by
    unfold rowLe3 at ho
    rw [Bool.and_eq_true, decide_eq_true_eq] at ho
    unfold compo at hl
    obtain ⟨y, hy, hl⟩ := List.mem_flatMap.1 hl
    obtain ⟨t, rfl, ht⟩ := comp_mem r _ l ho.2 hl
    have hy2 := List.mem_range.1 hy
    exact ⟨(y : Int) :: t, by simp, ⟨by omega, by omega⟩, ht⟩
def isum : List Int → Int
  | [] => 0
  | x :: r => x + isum r
theorem Le2.sum : ∀ {t r : List Int}, Le2 t r → 0 ≤ isum t ∧ isum t ≤ isum r
  | [], [], _ => by simp [isum]
  | a :: t, x :: r, h => by
    have := Le2.sum h.2
    have := h.1
    simp only [isum]; omega
theorem Le2.len : ∀ {t r : List Int}, Le2 t r → t.length = r.length
  | [], [], _ => rfl
  | a :: t, x :: r, h => by simp [Le2.len h.2]
theorem Le2.zero : ∀ {t r : List Int}, Le2 t r → (isum t = 0 ↔ t = List.replicate r.length 0)
  | [], [], _ => by simp [isum]
  | a :: t, x :: r, h => by
    have h1 := Le2.sum h.2
    have h2 := Le2.zero h.2
    have h3 := h.1
    simp only [isum, List.length_cons, List.replicate_succ, List.cons.injEq]
    rw [← h2]
    omega
theorem Le2.full : ∀ {t r : List Int}, Le2 t r → (isum t = isum r ↔ t = r)
  | [], [], _ => by simp
  | a :: t, x :: r, h => by
    have h1 := Le2.sum h.2
    have h2 := Le2.full h.2
    have h3 := h.1
    simp only [isum, List.cons.injEq]
    rw [← h2]
    omega
def keepI (row l : List Int) : Bool := !(decide (isum l = 0) || decide (isum l = isum row))
def keepS (row l : List Int) : Bool := !decide (l = List.replicate row.length 0) && !decide (l = row)
theorem keep_same {row l : List Int} (h : Le2 l row) : keepI row l = keepS row l := by
  unfold keepI keepS
  rw [decide_eq_decide.2 h.zero, decide_eq_decide.2 h.full]
  cases decide (l = List.replicate row.length 0) <;> rfl
def partsV (row : List Int) : Tbl := if row.length ≤ 4 ∧ rowLe3 row = true then (compo row []).filter (keepS row) else []
theorem partsV_impl (row : List Int) : partsV row = if row.length ≤ 4 then goOn (keepI row) row [[]] else [] := by
  unfold partsV
  by_cases h4 : row.length ≤ 4
  · rw [if_pos h4]
    cases ho : rowLe3 row with
    | false => rw [if_neg (by simp), goOn_bad _ _ _ ho]
    | true =>
      rw [if_pos ⟨h4, rfl⟩, goOn_comp _ _ _ ho]
      simp only [List.flatMap_cons, List.flatMap_nil, List.append_nil]
      refine List.filter_congr fun l hl => ?_
      obtain ⟨t, ht, hle⟩ := comp_mem row [] l ho hl
      simp at ht
      subst ht
      exact (keep_same hle).symm
  · rw [if_neg h4, if_neg (fun h => h4 h.1)]
theorem comp_len : ∀ (r h : List Int), rowLe3 r = true → (compo r h).length ≤ 4 ^ r.length
  | [], h, _ => by simp [compo]
  | x :: r, h, ho => by
    unfold rowLe3 at ho
    rw [Bool.and_eq_true, decide_eq_true_eq] at ho
    have key : ∀ m : Nat, ((List.range m).flatMap fun (y : Nat) => compo r (h ++ [(y : Int)])).length ≤ m * 4 ^ r.length := by
      intro m
      induction m with
      | zero => simp
      | succ m ih =>
        rw [List.range_succ, List.flatMap_append, List.length_append]
        simp only [List.flatMap_cons, List.flatMap_nil, List.append_nil]
        have := comp_len r (h ++ [(m : Int)]) ho.2
        rw [Nat.succ_mul]; omega
    have h1 := key (x.toNat + 1)
    unfold compo
    rw [List.length_cons, Nat.pow_succ, Nat.mul_comm]
    exact Nat.le_trans h1 (Nat.mul_le_mul_right _ (by omega))
theorem partsV_bd (row : List Int) : (partsV row).length ≤ 256 ∧ ∀ r, r ∈ partsV row → r.length ≤ 4 := by
  unfold partsV
  split
  · rename_i h
    constructor
    · have h1 := comp_len row [] h.2
      have h2 : 4 ^ row.length ≤ 4 ^ 4 := Nat.pow_le_pow_right (by decide) h.1
      have h3 := List.length_filter_le (keepS row) (compo row [])
      omega
    · intro r hr
      obtain ⟨t, ht, hle⟩ := comp_mem row [] r h.2 ((List.mem_filter.1 hr).1)
      simp at ht
      subst ht
      rw [hle.len]; exact h.1
  · simp
end Go.Sd
end
