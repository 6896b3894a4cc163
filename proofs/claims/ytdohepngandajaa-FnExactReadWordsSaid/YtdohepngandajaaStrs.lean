/-
  The laws' helpers on slices of texts.
-/
import Derived.Test.YtdohepngandajaaRows
import Derived.Test.YtdohepngandajaaBase
import Derived.Test.YtdohepngandajaaHarn
import Derived.Test.YtdohepngandajaaLawKit
import Derived.Test.YtdohepngandajaaLab
import Derived.Test.YtdohepngandajaaLabO
import Derived.Test.YtdohepngandajaaReachK
import Derived.Test.YtdohepngandajaaShortS
import Derived.Laws.IdiomStrings
import Derived.IntWalk
import Derived.BigQuiet
import Derived.Deep.RegionHeld3
import Derived.Deep.DeepCutAuto
namespace Go.Proofs.Ytdohepngandajaa
open Go.RowKit Go.Deep Go.Sd
set_option linter.unusedSimpArgs false
abbrev OStrs : OwnRel (List ByteArray) := OwnOf 9 (OValR Value.string)
theorem OStrs.kept : Kept OStrs := OwnOf.kept OStr.kept
theorem OStrs.held : Held OStrs := OStrs.kept.held
abbrev StrsR : World → Value → List ByteArray → Prop := SlOf (ValR Value.string)
theorem StrsR.frame : Framed StrsR := SlOf.frame (fun _ _ _ _ h _ => h)
theorem New.strs {lo : Nat} {w : World} {v : Value} {xs : List ByteArray} (h : New OStrs lo w v xs) : StrsR w v xs := by obtain ⟨F, hF, _⟩ := h; exact OwnOf.reads (fun _ _ _ _ h => h.1) hF
set_option maxHeartbeats 400000 in
theorem eqStringS_same {w : World} {v1 v2 : Value} {xs : List ByteArray} (h1 : StrsR w v1 xs) (h2 : StrsR w v2 xs) :
    Calls Try.prog 24 #[v1, v2] w (Reads w (.bool true)) := by
  have hlen1 := h1.len
  obtain ⟨a1, c1, rfl, _, _, hc1⟩ := h1.shape
  obtain ⟨a2, c2, rfl, _, _, hc2⟩ := h2.shape
  clear h1 h2
  have hl1 : ((xs.length : Int) != xs.length) = false := by simp
  have Hc1 := Lib.hid hc1
  have Hc2 := Lib.hid hc2
  clear hc1 hc2
  go_enter Try.func24, Try.ntmps24
  go_wp2
  go_loopg [5] xs.length (fun g i wr => ∃ (k : Nat), i = .int .i64 k ∧ k + g = xs.length ∧ Drawn w wr)
  case atStart => exact ⟨0, rfl, by omega, Drawn.refl _⟩
  case round =>
    obtain ⟨k, rfl, hk, hdr⟩ := hrel
    by_cases hlt : k < xs.length
    · obtain ⟨b1, o1, rfl, _, hx1⟩ := Hc1.out (by omega)
      obtain ⟨b2, o2, rfl, _, hx2⟩ := Hc2.out (by omega)
      obtain ⟨x, hx, _⟩ := at_lt hlt
      obtain ⟨u1, hu1, rfl⟩ := hx1 k x hx
      obtain ⟨u2, hu2, rfl⟩ := hx2 k x hx
      rw [← hdr.cell] at hu1 hu2
      have hi1 : (k : Int) < (xs.length : Int) := by omega
      clear hx1 hx2 hx
      go_wp2
      go_quiet (fail)
      go_wp2
      go_roundg (xs.length - (k + 1))
      case measure => omega
      case rel => exact ⟨k + 1, by go_num, by omega, hdr.drewN _⟩
    · go_wp2
      go_ret
      exact ⟨rfl, hdr⟩
/-- Digits. -/
def digT : Nat → Nat → ByteArray → ByteArray
  | 0, _, s => s
  | g + 1, n, s => if n = 0 then s else digT g (n / 10) ((⟨#[48 + UInt8.ofNat (n % 10)]⟩ : ByteArray) ++ s)
def markT (k : Int) : ByteArray := if k ≤ 0 then ⟨#[109, 48]⟩ else (⟨#[109]⟩ : ByteArray) ++ digT 20 k.toNat ⟨#[]⟩
def markW : List ByteArray → Int → List ByteArray
  | [], _ => []
  | _ :: xs, k => markT k :: markW xs (k + 1)
theorem markW_len : ∀ (xs : List ByteArray) (k : Int), (markW xs k).length = xs.length
  | [], _ => rfl
  | _ :: xs, k => by simp [markW, markW_len xs]
theorem markW_at : ∀ (xs : List ByteArray) (k : Int) (i : Nat), i < xs.length → (markW xs k)[i]? = some (markT (k + i))
  | [], _, i, h => by simp at h
  | _ :: xs, k, 0, _ => by simp [markW]
  | _ :: xs, k, i + 1, h => by
    simp only [markW, List.getElem?_cons_succ]
    rw [markW_at xs (k + 1) i (by simpa using h)]
    have e : k + 1 + (i : Int) = k + ((i + 1 : Nat) : Int) := by omega
    rw [e]
theorem mixAt {α : Type} {M xs : List α} (hl : M.length = xs.length) {k : Nat} (hk : k < xs.length) : (M.take k ++ xs.drop k)[k]? = xs[k]? := by
  rw [List.getElem?_append_right (by simp; omega), List.length_take, Nat.min_eq_left (by omega), Nat.sub_self, List.getElem?_drop, Nat.add_zero]
theorem mixSet {α : Type} {M xs : List α} (hl : M.length = xs.length) {k : Nat} (hk : k < xs.length) {y : α} (hy : M[k]? = some y) : (M.take k ++ xs.drop k).set k y = M.take (k + 1) ++ xs.drop (k + 1) := by
  have h1 : (M.take k).length = k := by simp; omega
  rw [List.set_append_right _ _ (by omega), h1, Nat.sub_self, List.drop_eq_getElem_cons hk, List.set_cons_zero, List.take_add_one, hy]
  simp
theorem ba_append_size (a b : ByteArray) : (a ++ b).size = a.size + b.size := by simp
set_option maxHeartbeats 2000000 in
set_option maxRecDepth 100000 in
theorem markText_c {w : World} {k : Int} (h0 : 0 ≤ k) (h1 : k ≤ 4611686018427387904) :
    Calls Try.prog 83 #[.int .i64 k] w fun e w' => e = .returned (.string (markT k)) ∧ Below w.heap.size w w' := by
  by_cases hk0 : k ≤ 0
  · have HM := Lib.hid (show markT k = ⟨#[109, 48]⟩ from by unfold markT; rw [if_pos hk0])
    rw [HM.out]
    go_enter Try.func83, Try.ntmps83
    go_wp2
    go_ret
    exact ⟨rfl, Below.refl _ _⟩
  · obtain ⟨n, rfl⟩ := Int.eq_ofNat_of_zero_le h0
    obtain ⟨T, hT⟩ : ∃ T, T = digT 20 n ⟨#[]⟩ := ⟨_, rfl⟩
    have HM := Lib.hid (show markT (n : Int) = (⟨#[109]⟩ : ByteArray) ++ T from by unfold markT; rw [if_neg hk0, hT]; rfl)
    rw [HM.out]
    have H0 := Lib.hid hT
    have hn10 : n < 10 ^ 20 := by omega
    have HP := Lib.hid hn10
    clear hT hn10 h0
    go_enter Try.func83, Try.ntmps83
    go_wp2
    go_loopg [0, 3] 20 (fun g v s wr => ∃ (m : Nat) (u : ByteArray), v = .int .i64 m ∧ s = .string u ∧ m ≤ 4611686018427387904 ∧ u.size + g = 20 ∧ Hid (m < 10 ^ g) ∧ Hid (T = digT g m u) ∧ Hid (Below w.heap.size w wr))
    case atStart => exact ⟨n, ⟨#[]⟩, rfl, rfl, by omega, rfl, HP, H0, Lib.hid (Below.refl _ _)⟩
    case round =>
      clear H0 HP
      obtain ⟨m, u, rfl, rfl, hm, hu, HP, HT, HB⟩ := hrel
      by_cases hz : m = 0
      · subst hz
        have HF := Lib.hid (show T = u from by rw [HT.out]; cases gk with | zero => rfl | succ g => (unfold digT; rw [if_pos rfl]))
        have hsz : ¬ (9223372036854775807 < 1 + u.size) := by omega
        have hs1 : (⟨#[109]⟩ : ByteArray).size = 1 := rfl
        clear HT HP
        go_wp2
        go_ret
        exact ⟨by rw [HF.out]; rfl, HB.out⟩
      · cases gk with
        | zero => exact absurd HP.out (by simp; omega)
        | succ g =>
          have HT2 := Lib.hid (show T = digT g (m / 10) ((⟨#[48 + UInt8.ofNat (m % 10)]⟩ : ByteArray) ++ u) from by rw [HT.out]; exact if_neg hz)
          have hr : m % 10 < 10 := Nat.mod_lt _ (by omega)
          have hq : m / 10 ≤ m := Nat.div_le_self _ _
          have HP2 := Lib.hid (show m / 10 < 10 ^ g from by have h := HP.out; rw [Nat.pow_succ] at h; omega)
          have hm1 : (m : Int) % 10 = ((m % 10 : Nat) : Int) := by omega
          have hm2 : (m : Int) / 10 = ((m / 10 : Nat) : Int) := by omega
          have hm0 : 0 < m := by omega
          have hm0' : (0 : Int) < (m : Int) := by omega
          generalize m % 10 = r at HT2 hr hm1
          generalize m / 10 = q at HT2 hq HP2 hm2
          have hu8 : IntKind.u8.wrap (48 + (r : Int)) = 48 + (r : Int) := IntWalk.u8_in _ (by omega)
          have hcv : (convert 64 9 (.slice (some ⟨wr.heap.size, 0, none⟩) 1 1)).run Try.prog (wr.alloc (.cells #[.int .u8 (48 + (r : Int))] 5)) = .ok (.string ⟨#[48 + UInt8.ofNat r]⟩) (wr.alloc (.cells #[.int .u8 (48 + (r : Int))] 5)) := by
            have h := run_convert_bytes_back (P := Try.prog) (wr.alloc (.cells #[.int .u8 (48 + (r : Int))] 5)) 64 9 5 ⟨wr.heap.size, 0, none⟩ 1 [48 + UInt8.ofNat r] Try.underlying64 Try.underlying5 Try.underlying9 (fun j hj => by
              have hj0 : j = 0 := by simpa using hj
              subst hj0
              have e4 : (48 + UInt8.ofNat r).toNat = 48 + r := by simp; omega
              have e2 : (⟨wr.heap.size, 0, none⟩ : Addr).add 0 = ⟨wr.heap.size, 0, none⟩ := by unfold Addr.add; split <;> simp_all
              rw [e2, World.cell?_alloc_at _ _ _ 0 rfl]
              simp only [List.getElem_cons_zero, e4]
              rfl)
            exact h
          have hs1 : (⟨#[48 + UInt8.ofNat r]⟩ : ByteArray).size = 1 := rfl
          have hsz : ¬ (9223372036854775807 < 1 + u.size) := by omega
          have hwq : IntKind.i64.wrap (q : Int) = (q : Int) := IntWalk.i64_in _ (by omega)
          have hwr : IntKind.i64.wrap (r : Int) = (r : Int) := IntWalk.i64_in _ (by omega)
          have hsz2 := Lib.hid (show ((⟨#[48 + UInt8.ofNat r]⟩ : ByteArray) ++ u).size + g = 20 from by rw [ba_append_size, hs1]; omega)
          have hz1 := HB.out.size
          have HB2 := Lib.hid (HB.out.alloc hz1 (.cells #[.int .u8 (48 + (r : Int))] 5))
          obtain ⟨u2, hu2⟩ : ∃ x, x = (⟨#[48 + UInt8.ofNat r]⟩ : ByteArray) ++ u := ⟨_, rfl⟩
          rw [← hu2] at HT2 hsz2
          have hu2s := hu2.symm
          clear HT HP HB hu2
          go_wp2
          go_roundg g
          case measure => omega
          case rel => exact ⟨q, u2, rfl, rfl, by omega, hsz2.out, HP2, HT2, HB2⟩
set_option maxHeartbeats 2000000 in
set_option maxRecDepth 100000 in
theorem markStringS_in {lo hi : Nat} {w : World} {v : Value} {xs : List ByteArray} {k0 : Int} (h : NewIn OStrs lo hi w v xs) (h0 : 0 ≤ k0) (h1 : k0 + xs.length ≤ 4611686018427387904) :
    Calls Try.prog 25 #[v, .int .i64 k0] w (MarksIn OStrs lo hi w v (markW xs k0) (k0 + xs.length)) := by
  obtain ⟨F, hF, hn, hge⟩ := h
  have hlt := OStrs.held.lt _ _ _ _ hF
  have hrd : StrsR w v xs := OwnOf.reads (fun _ _ _ _ h => h.1) hF
  obtain ⟨a, c, rfl, _⟩ := hrd.shape
  have Hm := Lib.hid (markW_len xs k0)
  have Hat := Lib.hid (fun i (hi : i < xs.length) => markW_at xs k0 i hi)
  have Hge := Lib.hid hge
  have Hn := Lib.hid hn
  have Hlt := Lib.hid hlt
  have HF := Lib.hid hF
  clear hrd hge hn hlt hF
  go_enter Try.func25, Try.ntmps25
  go_wp2
  go_loopg [1, 5] xs.length (fun g x i wr => ∃ (k : Nat), i = .int .i64 k ∧ x = .int .i64 (k0 + k) ∧ k + g = xs.length ∧ Hid (OStrs wr (.slice a xs.length c) ((markW xs k0).take k ++ xs.drop k) F) ∧ Hid (OffIn lo hi w wr))
  case atStart => exact ⟨0, rfl, by simp, by omega, by simpa using HF, Lib.hid ⟨rfl, rfl, rfl, Nat.le_refl _, fun _ _ _ => rfl⟩⟩
  case round =>
    clear HF
    obtain ⟨k, rfl, rfl, hk, HO, HB⟩ := hrel
    by_cases hltk : k < xs.length
    · have C1 := Lib.hid (markText_c (w := wr) (k := k0 + k) (by omega) (by omega))
      have hki : (k : Int) < (xs.length : Int) := by omega
      have hcat := Hat.out k hltk
      generalize markT (k0 + k) = mt at C1 hcat
      go_wp2_with fail
      refine C1.out.mono ?_
      rintro e w2 ⟨rfl, hb2⟩
      have ho2 : OStrs w2 (.slice a xs.length c) ((markW xs k0).take k ++ xs.drop k) F := OStrs.held.keep _ _ _ _ _ HO.out fun b hb => hb2.block b (OStrs.held.lt _ _ _ _ HO.out b hb)
      obtain ⟨x, hx, _⟩ := at_lt hltk
      obtain ⟨b, c', u, G, hv, _, hbF, _, hcl, hfr, ⟨rfl, rfl⟩, _, _, _, hst⟩ := ho2.focus OStr.kept Hn.out (i := k) (x := x) (by rw [mixAt Hm.out hltk]; exact hx)
      obtain rfl : a = some ⟨b, 0, none⟩ := by simp at hv; exact hv.1
      have HO2 := Lib.hid (show OStrs (w2.setCell ⟨b, k, none⟩ (.string mt)) (.slice (some ⟨b, 0, none⟩) xs.length c) ((markW xs k0).take (k + 1) ++ xs.drop (k + 1)) F from by
        obtain ⟨F', hF', _, _, e⟩ := hst w2 (.string mt) mt [] ⟨rfl, rfl⟩ (by simp) (fun _ _ _ => rfl)
        rw [mixSet Hm.out hltk hcat] at hF'
        rw [e rfl] at hF'
        exact hF')
      have hbl := Hge.out b hbF
      have hbw := Hlt.out b hbF
      have HB2 := Lib.hid (show OffIn lo hi w (w2.setCell ⟨b, k, none⟩ (.string mt)) from ⟨hb2.os.trans HB.out.os, hb2.tape.trans HB.out.tape, hb2.output.trans HB.out.output, Nat.le_trans HB.out.size (by rw [World.size_setCell]; exact hb2.size), fun q hq hnq => (Below.heap_setCell _ _ _ _ (fun e => hnq (by have e2 : q = b := e; rw [e2]; exact hbl))).trans ((hb2.block q (Nat.lt_of_lt_of_le hq HB.out.size)).trans (HB.out.block q hq hnq))⟩)
      have hbw2 : b < w2.heap.size := Nat.lt_of_lt_of_le hbw (Nat.le_trans HB.out.size hb2.size)
      have hw1 : wrap64 (k0 + (k : Int) + 1) = k0 + (k : Int) + 1 := IntWalk.wrap64_in _ (by omega)
      clear hv hst ho2 HO HB hb2 C1 hcat hx hbl
      go_wp2
      go_roundg (xs.length - (k + 1))
      case measure => omega
      case rel => exact ⟨k + 1, by go_num, by first | go_num | (congr 1; omega), by omega, HO2, HB2⟩
    · obtain rfl : k = xs.length := by omega
      have HR := Lib.hid (show OStrs wr (.slice a xs.length c) (markW xs k0) F from by have h := HO.out; rw [List.take_of_length_le (by rw [Hm.out]; exact Nat.le_refl _), List.drop_of_length_le (Nat.le_refl _), List.append_nil] at h; exact h)
      clear HO
      go_wp2
      go_ret
      exact ⟨rfl, ⟨F, HR.out, Hn.out, Hge.out⟩, HB.out⟩
set_option maxHeartbeats 2000000 in
set_option maxRecDepth 100000 in
theorem heldStringS_same {w : World} {v : Value} {xs : List ByteArray} {k0 : Int} (h : StrsR w v (markW xs k0)) (h0 : 0 ≤ k0) (h1 : k0 + xs.length ≤ 4611686018427387904) :
    Calls Try.prog 26 #[v, .int .i64 k0] w fun e w' => e = .returned (.int .i64 (k0 + xs.length)) ∧ Below w.heap.size w w' := by
  obtain ⟨a, c, rfl, _, _, hc⟩ := h.shape
  have Hat := Lib.hid (fun i (hi : i < xs.length) => markW_at xs k0 i hi)
  rw [markW_len] at hc ⊢
  have Hc := Lib.hid hc
  clear hc h
  go_enter Try.func26, Try.ntmps26
  go_wp2
  go_loopg [1, 5] xs.length (fun g x i wr => ∃ (k : Nat), i = .int .i64 k ∧ x = .int .i64 (k0 + k) ∧ k + g = xs.length ∧ Hid (Below w.heap.size w wr))
  case atStart => exact ⟨0, rfl, by simp, by omega, Lib.hid (Below.refl _ _)⟩
  case round =>
    obtain ⟨k, rfl, rfl, hk, HB⟩ := hrel
    by_cases hlt : k < xs.length
    · obtain ⟨b, o, rfl, hb, hx0⟩ := Hc.out (by omega)
      obtain ⟨u, hu, rfl⟩ := hx0 k _ (Hat.out k hlt)
      have g0 := (HB.out.cell (p := ⟨b, o + k, none⟩) hb).trans hu
      have C1 := Lib.hid (fun w => markText_c (w := w) (k := k0 + k) (by omega) (by omega))
      have hki : (k : Int) < (xs.length : Int) := by omega
      generalize markT (k0 + k) = mt at C1 g0
      have hz := HB.out.size
      have hb4 : b < wr.heap.size := by omega
      have hS0 : wr.cell? ⟨b, o + k, none⟩ = some (.string mt) := g0
      have hSd : wr.drew.cell? ⟨b, o + k, none⟩ = some (.string mt) := g0
      have B1 := (Below.refl wr.heap.size wr).drew
      clear hx0 hu g0
      go_wp2
      go_region_held3 (fun w' => w'.cell? ⟨b, o + k, none⟩ = some (.string mt))
        (first | with_reducible exact hS1 | with_reducible exact hSd | with_reducible exact hS0 | go_keep)
        ((first
          | (go_at_call 83; (with_reducible refine (C1.out _).mono ?_); rintro e w2 ⟨rfl, hb2⟩; have hb3 := B1.trans hb2; have hS1 := (hb3.cell (p := ⟨b, o + k, none⟩) hb4).trans hS0; clear hb2)
          | fail))
      have HB2 := Lib.hid (HB.out.trans (hb3.mono hz))
      have hw1 : wrap64 (k0 + (k : Int) + 1) = k0 + (k : Int) + 1 := IntWalk.wrap64_in _ (by omega)
      clear hS0 hSd B1 hb3 hS1 C1 HB
      go_wp2
      go_roundg (xs.length - (k + 1))
      case measure => omega
      case rel => exact ⟨k + 1, by go_num, by first | go_num | (congr 1; omega), by omega, HB2⟩
    · obtain rfl : k = xs.length := by omega
      have hki : ¬ ((xs.length : Int) < (xs.length : Int)) := by omega
      clear Hc
      go_wp2
      go_ret
      exact ⟨rfl, HB.out⟩
end Go.Proofs.Ytdohepngandajaa
