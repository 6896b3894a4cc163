/-
  Texts of this claim joined: laws for its walks, contracts of the functions that the law reaches.
-/
import Derived.Test.YtcilgihmaaobeaaRows
import Derived.Test.YtcilgihmaaobeaaLabelsOfM1
import Derived.Test.YtcilgihmaaobeaaLabelsOfM2
import Derived.Test.YtcilgihmaaobeaaLabelsOfM4
import Derived.Test.YtcilgihmaaobeaaLabelsOfM7
import Derived.Laws.IdiomStrings
import Derived.IntWalk
import Derived.BigQuiet
import Derived.Deep.RegionHeld3
import Derived.Deep.DeepCutAuto
import Derived.Lib.Index
import Derived.Lib.IndexMore
import Derived.Laws.DeepStrings4
import Derived.Test.YtcilgihmaaobeaaLabelsOfM5
import Derived.Laws.Cover1
import Derived.Test.YtcilgihmaaobeaaLabelsOfM6
section
/-
  The laws' helpers on slices of texts.
-/
namespace Go.Proofs.Ytcilgihmaaobeaa
open Go.RowKit Go.Deep Go.Sd
set_option linter.unusedSimpArgs false
abbrev OStrs : OwnRel (List ByteArray) := OwnOf 9 (OValR Value.string)
theorem OStrs.kept : Kept OStrs := OwnOf.kept OStr.kept
theorem OStrs.held : Held OStrs := OStrs.kept.held
abbrev StrsR : World → Value → List ByteArray → Prop := SlOf (ValR Value.string)
theorem StrsR.frame : Framed StrsR := SlOf.frame (fun _ _ _ _ h _ => h)
theorem New.strs {lo : Nat} {w : World} {v : Value} {xs : List ByteArray} (h : New OStrs lo w v xs) : StrsR w v xs := by obtain ⟨F, hF, _⟩ := h; exact OwnOf.reads (fun _ _ _ _ h => h.1) hF
set_option maxHeartbeats 400000 in
theorem eqStringS_same {w : World} {v1 v2 : Value} {xs : List ByteArray} (h1 : StrsR w v1 xs) (h2 : StrsR w v2 xs) :
    Calls Try.prog 72 #[v1, v2] w (Reads w (.bool true)) := by
  have hlen1 := h1.len
  obtain ⟨a1, c1, rfl, _, _, hc1⟩ := h1.shape
  obtain ⟨a2, c2, rfl, _, _, hc2⟩ := h2.shape
  clear h1 h2
  have hl1 : ((xs.length : Int) != xs.length) = false := by simp
  have Hc1 := Lib.hid hc1
  have Hc2 := Lib.hid hc2
  clear hc1 hc2
  go_enter Try.func72, Try.ntmps72
  go_wp2
  go_loopg [5] xs.length (fun g i wr => ∃ (k : Nat), i = .int .i64 k ∧ k + g = xs.length ∧ Drawn w wr)
  case atStart => exact ⟨0, rfl, by omega, Drawn.refl _⟩
  case round =>
    obtain ⟨k, rfl, hk, hdr⟩ := hrel
    by_cases hlt : k < xs.length
    · obtain ⟨b1, o1, rfl, _, hx1⟩ := Hc1.out (by omega)
      obtain ⟨b2, o2, rfl, _, hx2⟩ := Hc2.out (by omega)
      obtain ⟨x, hx, _⟩ := at_lt hlt
      obtain ⟨u1, hu1, rfl⟩ := hx1 k x hx
      obtain ⟨u2, hu2, rfl⟩ := hx2 k x hx
      rw [← hdr.cell] at hu1 hu2
      have hi1 : (k : Int) < (xs.length : Int) := by omega
      clear hx1 hx2 hx
      go_wp2
      go_quiet (fail)
      go_wp2
      go_roundg (xs.length - (k + 1))
      case measure => omega
      case rel => exact ⟨k + 1, by go_num, by omega, hdr.drewN _⟩
    · go_wp2
      go_ret
      exact ⟨rfl, hdr⟩
/-- Digits. -/
def digT : Nat → Nat → ByteArray → ByteArray
  | 0, _, s => s
  | g + 1, n, s => if n = 0 then s else digT g (n / 10) ((⟨#[48 + UInt8.ofNat (n % 10)]⟩ : ByteArray) ++ s)
def markT (k : Int) : ByteArray := if k ≤ 0 then ⟨#[109, 48]⟩ else (⟨#[109]⟩ : ByteArray) ++ digT 20 k.toNat ⟨#[]⟩
def markW : List ByteArray → Int → List ByteArray
  | [], _ => []
  | _ :: xs, k => markT k :: markW xs (k + 1)
theorem markW_len : ∀ (xs : List ByteArray) (k : Int), (markW xs k).length = xs.length
  | [], _ => rfl
  | _ :: xs, k => by simp [markW, markW_len xs]
theorem markW_at : ∀ (xs : List ByteArray) (k : Int) (i : Nat), i < xs.length → (markW xs k)[i]? = some (markT (k + i))
  | [], _, i, h => by simp at h
  | _ :: xs, k, 0, _ => by simp [markW]
  | _ :: xs, k, i + 1, h => by
    simp only [markW, List.getElem?_cons_succ]
    rw [markW_at xs (k + 1) i (by simpa using h)]
    have e : k + 1 + (i : Int) = k + ((i + 1 : Nat) : Int) := by omega
    rw [e]
theorem mixAt {α : Type} {M xs : List α} (hl : M.length = xs.length) {k : Nat} (hk : k < xs.length) : (M.take k ++ xs.drop k)[k]? = xs[k]? := by
  rw [List.getElem?_append_right (by simp; omega), List.length_take, Nat.min_eq_left (by omega), Nat.sub_self, List.getElem?_drop, Nat.add_zero]
theorem mixSet {α : Type} {M xs : List α} (hl : M.length = xs.length) {k : Nat} (hk : k < xs.length) {y : α} (hy : M[k]? = some y) : (M.take k ++ xs.drop k).set k y = M.take (k + 1) ++ xs.drop (k + 1) := by
  have h1 : (M.take k).length = k := by simp; omega
  rw [List.set_append_right _ _ (by omega), h1, Nat.sub_self, List.drop_eq_getElem_cons hk, List.set_cons_zero, List.take_add_one, hy]
  simp
theorem ba_append_size (a b : ByteArray) : (a ++ b).size = a.size + b.size := by simp
set_option maxHeartbeats 2000000 in
set_option maxRecDepth 100000 in
theorem markText_c {w : World} {k : Int} (h0 : 0 ≤ k) (h1 : k ≤ 4611686018427387904) :
    Calls Try.prog 98 #[.int .i64 k] w fun e w' => e = .returned (.string (markT k)) ∧ Below w.heap.size w w' := by
  by_cases hk0 : k ≤ 0
  · have HM := Lib.hid (show markT k = ⟨#[109, 48]⟩ from by unfold markT; rw [if_pos hk0])
    rw [HM.out]
    go_enter Try.func98, Try.ntmps98
    go_wp2
    go_ret
    exact ⟨rfl, Below.refl _ _⟩
  · obtain ⟨n, rfl⟩ := Int.eq_ofNat_of_zero_le h0
    obtain ⟨T, hT⟩ : ∃ T, T = digT 20 n ⟨#[]⟩ := ⟨_, rfl⟩
    have HM := Lib.hid (show markT (n : Int) = (⟨#[109]⟩ : ByteArray) ++ T from by unfold markT; rw [if_neg hk0, hT]; rfl)
    rw [HM.out]
    have H0 := Lib.hid hT
    have hn10 : n < 10 ^ 20 := by omega
    have HP := Lib.hid hn10
    clear hT hn10 h0
    go_enter Try.func98, Try.ntmps98
    go_wp2
    go_loopg [0, 3] 20 (fun g v s wr => ∃ (m : Nat) (u : ByteArray), v = .int .i64 m ∧ s = .string u ∧ m ≤ 4611686018427387904 ∧ u.size + g = 20 ∧ Hid (m < 10 ^ g) ∧ Hid (T = digT g m u) ∧ Hid (Below w.heap.size w wr))
    case atStart => exact ⟨n, ⟨#[]⟩, rfl, rfl, by omega, rfl, HP, H0, Lib.hid (Below.refl _ _)⟩
    case round =>
      clear H0 HP
      obtain ⟨m, u, rfl, rfl, hm, hu, HP, HT, HB⟩ := hrel
      by_cases hz : m = 0
      · subst hz
        have HF := Lib.hid (show T = u from by rw [HT.out]; cases gk with | zero => rfl | succ g => (unfold digT; rw [if_pos rfl]))
        have hsz : ¬ (9223372036854775807 < 1 + u.size) := by omega
        have hs1 : (⟨#[109]⟩ : ByteArray).size = 1 := rfl
        clear HT HP
        go_wp2
        go_ret
        exact ⟨by rw [HF.out]; rfl, HB.out⟩
      · cases gk with
        | zero => exact absurd HP.out (by simp; omega)
        | succ g =>
          have HT2 := Lib.hid (show T = digT g (m / 10) ((⟨#[48 + UInt8.ofNat (m % 10)]⟩ : ByteArray) ++ u) from by rw [HT.out]; exact if_neg hz)
          have hr : m % 10 < 10 := Nat.mod_lt _ (by omega)
          have hq : m / 10 ≤ m := Nat.div_le_self _ _
          have HP2 := Lib.hid (show m / 10 < 10 ^ g from by have h := HP.out; rw [Nat.pow_succ] at h; omega)
          have hm1 : (m : Int) % 10 = ((m % 10 : Nat) : Int) := by omega
          have hm2 : (m : Int) / 10 = ((m / 10 : Nat) : Int) := by omega
          have hm0 : 0 < m := by omega
          have hm0' : (0 : Int) < (m : Int) := by omega
          generalize m % 10 = r at HT2 hr hm1
          generalize m / 10 = q at HT2 hq HP2 hm2
          have hu8 : IntKind.u8.wrap (48 + (r : Int)) = 48 + (r : Int) := IntWalk.u8_in _ (by omega)
          have hcv : (convert 22 9 (.slice (some ⟨wr.heap.size, 0, none⟩) 1 1)).run Try.prog (wr.alloc (.cells #[.int .u8 (48 + (r : Int))] 5)) = .ok (.string ⟨#[48 + UInt8.ofNat r]⟩) (wr.alloc (.cells #[.int .u8 (48 + (r : Int))] 5)) := by
            have h := run_convert_bytes_back (P := Try.prog) (wr.alloc (.cells #[.int .u8 (48 + (r : Int))] 5)) 22 9 5 ⟨wr.heap.size, 0, none⟩ 1 [48 + UInt8.ofNat r] Try.underlying22 Try.underlying5 Try.underlying9 (fun j hj => by
              have hj0 : j = 0 := by simpa using hj
              subst hj0
              have e4 : (48 + UInt8.ofNat r).toNat = 48 + r := by simp; omega
              have e2 : (⟨wr.heap.size, 0, none⟩ : Addr).add 0 = ⟨wr.heap.size, 0, none⟩ := by unfold Addr.add; split <;> simp_all
              rw [e2, World.cell?_alloc_at _ _ _ 0 rfl]
              simp only [List.getElem_cons_zero, e4]
              rfl)
            exact h
          have hs1 : (⟨#[48 + UInt8.ofNat r]⟩ : ByteArray).size = 1 := rfl
          have hsz : ¬ (9223372036854775807 < 1 + u.size) := by omega
          have hwq : IntKind.i64.wrap (q : Int) = (q : Int) := IntWalk.i64_in _ (by omega)
          have hwr : IntKind.i64.wrap (r : Int) = (r : Int) := IntWalk.i64_in _ (by omega)
          have hsz2 := Lib.hid (show ((⟨#[48 + UInt8.ofNat r]⟩ : ByteArray) ++ u).size + g = 20 from by rw [ba_append_size, hs1]; omega)
          have hz1 := HB.out.size
          have HB2 := Lib.hid (HB.out.alloc hz1 (.cells #[.int .u8 (48 + (r : Int))] 5))
          obtain ⟨u2, hu2⟩ : ∃ x, x = (⟨#[48 + UInt8.ofNat r]⟩ : ByteArray) ++ u := ⟨_, rfl⟩
          rw [← hu2] at HT2 hsz2
          have hu2s := hu2.symm
          clear HT HP HB hu2
          go_wp2
          go_roundg g
          case measure => omega
          case rel => exact ⟨q, u2, rfl, rfl, by omega, hsz2.out, HP2, HT2, HB2⟩
set_option maxHeartbeats 2000000 in
set_option maxRecDepth 100000 in
theorem markStringS_in {lo hi : Nat} {w : World} {v : Value} {xs : List ByteArray} {k0 : Int} (h : NewIn OStrs lo hi w v xs) (h0 : 0 ≤ k0) (h1 : k0 + xs.length ≤ 4611686018427387904) :
    Calls Try.prog 73 #[v, .int .i64 k0] w (MarksIn OStrs lo hi w v (markW xs k0) (k0 + xs.length)) := by
  obtain ⟨F, hF, hn, hge⟩ := h
  have hlt := OStrs.held.lt _ _ _ _ hF
  have hrd : StrsR w v xs := OwnOf.reads (fun _ _ _ _ h => h.1) hF
  obtain ⟨a, c, rfl, _⟩ := hrd.shape
  have Hm := Lib.hid (markW_len xs k0)
  have Hat := Lib.hid (fun i (hi : i < xs.length) => markW_at xs k0 i hi)
  have Hge := Lib.hid hge
  have Hn := Lib.hid hn
  have Hlt := Lib.hid hlt
  have HF := Lib.hid hF
  clear hrd hge hn hlt hF
  go_enter Try.func73, Try.ntmps73
  go_wp2
  go_loopg [1, 5] xs.length (fun g x i wr => ∃ (k : Nat), i = .int .i64 k ∧ x = .int .i64 (k0 + k) ∧ k + g = xs.length ∧ Hid (OStrs wr (.slice a xs.length c) ((markW xs k0).take k ++ xs.drop k) F) ∧ Hid (OffIn lo hi w wr))
  case atStart => exact ⟨0, rfl, by simp, by omega, by simpa using HF, Lib.hid ⟨rfl, rfl, rfl, Nat.le_refl _, fun _ _ _ => rfl⟩⟩
  case round =>
    clear HF
    obtain ⟨k, rfl, rfl, hk, HO, HB⟩ := hrel
    by_cases hltk : k < xs.length
    · have C1 := Lib.hid (markText_c (w := wr) (k := k0 + k) (by omega) (by omega))
      have hki : (k : Int) < (xs.length : Int) := by omega
      have hcat := Hat.out k hltk
      generalize markT (k0 + k) = mt at C1 hcat
      go_wp2_with fail
      refine C1.out.mono ?_
      rintro e w2 ⟨rfl, hb2⟩
      have ho2 : OStrs w2 (.slice a xs.length c) ((markW xs k0).take k ++ xs.drop k) F := OStrs.held.keep _ _ _ _ _ HO.out fun b hb => hb2.block b (OStrs.held.lt _ _ _ _ HO.out b hb)
      obtain ⟨x, hx, _⟩ := at_lt hltk
      obtain ⟨b, c', u, G, hv, _, hbF, _, hcl, hfr, ⟨rfl, rfl⟩, _, _, _, hst⟩ := ho2.focus OStr.kept Hn.out (i := k) (x := x) (by rw [mixAt Hm.out hltk]; exact hx)
      obtain rfl : a = some ⟨b, 0, none⟩ := by simp at hv; exact hv.1
      have HO2 := Lib.hid (show OStrs (w2.setCell ⟨b, k, none⟩ (.string mt)) (.slice (some ⟨b, 0, none⟩) xs.length c) ((markW xs k0).take (k + 1) ++ xs.drop (k + 1)) F from by
        obtain ⟨F', hF', _, _, e⟩ := hst w2 (.string mt) mt [] ⟨rfl, rfl⟩ (by simp) (fun _ _ _ => rfl)
        rw [mixSet Hm.out hltk hcat] at hF'
        rw [e rfl] at hF'
        exact hF')
      have hbl := Hge.out b hbF
      have hbw := Hlt.out b hbF
      have HB2 := Lib.hid (show OffIn lo hi w (w2.setCell ⟨b, k, none⟩ (.string mt)) from ⟨hb2.os.trans HB.out.os, hb2.tape.trans HB.out.tape, hb2.output.trans HB.out.output, Nat.le_trans HB.out.size (by rw [World.size_setCell]; exact hb2.size), fun q hq hnq => (Below.heap_setCell _ _ _ _ (fun e => hnq (by have e2 : q = b := e; rw [e2]; exact hbl))).trans ((hb2.block q (Nat.lt_of_lt_of_le hq HB.out.size)).trans (HB.out.block q hq hnq))⟩)
      have hbw2 : b < w2.heap.size := Nat.lt_of_lt_of_le hbw (Nat.le_trans HB.out.size hb2.size)
      have hw1 : wrap64 (k0 + (k : Int) + 1) = k0 + (k : Int) + 1 := IntWalk.wrap64_in _ (by omega)
      clear hv hst ho2 HO HB hb2 C1 hcat hx hbl
      go_wp2
      go_roundg (xs.length - (k + 1))
      case measure => omega
      case rel => exact ⟨k + 1, by go_num, by first | go_num | (congr 1; omega), by omega, HO2, HB2⟩
    · obtain rfl : k = xs.length := by omega
      have HR := Lib.hid (show OStrs wr (.slice a xs.length c) (markW xs k0) F from by have h := HO.out; rw [List.take_of_length_le (by rw [Hm.out]; exact Nat.le_refl _), List.drop_of_length_le (Nat.le_refl _), List.append_nil] at h; exact h)
      clear HO
      go_wp2
      go_ret
      exact ⟨rfl, ⟨F, HR.out, Hn.out, Hge.out⟩, HB.out⟩
end Go.Proofs.Ytcilgihmaaobeaa
end

section
/-
  Shifts as plain values: a number of letters and forbidden words; what occurs in a text.
-/
namespace Go.Proofs.Ytcilgihmaaobeaa
open Go.RowKit Go.Deep Go.Sd
abbrev Sh := Int × List ByteArray
/-- A slice of texts. -/
abbrev TsR : World → Value → List ByteArray → Prop := SlOf (ValR Value.string)
theorem TsR.frame : Framed TsR := SlOf.frame (fun _ _ _ _ h _ => h)
/-- Does a text occur in another? -/
def occB (w f : ByteArray) : Bool := Lib.contains w.data.toList f.data.toList
/-- Does a text begin at a place of another? -/
def occI (w f : ByteArray) (i : Nat) : Prop := i + f.size ≤ w.size ∧ w.extract i (i + f.size) = f
def avoM (F : List ByteArray) (w : ByteArray) : Bool := F.all fun f => !occB w f
theorem size_list (s : ByteArray) : s.data.toList.length = s.size := by show s.data.toList.length = s.data.size; exact Array.length_toList
theorem extract_list (w : ByteArray) (i j : Nat) : (w.extract i j).data.toList = (w.data.toList.drop i).take (j - i) := by
  simp [List.take_drop]
theorem occI_iff (w f : ByteArray) (i : Nat) (h : i + f.size ≤ w.size) : w.extract i (i + f.size) = f ↔ Lib.occAt w.data.toList f.data.toList i = true := by
  rw [Lib.occAt_iff_take _ _ _ (by rw [size_list, size_list]; exact h), beq_iff_eq, size_list]
  constructor
  · intro e
    have := congrArg (fun b : ByteArray => b.data.toList) e
    simp only [extract_list] at this
    rw [show i + f.size - i = f.size by omega] at this
    exact this
  · intro e
    apply ByteArray.ext
    apply Array.toList_inj.1
    rw [extract_list, show i + f.size - i = f.size by omega]
    exact e
theorem occB_iff (w f : ByteArray) : occB w f = true ↔ ∃ i, occI w f i := by
  unfold occB Lib.contains
  rw [decide_eq_true_eq]
  constructor
  · intro h
    rcases Lib.index_spec w.data.toList f.data.toList with ⟨h1, -⟩ | ⟨i, h1, h2, h3, -⟩
    · omega
    · have hr := Lib.index_room _ _ h
      rw [size_list, size_list] at hr
      have hle : i + f.size ≤ w.size := by omega
      exact ⟨i, hle, (occI_iff w f i hle).2 h3⟩
  · rintro ⟨i, h1, h2⟩
    have h3 := (occI_iff w f i h1).1 h2
    rcases Lib.index_spec w.data.toList f.data.toList with ⟨-, h4⟩ | ⟨j, h4, -⟩
    · have := h4 i (by rw [size_list]; omega)
      rw [this] at h3
      cases h3
    · omega
theorem occB_no {w f : ByteArray} (h : ∀ i, ¬ occI w f i) : occB w f = false := by
  cases e : occB w f with
  | false => rfl
  | true =>
    obtain ⟨i, hi⟩ := (occB_iff w f).1 e
    exact absurd hi (h i)
/-- A shift in memory. -/
def ShR (w : World) (v : Value) (s : Sh) : Prop := ∃ va, v = .agg #[.int .i64 s.1, va] ∧ TsR w va s.2
theorem ShR.frame : Framed ShR := fun _ _ _ _ ⟨va, e, h⟩ hb => ⟨va, e, TsR.frame _ _ _ _ h hb⟩
theorem toList_data (s : ByteArray) : s.toList = s.data.toList := ByteArray.toList_eq s
theorem bytes_ext {a b : ByteArray} (h : a.toList = b.toList) : a = b := by
  rw [toList_data, toList_data] at h
  exact ByteArray.ext (Array.toList_inj.1 h)
/-- Is a text among some? -/
def hasB (F : List ByteArray) (s : ByteArray) : Bool := F.any fun f => f.toList == s.toList
theorem hasB_iff (F : List ByteArray) (s : ByteArray) : hasB F s = true ↔ s ∈ F := by
  unfold hasB
  rw [List.any_eq_true]
  constructor
  · rintro ⟨f, hf, he⟩
    rw [beq_iff_eq] at he
    rw [← bytes_ext he]
    exact hf
  · intro h
    exact ⟨s, h, by simp⟩
theorem hasB_yes {F : List ByteArray} {s : ByteArray} (h : s ∈ F) : hasB F s = true := (hasB_iff F s).2 h
theorem hasB_no {F : List ByteArray} {s : ByteArray} (h : ∀ (k : Nat) (f : ByteArray), F[k]? = some f → f ≠ s) : hasB F s = false := by
  cases e : hasB F s with
  | false => rfl
  | true =>
    obtain ⟨k, hk⟩ := List.getElem?_of_mem ((hasB_iff F s).1 e)
    exact absurd rfl (h k s hk)
end Go.Proofs.Ytcilgihmaaobeaa
end

section
/-
  A pair of slices in a variable of its own: the block that the laws' own walks lay it in.
-/
namespace Go.Sd
open Go.RowKit Go.Deep

def boxW (w : World) (ty : TypeId) (v1 v2 : Value) : World := ((w.alloc (.cells #[.slice none 0 0, .slice none 0 0] ty)).setCell ⟨w.heap.size, 0, none⟩ v1).setCell ⟨w.heap.size, 1, none⟩ v2
theorem boxW_ex (w : World) (ty : TypeId) (v1 v2 : Value) : ∃ w', boxW w ty v1 v2 = w' ∧ Below w.heap.size w w' ∧ w'.cell? ⟨w.heap.size, 0, none⟩ = some v1 ∧ w'.cell? ⟨w.heap.size, 1, none⟩ = some v2 ∧ w.heap.size < w'.heap.size := by
  have h0 : (w.alloc (.cells #[.slice none 0 0, .slice none 0 0] ty)).cell? ⟨w.heap.size, 0, none⟩ = some (.slice none 0 0) := by simp
  have h1 : (w.alloc (.cells #[.slice none 0 0, .slice none 0 0] ty)).cell? ⟨w.heap.size, 1, none⟩ = some (.slice none 0 0) := by simp
  refine ⟨_, rfl, (((Below.refl w.heap.size w).alloc (Nat.le_refl _) _).setCell (Nat.le_refl _) _).setCell (Nat.le_refl _) _, ?_, ?_, ?_⟩
  · exact (World.cell?_setCell_other _ _ _ _ (by simp)).trans (World.cell?_setCell_same _ _ _ h0)
  · exact World.cell?_setCell_same _ _ _ ((World.cell?_setCell_other _ _ _ _ (by simp)).trans h1)
  · simp [boxW]
theorem boxA_ex (w : World) (ty : TypeId) (v1 v2 : Value) : ∃ w', w.alloc (.cells #[v1, v2] ty) = w' ∧ Below w.heap.size w w' ∧ w'.cell? ⟨w.heap.size, 0, none⟩ = some v1 ∧ w'.cell? ⟨w.heap.size, 1, none⟩ = some v2 ∧ w.heap.size < w'.heap.size :=
  ⟨_, rfl, (Below.refl w.heap.size w).alloc (Nat.le_refl _) _, by simp, by simp, by simp⟩
theorem OffIn.cell {lo hi : Nat} {w w' : World} (h : OffIn lo hi w w') {b o : Nat} (hb : b < w.heap.size) (hd : b < lo ∨ hi ≤ b) : w'.cell? ⟨b, o, none⟩ = w.cell? ⟨b, o, none⟩ := by
  have h1 := h.block b hb (by omega)
  simp only [World.cell?, h1]
end Go.Sd
end

section
/-
  The laws' helpers on shifts.
-/
namespace Go.Proofs.Ytcilgihmaaobeaa
open Go.RowKit Go.Deep Go.Sd
set_option linter.unusedSimpArgs false
/-- A shift of the call's own. -/
def OSh : OwnRel Sh := fun w v z F => ∃ va, v = .agg #[.int .i64 z.1, va] ∧ OStrs w va z.2 F
theorem OSh.held : Held OSh :=
  ⟨fun w w' v x F ⟨va, e, h⟩ hk => ⟨va, e, OStrs.held.keep _ _ _ _ _ h hk⟩, fun w v x F ⟨_, _, h⟩ b hb => OStrs.held.lt _ _ _ _ h b hb⟩
theorem OSh.reads {w : World} {v : Value} {z : Sh} {F : List Nat} (h : OSh w v z F) : ShR w v z := by
  obtain ⟨va, e, h⟩ := h
  exact ⟨va, e, OwnOf.reads (fun _ _ _ _ h => h.1) h⟩
theorem New.sh {lo : Nat} {w : World} {v : Value} {z : Sh} (h : New OSh lo w v z) : ShR w v z := by obtain ⟨F, h, _⟩ := h; exact h.reads
set_option maxHeartbeats 1000000 in
theorem szStringS_c {w : World} {v : Value} {xs : List ByteArray} {l : Int} (h : TsR w v xs) (hm : ∀ x, x ∈ xs → x.size ≤ maxLen) (h0 : 0 ≤ l) (h1 : l ≤ 1048576) :
    Calls Try.prog 62 #[v, .int .i64 l] w fun e w' => w = w' ∧ ∃ r : Int, e = .returned (.int .i64 r) ∧ r ≤ l ∧ -1 ≤ r ∧ (0 ≤ r → (xs.length : Int) ≤ l ∧ ∀ x, x ∈ xs → (x.size : Int) ≤ l) := by
  have hlen := h.len
  obtain ⟨a, c, rfl, -, -, hcell⟩ := h.shape
  obtain ⟨n, hn⟩ : ∃ n, n = xs.length := ⟨_, rfl⟩
  have Hn := Lib.hid hn
  rw [← hn] at hlen hcell ⊢
  have Hcell := Lib.hid hcell
  have Hm := Lib.hid hm
  clear h hcell hm hn
  by_cases ht : l - n < 0
  · go_enter Try.func62, Try.ntmps62
    go_wp2
    go_ret
    exact ⟨rfl, -1, rfl, by omega, by omega, fun h => by omega⟩
  · go_enter Try.func62, Try.ntmps62
    go_wp2
    go_loopg [1, 5] n (fun g x i wr => ∃ (k : Nat) (r : Int), i = .int .i64 k ∧ x = .int .i64 r ∧ k + g = n ∧ 0 ≤ r ∧ r ≤ l ∧ Hid (∀ (j : Nat) (x : ByteArray), j < k → xs[j]? = some x → (x.size : Int) ≤ l) ∧ w = wr)
    case atStart => exact ⟨0, _, rfl, rfl, by omega, by omega, by omega, Lib.hid (fun j x hj => absurd hj (Nat.not_lt_zero _)), rfl⟩
    case round =>
      obtain ⟨k, r, rfl, rfl, hk, hr0, hr1, HK, rfl⟩ := hrel
      by_cases hlt : k < n
      · obtain ⟨g, rfl⟩ : ∃ x, gk = x + 1 := ⟨gk - 1, by omega⟩
        obtain ⟨b, o, rfl, -, hx⟩ := Hcell.out (by omega)
        obtain ⟨x, hxk, -⟩ := at_lt (xs := xs) (k := k) (by rw [← Hn.out]; exact hlt)
        obtain ⟨u, hu, hu2⟩ := hx k x hxk
        have hu2' : u = .string x := hu2
        subst hu2'
        have hki : (k : Int) < (n : Int) := by omega
        have hxm := Hm.out x (List.mem_of_getElem? hxk)
        unfold maxLen at hxm
        have hw : wrap64 (r - (x.size : Int)) = r - (x.size : Int) := IntWalk.wrap64_in _ (by omega)
        by_cases hs : r - (x.size : Int) < 0
        · clear hx hu2 hxk HK
          go_wp2
          go_ret
          exact ⟨rfl, -1, rfl, by omega, by omega, fun h => by omega⟩
        · have HK2 := Lib.hid (show ∀ (j : Nat) (x : ByteArray), j < k + 1 → xs[j]? = some x → (x.size : Int) ≤ l from fun j y hj hy => by
            by_cases e : j = k
            · rw [e, hxk] at hy
              cases hy
              omega
            · exact HK.out j y (by omega) hy)
          have hr2 : 0 ≤ r - (x.size : Int) := by omega
          have hr3 : r - (x.size : Int) ≤ l := by omega
          clear hx hu2 hxk HK
          go_wp2
          go_roundg g
          case measure => omega
          case rel => exact ⟨k + 1, r - (x.size : Int), by go_num, rfl, by omega, hr2, hr3, HK2, rfl⟩
      · have hki : ¬ ((k : Int) < (n : Int)) := by omega
        have HF := Lib.hid (show ∀ x, x ∈ xs → (x.size : Int) ≤ l from fun x hx => by
          obtain ⟨j, hj⟩ := List.getElem?_of_mem hx
          exact HK.out j x (by have := (List.getElem?_eq_some_iff.1 hj).1; rw [← Hn.out] at this; omega) hj)
        clear HK
        go_wp2
        go_ret
        exact ⟨rfl, r, rfl, hr1, by omega, fun _ => ⟨by omega, HF.out⟩⟩
set_option maxHeartbeats 1000000 in
theorem szShift_c {w : World} {v : Value} {z : Sh} {l : Int} (h : ShR w v z) (hm : ∀ x, x ∈ z.2 → x.size ≤ maxLen) (h0 : 0 ≤ l) (h1 : l ≤ 1048576) :
    Calls Try.prog 26 #[v, .int .i64 l] w fun e w' => Below w.heap.size w w' ∧ ∃ r : Int, e = .returned (.int .i64 r) ∧ r ≤ l ∧ -1 ≤ r ∧ (0 ≤ r → (z.2.length : Int) ≤ l ∧ ∀ x, x ∈ z.2 → (x.size : Int) ≤ l) := by
  obtain ⟨L, F⟩ := z
  obtain ⟨va, rfl, ht⟩ := h
  simp only at ht hm ⊢
  obtain ⟨w0, e0, hb0, c0, c1, m0⟩ := boxA_ex w 41 (.int .i64 L) va
  have HZ := Lib.hid (szStringS_c (TsR.frame _ _ _ _ ht hb0) hm h0 h1)
  obtain ⟨va1, va2, rfl, -⟩ := ht.shape
  generalize F.length = fl at c1 e0 HZ ⊢
  have HB := Lib.hid hb0
  clear ht hm hb0
  go_enter Try.func26, Try.ntmps26
  go_wp2_with fail
  (with_reducible refine HZ.out.mono ?_)
  rintro e w9 ⟨hw9, r, rfl, hr1, hr2, hr3⟩
  rw [← hw9]
  have HR3 := Lib.hid hr3
  clear hw9 w9 HZ hr3
  by_cases hr : r < 0
  · go_wp2
    go_ret
    exact ⟨HB.out, -1, rfl, by omega, by omega, fun h => by omega⟩
  · go_wp2
    go_ret
    exact ⟨HB.out, r, rfl, hr1, hr2, HR3.out⟩
set_option maxHeartbeats 1000000 in
theorem toStringS_c {w : World} {v : Value} {xs : List ByteArray} (h : TsR w v xs) (hsz : xs.length ≤ 1048576) :
    Calls Try.prog 66 #[v] w (Makes OStrs w xs) := by
  obtain ⟨a, c, rfl, _, _, hcell⟩ := h.shape
  clear h
  obtain ⟨n, hn⟩ : ∃ n, n = xs.length := ⟨_, rfl⟩
  rw [← hn] at hsz hcell ⊢
  have Hn := Lib.hid hn
  have Hcell := Lib.hid hcell
  clear hn hcell
  have hmk := fun w => run_make_row' (P := Try.prog) 36 9 (.string ⟨#[]⟩) 16 Try.underlying36 infoStr rfl .i64 .i64 n (by omega) (by omega) (w := w)
  have HN0 := Lib.hid (show New OStrs w.heap.size (w.alloc (.cells (madeCells #[.string ⟨#[]⟩] n) 9)) (.slice (some ⟨w.heap.size, 0, none⟩) n n) (xs.take 0 ++ List.replicate (n - 0) ⟨#[]⟩) from by
    have := New.made (R := OValR Value.string) 9 w (.string ⟨#[]⟩) ⟨#[]⟩ n (Nat.le_refl _) (by omega) (fun _ => ⟨rfl, rfl⟩)
    simpa using this)
  go_enter Try.func66, Try.ntmps66
  go_wp2
  go_loopg [4] n (fun g i wr => ∃ (k : Nat), i = .int .i64 k ∧ k + g = n ∧ Hid (New OStrs w.heap.size wr (.slice (some ⟨w.heap.size, 0, none⟩) n n) (xs.take k ++ List.replicate (n - k) ⟨#[]⟩)) ∧ Hid (Below w.heap.size w wr))
  case atStart => exact ⟨0, rfl, by omega, HN0, Lib.hid ((Below.refl _ _).alloc (Nat.le_refl _) _)⟩
  case round =>
    clear HN0 hmk
    obtain ⟨k, rfl, hk, HN, HB⟩ := hrel
    by_cases hlt : k < n
    · obtain ⟨b, o, rfl, hb, hx0⟩ := Hcell.out (by omega)
      obtain ⟨x, hx, _⟩ := at_lt (xs := xs) (k := k) (by have := Hn.out; omega)
      obtain ⟨u, hu, rfl⟩ := hx0 k x hx
      have hu1 : wr.cell? ⟨b, o + k, none⟩ = some (.string x) := (HB.out.cell (p := ⟨b, o + k, none⟩) hb).trans hu
      obtain ⟨b', c', hv, _, _, _, hcl, hfr, hst⟩ := HN.out.val_at (fun _ => rfl) (fill_at xs ⟨#[]⟩ k n Hn.out hlt)
      obtain rfl : b' = w.heap.size := by simp at hv; exact hv.1.symm
      have hst1 := hst x
      rw [fill_step xs ⟨#[]⟩ k n Hn.out hlt x hx] at hst1
      have HS := Lib.hid hst1
      have HB1 := Lib.hid (HB.out.setCell (p := ⟨w.heap.size, k, none⟩) (Nat.le_refl _) (.string x))
      have hki : (k : Int) < (n : Int) := by omega
      clear hv hst hst1 HN hx hu hx0 HB
      go_wp2
      go_roundg (n - (k + 1))
      case measure => omega
      case rel => exact ⟨k + 1, by go_num, by omega, HS, HB1⟩
    · obtain rfl : k = n := by omega
      have hki : ¬ ((k : Int) < (k : Int)) := by omega
      have HR := Lib.hid (show New OStrs w.heap.size wr (.slice (some ⟨w.heap.size, 0, none⟩) k k) xs from by
        have h := HN.out
        rw [Nat.sub_self, List.replicate_zero, List.append_nil, List.take_of_length_le (by have := Hn.out; omega)] at h
        exact h)
      clear HN
      go_wp2
      go_ret
      exact ⟨_, rfl, HR.out, HB.out⟩
set_option maxHeartbeats 1000000 in
theorem toShift_c {w : World} {v : Value} {z : Sh} (h : ShR w v z) (hsz : z.2.length ≤ 1048576) :
    Calls Try.prog 28 #[v] w fun e w' => ∃ v', e = .returned v' ∧ New OSh w.heap.size w' v' z ∧ Below w.heap.size w w' := by
  obtain ⟨L, xs⟩ := z
  obtain ⟨va, rfl, ha⟩ := h
  simp only at ha hsz
  have Hc := Lib.hid (fun w1 (hb : Below w.heap.size w w1) => toStringS_c (TsR.frame _ _ _ _ ha hb) hsz)
  obtain ⟨aa, ac, rfl, -⟩ := ha.shape
  generalize xs.length = n at Hc ⊢
  obtain ⟨wA, eA, hA0⟩ : ∃ wA, wA = ((w.alloc (.cells #[.int .i64 L, .slice aa n ac] 41)).alloc (.cells #[.int .i64 0, .slice none 0 0] 44)).alloc (.cells #[.int .i64 L, .slice none 0 0] 44) ∧ Below w.heap.size w wA := ⟨_, rfl, (((Below.refl _ _).alloc (Nat.le_refl _) _).alloc (by simp) _).alloc (by simp <;> omega) _⟩
  have zA : wA.heap.size = w.heap.size + 1 + 1 + 1 := by rw [eA]; simp
  have cB : wA.cell? ⟨w.heap.size + 1, 0, none⟩ = some (.int .i64 0) := by rw [eA]; simp [go_sem]
  have cC : wA.cell? ⟨w.heap.size + 1, 1, none⟩ = some (.slice none 0 0) := by rw [eA]; simp [go_sem]
  have cE : wA.cell? ⟨w.heap.size + 1 + 1, 0, none⟩ = some (.int .i64 L) := by rw [eA]; simp [go_sem]
  have cF : wA.cell? ⟨w.heap.size + 1 + 1, 1, none⟩ = some (.slice none 0 0) := by rw [eA]; simp [go_sem]
  have fB : wA.frozen? ⟨w.heap.size + 1, 0, none⟩ = false := by rw [eA]; simp [go_sem]
  have fC : wA.frozen? ⟨w.heap.size + 1, 1, none⟩ = false := by rw [eA]; simp [go_sem]
  have fF : wA.frozen? ⟨w.heap.size + 1 + 1, 1, none⟩ = false := by rw [eA]; simp [go_sem]
  have HA := Lib.hid hA0
  have HE := Lib.hid eA
  clear ha hsz eA hA0
  go_enter Try.func28, Try.ntmps28
  go_wp2_with fail
  rw [← HE.out]
  refine (Hc.out _ HA.out).mono ?_
  rintro e w1 ⟨r, rfl, hn1, hb1⟩
  obtain ⟨ra, rn, rc, rfl⟩ := hn1.slice
  have h1 : w.heap.size + 1 < wA.heap.size := by omega
  have h2 : w.heap.size + 1 + 1 < wA.heap.size := by omega
  replace cB := (hb1.cell (p := ⟨w.heap.size + 1, 0, none⟩) h1).trans cB
  replace cC := (hb1.cell (p := ⟨w.heap.size + 1, 1, none⟩) h1).trans cC
  replace cE := (hb1.cell (p := ⟨w.heap.size + 1 + 1, 0, none⟩) h2).trans cE
  replace cF := (hb1.cell (p := ⟨w.heap.size + 1 + 1, 1, none⟩) h2).trans cF
  replace fB := (hb1.frozen (p := ⟨w.heap.size + 1, 0, none⟩) h1).trans fB
  replace fC := (hb1.frozen (p := ⟨w.heap.size + 1, 1, none⟩) h1).trans fC
  replace fF := (hb1.frozen (p := ⟨w.heap.size + 1 + 1, 1, none⟩) h2).trans fF
  have HB1 := Lib.hid ((((HA.out.trans (hb1.mono HA.out.size)).setCell (p := ⟨w.heap.size + 1 + 1, 1, none⟩) (by simp <;> omega) (.slice ra rn rc)).setCell (p := ⟨w.heap.size + 1, 0, none⟩) (by simp <;> omega) (.int .i64 L)).setCell (p := ⟨w.heap.size + 1, 1, none⟩) (by simp <;> omega) (.slice ra rn rc))
  have HN := Lib.hid (show New OStrs wA.heap.size (((w1.setCell ⟨w.heap.size + 1 + 1, 1, none⟩ (.slice ra rn rc)).setCell ⟨w.heap.size + 1, 0, none⟩ (.int .i64 L)).setCell ⟨w.heap.size + 1, 1, none⟩ (.slice ra rn rc)) (.slice ra rn rc) xs from by
    obtain ⟨G, hG, hf⟩ := hn1
    refine ⟨G, OStrs.held.keep _ _ _ _ _ hG fun b hb => ?_, hf⟩
    have hge := hf.2 b hb
    rw [Below.heap_setCell _ _ _ _ (fun e => by have e' : b = w.heap.size + 1 := e; omega), Below.heap_setCell _ _ _ _ (fun e => by have e' : b = w.heap.size + 1 := e; omega), Below.heap_setCell _ _ _ _ (fun e => by have e' : b = w.heap.size + 1 + 1 := e; omega)])
  have hzw : w.heap.size ≤ wA.heap.size := by omega
  clear hn1 hb1 Hc HE HA zA h1 h2
  go_wp2
  have s0 := (World.cell?_setCell_other w1 ⟨w.heap.size + 1 + 1, 1, none⟩ ⟨w.heap.size + 1, 0, none⟩ (.slice ra rn rc) (by simp)).trans cB
  have s1 := (World.cell?_setCell_other w1 ⟨w.heap.size + 1 + 1, 1, none⟩ ⟨w.heap.size + 1, 1, none⟩ (.slice ra rn rc) (by simp)).trans cC
  have r0 := World.cell?_setCell_same _ _ (.int .i64 L) s0
  have u1 := (World.cell?_setCell_other _ ⟨w.heap.size + 1, 0, none⟩ _ (.int .i64 L) (by simp)).trans s1
  have r1 := World.cell?_setCell_same _ _ (.slice ra rn rc) u1
  refine bodyPost_ret (v := .agg #[.int .i64 L, .slice ra rn rc]) (by simp [results, Try.results28, go_sem, r0, r1]) rfl ?_
  refine ⟨_, rfl, ?_, HB1.out⟩
  obtain ⟨G, hG, hf1, hf2⟩ := HN.out
  exact ⟨G, ⟨_, rfl, hG⟩, hf1, fun b hb => by have := hf2 b hb; omega⟩
set_option maxHeartbeats 1000000 in
theorem eqShift_same {w : World} {v1 v2 : Value} {z : Sh} (h1 : ShR w v1 z) (h2 : ShR w v2 z) :
    Calls Try.prog 31 #[v1, v2] w fun e w' => e = .returned (.bool true) ∧ Below w.heap.size w w' := by
  obtain ⟨L, xs⟩ := z
  obtain ⟨va, rfl, ha⟩ := h1
  obtain ⟨vb, rfl, hb⟩ := h2
  simp only at ha hb
  have Hc := Lib.hid (fun w1 (hbw : Below w.heap.size w w1) => eqStringS_same (TsR.frame _ _ _ _ ha hbw) (TsR.frame _ _ _ _ hb hbw))
  obtain ⟨aa, ac, rfl, -⟩ := ha.shape
  obtain ⟨ba, bc, rfl, -⟩ := hb.shape
  generalize xs.length = n at Hc ⊢
  have t1 : (L != L) = false := by simp
  have HB0 := Lib.hid (((Below.refl w.heap.size w).alloc (Nat.le_refl _) (.cells #[.int .i64 L, .slice aa n ac] 44)).alloc (by simp) (.cells #[.int .i64 L, .slice ba n bc] 44))
  clear ha hb
  go_enter Try.func31, Try.ntmps31
  go_wp2_with fail
  refine (Hc.out _ HB0.out).mono ?_
  rintro e w1 ⟨rfl, hdr⟩
  have HB1 := Lib.hid (HB0.out.trans (hdr.below _))
  clear hdr
  go_wp2
  go_ret
  exact ⟨rfl, HB1.out⟩
set_option maxHeartbeats 1000000 in
theorem markShift_in {lo hi : Nat} {w : World} {v : Value} {z : Sh} {k0 : Int} (h : NewIn OSh lo hi w v z) (h0 : 0 ≤ k0) (h1 : k0 + z.2.length ≤ 4611686018427387904) (hhi : hi ≤ w.heap.size) :
    Calls Try.prog 32 #[v, .int .i64 k0] w (MarksIn OSh lo hi w v (z.1, markW z.2 k0) (k0 + z.2.length)) := by
  obtain ⟨F, hF, hn, hge⟩ := h
  obtain ⟨L, xs⟩ := z
  obtain ⟨va, rfl, ha⟩ := hF
  simp only at *
  obtain ⟨w0, e0, hb0, c0, c1, m0⟩ := boxA_ex w 44 (.int .i64 L) va
  have Hc := Lib.hid (markStringS_in (k0 := k0) (show NewIn OStrs lo hi w0 va xs from ⟨F, OStrs.held.keep _ _ _ _ _ ha (fun b hb => hb0.block b (OStrs.held.lt _ _ _ _ ha b hb)), hn, hge⟩) h0 h1)
  have hrd : StrsR w va xs := OwnOf.reads (fun _ _ _ _ h => h.1) ha
  obtain ⟨aa, ac, rfl, -⟩ := hrd.shape
  generalize hnl : xs.length = n at Hc e0 c1 ⊢
  have HB := Lib.hid hb0
  clear ha hrd hb0 hn hge
  go_enter Try.func32, Try.ntmps32
  go_wp2_with fail
  refine Hc.out.mono ?_
  rintro e w1 ⟨rfl, hnew, ho⟩
  have HN := Lib.hid (show NewIn OSh lo hi w1 (.agg #[.int .i64 L, .slice aa n ac]) (L, markW xs k0) from by
    obtain ⟨G, hG, hg1, hg2⟩ := hnew
    exact ⟨G, ⟨_, rfl, hG⟩, hg1, hg2⟩)
  have HO := Lib.hid (show OffIn lo hi w w1 from ⟨ho.os.trans HB.out.os, ho.tape.trans HB.out.tape, ho.output.trans HB.out.output, Nat.le_trans HB.out.size ho.size, fun q hq hnq => (ho.block q (Nat.lt_of_lt_of_le hq HB.out.size) hnq).trans (HB.out.block q hq)⟩)
  clear hnew ho Hc
  go_wp2
  go_ret
  exact ⟨rfl, HN.out, HO.out⟩
end Go.Proofs.Ytcilgihmaaobeaa
end

section
/-
  What occurs in a text, the reference's: OccursIn, l3Avoids, l2HasText.
-/
namespace Go.Proofs.Ytcilgihmaaobeaa
open Go.RowKit Go.Deep Go.Sd
set_option linter.unusedSimpArgs false
set_option maxHeartbeats 1000000 in
set_option maxRecDepth 100000 in
theorem OccursIn_c {w : World} (s f : ByteArray) (hs : s.size ≤ 1000) (hf : f.size ≤ 1048576) :
    Calls Try.prog 103 #[.string s, .string f] w fun e w' => e = .returned (.bool (occB s f)) ∧ w = w' := by
  have HT := Lib.hid (fun i (h : occI s f i) => (occB_iff s f).2 ⟨i, h⟩)
  have HF := Lib.hid (fun (h : ∀ i, ¬ occI s f i) => occB_no h)
  generalize occB s f = T at HT HF ⊢
  go_enter Try.func103, Try.ntmps103
  go_wp2
  go_loopg [5] (s.size + 1) (fun g i wr => ∃ (j : Nat), i = .int .i64 j ∧ j + g = s.size + 1 ∧ Hid (∀ k, k < j → ¬ occI s f k) ∧ w = wr)
  case atStart => exact ⟨0, rfl, by omega, Lib.hid (fun k hk => absurd hk (Nat.not_lt_zero _)), rfl⟩
  case round =>
    obtain ⟨j, rfl, hj, HK, rfl⟩ := hrel
    by_cases h1 : j + f.size ≤ s.size
    · have h1i : (j : Int) + (f.size : Int) ≤ (s.size : Int) := by omega
      obtain ⟨g, rfl⟩ : ∃ x, gk = x + 1 := ⟨gk - 1, by omega⟩
      have hj1 : (0 : Int) ≤ (j : Int) := by omega
      have hj2 : (j : Int) ≤ (j : Int) + (f.size : Int) := by omega
      have hj3 : (0 : Int) ≤ (j : Int) + (f.size : Int) := by omega
      have hjn : ((j : Int) + (f.size : Int)).toNat = j + f.size := by omega
      by_cases h2 : s.extract j (j + f.size) = f
      · have hd : ((s.extract j (j + f.size)).toList == f.toList) = true := by rw [h2]; simp
        have hT := Lib.hid (HT.out j ⟨h1, h2⟩)
        go_wp2
        go_ret
        exact ⟨by rw [hT.out]; rfl, rfl⟩
      · have hK2 := Lib.hid (show ∀ k, k < j + 1 → ¬ occI s f k from fun k hk => by
          by_cases e : k = j
          · rw [e]; exact fun h => h2 h.2
          · exact HK.out k (by omega))
        have hd : ((s.extract j (j + f.size)).toList == f.toList) = false := by
          rw [beq_eq_false_iff_ne]
          exact fun e => h2 (bytes_ext e)
        clear HK
        go_wp2
        go_roundg g
        case measure => omega
        case rel => exact ⟨j + 1, by go_num, by omega, hK2, rfl⟩
    · have h1i : ¬ (j : Int) + (f.size : Int) ≤ (s.size : Int) := by omega
      have hT := Lib.hid (HF.out fun i h => by
        by_cases e : i < j
        · exact HK.out i e h
        · exact h1 (by have := h.1; omega))
      clear HK
      go_wp2
      go_ret
      exact ⟨by rw [hT.out]; rfl, rfl⟩
set_option maxHeartbeats 1000000 in
theorem l3Avoids_c {w : World} {v : Value} {F : List ByteArray} {s : ByteArray} (h : TsR w v F) (hs : s.size ≤ 1000) (hf : ∀ f, f ∈ F → f.size ≤ 1048576) :
    Calls Try.prog 88 #[v, .string s] w fun e w' => e = .returned (.bool (avoM F s)) ∧ w = w' := by
  have hlen := h.len
  obtain ⟨a, c, rfl, -, -, hcell⟩ := h.shape
  have HT := Lib.hid (fun (h : ∀ (k : Nat) (f : ByteArray), F[k]? = some f → occB s f = false) => (show avoM F s = true from List.all_eq_true.2 fun f hf => by
    obtain ⟨k, hk⟩ := List.getElem?_of_mem hf
    rw [h k f hk]; rfl))
  have HF := Lib.hid (fun k f (h : F[k]? = some f) (h2 : occB s f = true) => (show avoM F s = false from by
    unfold avoM
    rw [List.all_eq_false]
    exact ⟨f, List.mem_of_getElem? h, by rw [h2]; decide⟩))
  have HC := Lib.hid (fun k f (h : F[k]? = some f) => OccursIn_c (w := w) s f hs (hf f (List.mem_of_getElem? h)))
  generalize avoM F s = T at HT HF ⊢
  obtain ⟨n, hn⟩ : ∃ n, n = F.length := ⟨_, rfl⟩
  have Hn := Lib.hid hn
  rw [← hn] at hcell hlen ⊢
  clear h hf hn
  have Hcell := Lib.hid hcell
  clear hcell
  go_enter Try.func88, Try.ntmps88
  go_wp2
  go_loopg [5] n (fun g i wr => ∃ (j : Nat), i = .int .i64 j ∧ j + g = n ∧ Hid (∀ k f, k < j → F[k]? = some f → occB s f = false) ∧ w = wr)
  case atStart => exact ⟨0, rfl, by omega, Lib.hid (fun k f hk => absurd hk (Nat.not_lt_zero _)), rfl⟩
  case round =>
    obtain ⟨j, rfl, hj, HK, rfl⟩ := hrel
    by_cases h1 : j < n
    · have h1i : (j : Int) < (n : Int) := by omega
      obtain ⟨g, rfl⟩ : ∃ x, gk = x + 1 := ⟨gk - 1, by omega⟩
      obtain ⟨b, o, rfl, -, hx⟩ := Hcell.out (by omega)
      obtain ⟨f, hf, -⟩ := at_lt (xs := F) (k := j) (by rw [← Hn.out]; exact h1)
      obtain ⟨u, hu, hu2⟩ := hx j f hf
      have hu2' : u = .string f := hu2
      subst hu2'
      have HC1 := Lib.hid (HC.out j f hf)
      cases ho : occB s f with
      | true =>
        have hT := Lib.hid (HF.out j f hf ho)
        rw [ho] at HC1
        clear hx hf hu2 ho
        go_wp2_with fail
        (with_reducible refine HC1.out.mono ?_)
        rintro e w9 ⟨rfl, hw9⟩
        rw [← hw9]
        clear hw9 w9
        go_wp2
        go_ret
        exact ⟨by rw [hT.out]; rfl, rfl⟩
      | false =>
        have hK2 := Lib.hid (show ∀ k f, k < j + 1 → F[k]? = some f → occB s f = false from fun k f' hk hf' => by
          by_cases e : k = j
          · rw [e, hf] at hf'
            cases hf'
            exact ho
          · exact HK.out k f' (by omega) hf')
        rw [ho] at HC1
        clear hx hf hu2 ho HK
        go_wp2_with fail
        (with_reducible refine HC1.out.mono ?_)
        rintro e w9 ⟨rfl, hw9⟩
        rw [← hw9]
        clear hw9 w9
        go_wp2
        go_roundg g
        case measure => omega
        case rel => exact ⟨j + 1, by go_num, by omega, hK2, rfl⟩
    · have h1i : ¬ (j : Int) < (n : Int) := by omega
      have hT := Lib.hid (HT.out fun k f hk => HK.out k f (by have := (List.getElem?_eq_some_iff.1 hk).1; rw [← Hn.out] at this; omega) hk)
      clear HK
      go_wp2
      go_ret
      exact ⟨by rw [hT.out]; rfl, rfl⟩
set_option maxHeartbeats 1000000 in
theorem l2HasText_c {w : World} {v : Value} {F : List ByteArray} {s : ByteArray} (h : TsR w v F) :
    Calls Try.prog 127 #[v, .string s] w fun e w' => e = .returned (.bool (hasB F s)) ∧ w = w' := by
  have hlen := h.len
  obtain ⟨a, c, rfl, -, -, hcell⟩ := h.shape
  have HT := Lib.hid (fun (h : ∀ (k : Nat) (f : ByteArray), F[k]? = some f → f ≠ s) => (show hasB F s = false from hasB_no h))
  have HF := Lib.hid (fun k (h : F[k]? = some s) => (show hasB F s = true from hasB_yes (List.mem_of_getElem? h)))
  generalize hasB F s = T at HT HF ⊢
  obtain ⟨n, hn⟩ : ∃ n, n = F.length := ⟨_, rfl⟩
  have Hn := Lib.hid hn
  rw [← hn] at hcell hlen ⊢
  clear h hn
  have Hcell := Lib.hid hcell
  clear hcell
  go_enter Try.func127, Try.ntmps127
  go_wp2
  go_loopg [5] n (fun g i wr => ∃ (j : Nat), i = .int .i64 j ∧ j + g = n ∧ Hid (∀ k f, k < j → F[k]? = some f → f ≠ s) ∧ w = wr)
  case atStart => exact ⟨0, rfl, by omega, Lib.hid (fun k f hk => absurd hk (Nat.not_lt_zero _)), rfl⟩
  case round =>
    obtain ⟨j, rfl, hj, HK, rfl⟩ := hrel
    by_cases h1 : j < n
    · have h1i : (j : Int) < (n : Int) := by omega
      obtain ⟨g, rfl⟩ : ∃ x, gk = x + 1 := ⟨gk - 1, by omega⟩
      obtain ⟨b, o, rfl, -, hx⟩ := Hcell.out (by omega)
      obtain ⟨f, hf, -⟩ := at_lt (xs := F) (k := j) (by rw [← Hn.out]; exact h1)
      obtain ⟨u, hu, hu2⟩ := hx j f hf
      have hu2' : u = .string f := hu2
      subst hu2'
      by_cases ho : f = s
      · subst ho
        have hT := Lib.hid (HF.out j hf)
        have hd : (f.toList == f.toList) = true := by simp
        clear hx hf hu2
        go_wp2
        go_ret
        exact ⟨by rw [hT.out]; rfl, rfl⟩
      · have hK2 := Lib.hid (show ∀ k f, k < j + 1 → F[k]? = some f → f ≠ s from fun k f' hk hf' => by
          by_cases e : k = j
          · rw [e, hf] at hf'
            cases hf'
            exact ho
          · exact HK.out k f' (by omega) hf')
        have hd : (f.toList == s.toList) = false := by
          rw [beq_eq_false_iff_ne]
          exact fun e => ho (bytes_ext e)
        clear hx hf hu2 HK
        go_wp2
        go_roundg g
        case measure => omega
        case rel => exact ⟨j + 1, by go_num, by omega, hK2, rfl⟩
    · have h1i : ¬ (j : Int) < (n : Int) := by omega
      have hT := Lib.hid (HT.out fun k f hk => HK.out k f (by have := (List.getElem?_eq_some_iff.1 hk).1; rw [← Hn.out] at this; omega) hk)
      clear HK
      go_wp2
      go_ret
      exact ⟨by rw [hT.out]; rfl, rfl⟩
end Go.Proofs.Ytcilgihmaaobeaa
end

section
/-
  Valid shifts, the reference's IsShift.
-/
namespace Go.Proofs.Ytcilgihmaaobeaa
open Go.RowKit Go.Deep Go.Sd
set_option linter.unusedSimpArgs false
/-- A word that may stand at a place of a shift's list. -/
def wdOk (L : Int) (F : List ByteArray) (k : Nat) (f : ByteArray) : Prop := letB L f.data.toList = true ∧ 1 ≤ f.size ∧ f.size ≤ 3 ∧ (0 < k → ∀ p, F[k - 1]? = some p → Op.bytesLess p.toList f.toList = true)
def shiftP (s : Sh) : Prop := (1 ≤ s.1 ∧ s.1 ≤ 3) ∧ s.2.length ≤ 8 ∧ ∀ (k : Nat) (f : ByteArray), s.2[k]? = some f → wdOk s.1 s.2 k f
open Classical in
noncomputable def shiftM (s : Sh) : Bool := decide (shiftP s)
open Classical in
theorem shiftM_yes {s : Sh} (h : shiftP s) : shiftM s = true := by unfold shiftM; exact decide_eq_true h
open Classical in
theorem shiftM_no {s : Sh} (h : ¬ shiftP s) : shiftM s = false := by unfold shiftM; exact decide_eq_false h
open Classical in
theorem shiftM_of {s : Sh} (h : shiftM s = true) : shiftP s := by unfold shiftM at h; exact of_decide_eq_true h
set_option maxHeartbeats 2000000 in
set_option maxRecDepth 100000 in
theorem spec_IsShift_c {w : World} {v : Value} {s : Sh} (h : ShR w v s) (hb : ∀ f, f ∈ s.2 → f.size ≤ 1048576) :
    Calls Try.prog 104 #[v] w fun e w' => e = .returned (.bool (shiftM s)) ∧ Below w.heap.size w w' := by
  obtain ⟨L, F⟩ := s
  obtain ⟨va, rfl, ht⟩ := h
  have HY := Lib.hid (fun h => shiftM_yes (s := (L, F)) h)
  have HN := Lib.hid (fun h => shiftM_no (s := (L, F)) h)
  generalize shiftM (L, F) = T at HY HN ⊢
  simp only at ht hb
  obtain ⟨w0, e0, hb0, c0, c1, m0⟩ := boxA_ex w 44 (.int .i64 L) va
  have ht0 := TsR.frame _ _ _ _ ht hb0
  have hlen := ht0.len
  obtain ⟨a, c, rfl, -, -, hcell⟩ := ht0.shape
  obtain ⟨n, hn⟩ : ∃ n, n = F.length := ⟨_, rfl⟩
  have Hn := Lib.hid hn
  rw [← hn] at hcell hlen c1 e0 ⊢
  have Hcell := Lib.hid hcell
  have HBf := Lib.hid hb
  have HB := Lib.hid hb0
  have HW := Lib.hid (fun f (hf : f ∈ F) => spec_IsWord_c L f w0 (by have := hb f hf; unfold maxLen; omega))
  clear hcell hn ht ht0 hb hb0
  go_enter Try.func104, Try.ntmps104
  go_wp2
  go_loopg [3] n (fun g i wr => ∃ (j : Nat), i = .int .i64 j ∧ j + g = n ∧ Hid (∀ k f, k < j → F[k]? = some f → (1 ≤ L ∧ L ≤ 3) ∧ wdOk L F k f) ∧ w0 = wr)
  case atStart => exact ⟨0, rfl, by omega, Lib.hid (fun k f hk => absurd hk (Nat.not_lt_zero _)), rfl⟩
  case round =>
    obtain ⟨j, rfl, hj, HK, rfl⟩ := hrel
    by_cases h1 : j < n
    · have h1i : (j : Int) < (n : Int) := by omega
      obtain ⟨g, rfl⟩ : ∃ x, gk = x + 1 := ⟨gk - 1, by omega⟩
      obtain ⟨b, o, rfl, -, hx⟩ := Hcell.out (by omega)
      obtain ⟨f, hf, -⟩ := at_lt (xs := F) (k := j) (by rw [← Hn.out]; exact h1)
      obtain ⟨u, hu, hu2⟩ := hx j f hf
      have hu2' : u = .string f := hu2
      subst hu2'
      have HW1 := Lib.hid (HW.out f (List.mem_of_getElem? hf))
      have hfs := HBf.out f (List.mem_of_getElem? hf)
      have HI := Lib.hid (l1In_c (f.size : Int) 1 3 w0)
      have Hf := Lib.hid hf
      clear hu2
      cases hw : wordM L f with
      | false =>
        have hT := Lib.hid (HN.out fun h => by
          have h2 := h.2.2 j f hf
          unfold wordM at hw
          rw [h2.1, decide_eq_true (show 1 ≤ L ∧ L ≤ 3 from h.1), decide_eq_true (show f.size ≤ 16 by have := h2.2.2.1; omega)] at hw
          exact absurd hw (by decide))
        rw [hw] at HW1
        clear hf hx hw
        go_wp2_with fail
        (with_reducible refine HW1.out.mono ?_)
        rintro e w9 ⟨rfl, hw9⟩
        rw [← hw9]
        clear hw9 w9
        go_wp2
        go_ret
        exact ⟨by rw [hT.out]; rfl, HB.out⟩
      | true =>
        have hwd : (1 ≤ L ∧ L ≤ 3) ∧ letB L f.data.toList = true := by
          unfold wordM at hw
          simp only [Bool.and_eq_true, decide_eq_true_eq] at hw
          exact ⟨hw.1, hw.2.2⟩
        rw [hw] at HW1
        clear hw
        by_cases h13 : 1 ≤ f.size ∧ f.size ≤ 3
        · rw [decide_eq_true (show (1 : Int) ≤ (f.size : Int) by omega), decide_eq_true (show (f.size : Int) ≤ 3 by omega)] at HI
          by_cases hj0 : 0 < j
          · have hj0i : (0 : Int) < (j : Int) := by omega
            obtain ⟨p, hp, -⟩ := at_lt (xs := F) (k := j - 1) (by rw [← Hn.out]; omega)
            obtain ⟨u, hv, hv2⟩ := hx (j - 1) p hp
            have hv2' : u = .string p := hv2
            subst hv2'
            have hjm : ((j : Int) - 1).toNat = j - 1 := by omega
            have hj1 : (0 : Int) ≤ (j : Int) - 1 := by omega
            have hj2 : (j : Int) - 1 < (n : Int) := by omega
            cases hl : Op.bytesLess p.toList f.toList with
            | false =>
              have hT := Lib.hid (HN.out fun h => by
                have h2 := (h.2.2 j f hf).2.2.2 hj0 p hp
                rw [hl] at h2
                cases h2)
              clear hf hx hv2 hp
              go_wp2_with fail
              (with_reducible refine HW1.out.mono ?_)
              rintro e w9 ⟨rfl, hw9⟩
              rw [← hw9]
              clear hw9 w9
              go_wp2_with fail
              (with_reducible refine HI.out.mono ?_)
              rintro e w9 ⟨rfl, hw9⟩
              rw [← hw9]
              clear hw9 w9
              go_wp2
              go_ret
              exact ⟨by rw [hT.out]; rfl, HB.out⟩
            | true =>
              have hK2 := Lib.hid (show ∀ k f, k < j + 1 → F[k]? = some f → (1 ≤ L ∧ L ≤ 3) ∧ wdOk L F k f from fun k f' hk hf' => by
                by_cases e : k = j
                · rw [e, hf] at hf'
                  cases hf'
                  rw [e]
                  exact ⟨hwd.1, hwd.2, h13.1, h13.2, fun _ p' hp' => by rw [hp] at hp'; cases hp'; exact hl⟩
                · exact HK.out k f' (by omega) hf')
              clear hf hx hv2 hp HK hwd
              go_wp2_with fail
              (with_reducible refine HW1.out.mono ?_)
              rintro e w9 ⟨rfl, hw9⟩
              rw [← hw9]
              clear hw9 w9
              go_wp2_with fail
              (with_reducible refine HI.out.mono ?_)
              rintro e w9 ⟨rfl, hw9⟩
              rw [← hw9]
              clear hw9 w9
              go_wp2
              go_roundg g
              case measure => omega
              case rel => exact ⟨j + 1, by go_num, by omega, hK2, rfl⟩
          · obtain rfl : j = 0 := by omega
            have hK2 := Lib.hid (show ∀ k f, k < 0 + 1 → F[k]? = some f → (1 ≤ L ∧ L ≤ 3) ∧ wdOk L F k f from fun k f' hk hf' => by
              obtain rfl : k = 0 := by omega
              rw [hf] at hf'
              cases hf'
              exact ⟨hwd.1, hwd.2, h13.1, h13.2, fun h => absurd h (Nat.not_lt_zero _)⟩)
            clear hf hx HK hwd
            rw [Nat.add_zero] at hu
            have hz : ¬ (0 : Int) < ((0 : Nat) : Int) := by omega
            go_wp2_with fail
            (with_reducible refine HW1.out.mono ?_)
            rintro e w9 ⟨rfl, hw9⟩
            rw [← hw9]
            clear hw9 w9
            go_wp2_with fail
            (with_reducible refine HI.out.mono ?_)
            rintro e w9 ⟨rfl, hw9⟩
            rw [← hw9]
            clear hw9 w9
            go_wp2
            go_roundg g
            case measure => omega
            case rel => exact ⟨0 + 1, by go_num, by omega, hK2, rfl⟩
        · have hT := Lib.hid (HN.out fun h => by
            have h2 := h.2.2 j f hf
            exact h13 ⟨h2.2.1, h2.2.2.1⟩)
          rw [show (decide ((1 : Int) ≤ (f.size : Int)) && decide ((f.size : Int) ≤ 3)) = false from by rw [← Bool.decide_and]; exact decide_eq_false (by omega)] at HI
          clear hf hx
          go_wp2_with fail
          (with_reducible refine HW1.out.mono ?_)
          rintro e w9 ⟨rfl, hw9⟩
          rw [← hw9]
          clear hw9 w9
          go_wp2_with fail
          (with_reducible refine HI.out.mono ?_)
          rintro e w9 ⟨rfl, hw9⟩
          rw [← hw9]
          clear hw9 w9
          go_wp2
          go_ret
          exact ⟨by rw [hT.out]; rfl, HB.out⟩
    · have h1i : ¬ (j : Int) < (n : Int) := by omega
      have HI := Lib.hid (l1In_c L 1 3 w0)
      have hall : ∀ k f, F[k]? = some f → wdOk L F k f := fun k f hk => (HK.out k f (by have := (List.getElem?_eq_some_iff.1 hk).1; rw [← Hn.out] at this; omega) hk).2
      by_cases hL : 1 ≤ L ∧ L ≤ 3
      · rw [decide_eq_true hL.1, decide_eq_true hL.2] at HI
        by_cases h8 : n ≤ 8
        · have h8i : (n : Int) ≤ 8 := by omega
          have hd8 : decide ((n : Int) ≤ 8) = true := decide_eq_true h8i
          have hT := Lib.hid (HY.out ⟨hL, by rw [← Hn.out]; exact h8, hall⟩)
          clear hall HK
          go_wp2_with fail
          (with_reducible refine HI.out.mono ?_)
          rintro e w9 ⟨rfl, hw9⟩
          rw [← hw9]
          clear hw9 w9
          go_wp2
          go_ret
          exact ⟨by rw [hT.out]; rfl, HB.out⟩
        · have h8i : ¬ (n : Int) ≤ 8 := by omega
          have hd8 : decide ((n : Int) ≤ 8) = false := decide_eq_false h8i
          have hT := Lib.hid (HN.out fun h => h8 (by rw [Hn.out]; exact h.2.1))
          clear hall HK
          go_wp2_with fail
          (with_reducible refine HI.out.mono ?_)
          rintro e w9 ⟨rfl, hw9⟩
          rw [← hw9]
          clear hw9 w9
          go_wp2
          go_ret
          exact ⟨by rw [hT.out]; rfl, HB.out⟩
      · have hT := Lib.hid (HN.out fun h => hL h.1)
        rw [show (decide (1 ≤ L) && decide (L ≤ 3)) = false from by rw [← Bool.decide_and]; exact decide_eq_false hL] at HI
        clear hall HK
        go_wp2_with fail
        (with_reducible refine HI.out.mono ?_)
        rintro e w9 ⟨rfl, hw9⟩
        rw [← hw9]
        clear hw9 w9
        go_wp2
        go_ret
        exact ⟨by rw [hT.out]; rfl, HB.out⟩
end Go.Proofs.Ytcilgihmaaobeaa
end

section
/-
  All words of a length, in order: the model.
-/
namespace Go.Proofs.Ytcilgihmaaobeaa
open Go.RowKit Go.Deep Go.Sd
def wordD (L : Nat) : Nat → Nat → List Nat
  | 0, _ => []
  | n + 1, i => wordD L n (i / L) ++ [i % L]
def allW (L : Nat) : Nat → List (List Nat)
  | 0 => [[]]
  | n + 1 => (allW L n).flatMap fun w => (List.range L).map fun x => w ++ [x]
theorem range_mul (b : Nat) : ∀ a : Nat, List.range (a * b) = (List.range a).flatMap fun j => (List.range b).map fun x => j * b + x
  | 0 => by simp
  | a + 1 => by
    rw [Nat.add_mul, Nat.one_mul, List.range_add, range_mul b a, List.range_succ, List.flatMap_append]
    simp
theorem allW_eq {L : Nat} (hL : 0 < L) : ∀ n : Nat, allW L n = (List.range (L ^ n)).map (wordD L n)
  | 0 => by simp [allW, wordD]
  | n + 1 => by
    unfold allW
    rw [allW_eq hL n, Nat.pow_succ, range_mul, List.map_flatMap, List.flatMap_map]
    congr 1
    funext j
    rw [List.map_map]
    apply List.map_congr_left
    intro x hx
    have hx' : x < L := List.mem_range.1 hx
    simp only [Function.comp, wordD]
    rw [Nat.mul_comm j L, Nat.mul_add_div hL, Nat.mul_add_mod, Nat.div_eq_of_lt hx', Nat.mod_eq_of_lt hx', Nat.add_zero]
theorem allW_len {L : Nat} (hL : 0 < L) (n : Nat) : (allW L n).length = L ^ n := by rw [allW_eq hL]; simp
theorem wordD_len (L : Nat) : ∀ n i : Nat, (wordD L n i).length = n
  | 0, _ => rfl
  | n + 1, i => by simp [wordD, wordD_len L n]
theorem wordD_lt {L : Nat} (hL : 0 < L) : ∀ (n i x : Nat), x ∈ wordD L n i → x < L
  | 0, _, _, h => by cases h
  | n + 1, i, x, h => by
    rcases List.mem_append.1 h with h | h
    · exact wordD_lt hL n _ x h
    · simp at h; subst h; exact Nat.mod_lt _ hL
theorem allW_mem {L : Nat} (hL : 0 < L) {n : Nat} {w : List Nat} (h : w ∈ allW L n) : w.length = n ∧ ∀ x, x ∈ w → x < L := by
  rw [allW_eq hL] at h
  obtain ⟨i, _, rfl⟩ := List.mem_map.1 h
  exact ⟨wordD_len L n i, wordD_lt hL n i⟩
theorem wordT_size (w : List Nat) : (wordT w).size = w.length := by simp [wordT, ByteArray.size]
theorem pow_le {L n : Nat} (hL : L ≤ 3) (hn : n ≤ 6) : L ^ n ≤ 729 :=
  Nat.le_trans (Nat.pow_le_pow_left hL n) (Nat.pow_le_pow_right (by decide) hn)
end Go.Proofs.Ytcilgihmaaobeaa
end

section
/-
  The places of a graph that lie on a path that is infinite in both directions: the greatest set in which each has an arc from and an arc to others. What removes only places that lack one, and stops at a set where none lacks one, finds it.
-/
namespace Go.Sd
open Go.RowKit Go.Deep
def Clos (E : Nat → Nat → Prop) (n : Nat) (S : Nat → Prop) : Prop := ∀ i, S i → i < n ∧ (∃ j, S j ∧ E i j) ∧ ∃ j, S j ∧ E j i
def Gr (E : Nat → Nat → Prop) (n : Nat) (i : Nat) : Prop := ∃ S, Clos E n S ∧ S i
open Classical in
noncomputable def liveL (E : Nat → Nat → Prop) (n : Nat) : List Bool := (List.range n).map fun i => decide (Gr E n i)
def On (l : List Bool) (i : Nat) : Prop := l[i]? = some true
def Sup (E : Nat → Nat → Prop) (n : Nat) (l : List Bool) : Prop := l.length = n ∧ ∀ i, Gr E n i → On l i
def Both (E : Nat → Nat → Prop) (l : List Bool) (i : Nat) : Prop := (∃ j, On l j ∧ E i j) ∧ ∃ j, On l j ∧ E j i
def cntT (l : List Bool) : Nat := l.countP id
section
variable {E : Nat → Nat → Prop} {n : Nat} {l l' : List Bool}
theorem On.lt {i : Nat} (h : On l i) : i < l.length := (List.getElem?_eq_some_iff.1 h).1
theorem Gr.both {i : Nat} (h : Gr E n i) : i < n ∧ (∃ j, Gr E n j ∧ E i j) ∧ ∃ j, Gr E n j ∧ E j i := by
  obtain ⟨S, hS, hi⟩ := h
  obtain ⟨h1, ⟨j, hj, he⟩, k, hk, hf⟩ := hS i hi
  exact ⟨h1, ⟨j, ⟨S, hS, hj⟩, he⟩, k, ⟨S, hS, hk⟩, hf⟩
theorem liveL_len : (liveL E n).length = n := by simp [liveL]
theorem live_of (h : Sup E n l) (hc : Clos E n (On l)) : l = liveL E n := by
  apply List.ext_getElem?
  intro i
  by_cases hi : i < n
  · have h1 : (liveL E n)[i]? = some (@decide (Gr E n i) (Classical.propDecidable _)) := by simp [liveL, hi]
    rw [h1]
    by_cases hg : Gr E n i
    · rw [h.2 i hg]; simp [hg]
    · have hl : i < l.length := by rw [h.1]; exact hi
      rw [List.getElem?_eq_getElem hl]
      cases hb : l[i] with
      | false => simp [hg]
      | true =>
        exact absurd ⟨On l, hc, by unfold On; rw [List.getElem?_eq_getElem hl, hb]⟩ hg
  · rw [List.getElem?_eq_none (by rw [h.1]; omega), List.getElem?_eq_none (by rw [liveL_len]; omega)]
theorem Sup.start : Sup E n (List.replicate n true) := by
  refine ⟨by simp, fun i hi => ?_⟩
  unfold On
  rw [List.getElem?_replicate, if_pos hi.both.1]
theorem Sup.both (h : Sup E n l) {i : Nat} (hi : Gr E n i) : Both E l i := by
  obtain ⟨_, ⟨j, hj, he⟩, k, hk, hf⟩ := hi.both
  exact ⟨⟨j, h.2 j hj, he⟩, k, h.2 k hk, hf⟩
theorem Sup.unset (h : Sup E n l) {i : Nat} (hi : ¬ Both E l i) : Sup E n (l.set i false) := by
  refine ⟨by rw [List.length_set]; exact h.1, fun j hj => ?_⟩
  have hne : i ≠ j := fun e => hi (e ▸ h.both hj)
  unfold On
  rw [List.getElem?_set_ne hne]
  exact h.2 j hj
theorem cntT_replicate : cntT (List.replicate n true) = n := by
  unfold cntT; simp [List.countP_replicate]
theorem cntT_le : cntT l ≤ l.length := List.countP_le_length
theorem cntT_unset : ∀ {l : List Bool} {i : Nat}, On l i → cntT (l.set i false) + 1 = cntT l
  | [], i, h => by simp [On] at h
  | b :: l, 0, h => by
    simp [On] at h
    subst h
    simp [cntT]
  | b :: l, i + 1, h => by
    have h2 : On l i := by simpa [On] using h
    have := cntT_unset (l := l) (i := i) h2
    unfold cntT at this ⊢
    simp only [List.set_cons_succ, List.countP_cons]
    omega
/-- A smaller set has fewer. -/
theorem cntT_mono : ∀ {l l' : List Bool}, l'.length = l.length → (∀ i, On l' i → On l i) → cntT l' ≤ cntT l ∧ (cntT l' = cntT l → l' = l)
  | [], [], _, _ => ⟨Nat.le_refl _, fun _ => rfl⟩
  | [], _ :: _, h, _ => by simp at h
  | _ :: _, [], h, _ => by simp at h
  | b :: l, b' :: l', h, hs => by
    have ih := cntT_mono (l := l) (l' := l') (by simpa using h) (fun i hi => by simpa [On] using hs (i + 1) (by simpa [On] using hi))
    have h0 : b' = true → b = true := fun e => by have := hs 0 (by simp [On, e]); simpa [On] using this
    unfold cntT at ih ⊢
    simp only [List.countP_cons, id]
    cases b <;> cases b'
    · simp only [Bool.false_eq_true, if_false]
      exact ⟨by omega, fun e => by rw [ih.2 (by omega)]⟩
    · exact absurd (h0 rfl) (by simp)
    · simp only [Bool.false_eq_true, if_false, if_true]
      exact ⟨by omega, fun e => by omega⟩
    · simp only [if_true]
      exact ⟨by omega, fun e => by rw [ih.2 (by omega)]⟩
/-- All at once: who lacks an arc goes. -/
def Rnd (E : Nat → Nat → Prop) (l l' : List Bool) : Prop := l'.length = l.length ∧ ∀ i, On l' i ↔ On l i ∧ Both E l i
/-- After k rounds: it is found, or k are gone. -/
def Inv (E : Nat → Nat → Prop) (n k : Nat) (l : List Bool) : Prop := Sup E n l ∧ (Clos E n (On l) ∨ cntT l + k ≤ n)
theorem Inv.start : Inv E n 0 (List.replicate n true) := ⟨Sup.start, .inr (by rw [cntT_replicate]; omega)⟩
theorem Inv.step {k : Nat} (h : Inv E n k l) (hr : Rnd E l l') : Inv E n (k + 1) l' := by
  obtain ⟨hs, hc⟩ := h
  have hs' : Sup E n l' := ⟨hr.1.trans hs.1, fun i hi => (hr.2 i).2 ⟨hs.2 i hi, hs.both hi⟩⟩
  have hm := cntT_mono hr.1 (fun i hi => ((hr.2 i).1 hi).1)
  refine ⟨hs', ?_⟩
  by_cases e : l' = l
  · refine .inl fun i hi => ?_
    have hb := ((hr.2 i).1 hi).2
    rw [← e] at hb
    exact ⟨by rw [← hs'.1]; exact hi.lt, hb.1, hb.2⟩
  · rcases hc with hc | hc
    · exact absurd (hm.2 (by
        have h2 : l' = l := by
          apply List.ext_getElem?
          intro i
          by_cases hi : i < l.length
          · have h1 : On l i → On l' i := fun h => (hr.2 i).2 ⟨h, (hc i h).2⟩
            have h2 : On l' i → On l i := fun h => ((hr.2 i).1 h).1
            unfold On at h1 h2
            rw [List.getElem?_eq_getElem hi, List.getElem?_eq_getElem (by rw [hr.1]; exact hi)] at h1 h2 ⊢
            cases hb : l[i] <;> cases hb' : l'[i]'(by rw [hr.1]; exact hi) <;> simp_all
          · rw [List.getElem?_eq_none (by rw [hr.1]; omega), List.getElem?_eq_none (by omega)]
        rw [h2])) e
    · right
      have : cntT l' ≠ cntT l := fun h => e (hm.2 h)
      omega
theorem Inv.end (h : Inv E n n l) : l = liveL E n := by
  refine live_of h.1 ?_
  rcases h.2 with hc | hc
  · exact hc
  · intro i hi
    have h0 := cntT_unset (l := l) (i := i) hi
    omega
/-- One after the other: a pass over the first i. -/
def Pas (E : Nat → Nat → Prop) (n : Nat) (l0 : List Bool) (i : Nat) (l : List Bool) (ch : Bool) : Prop :=
  Sup E n l ∧ (ch = false → l = l0 ∧ ∀ j, j < i → On l0 j → Both E l0 j) ∧ (ch = true → cntT l < cntT l0)
theorem Pas.start {l0 : List Bool} (h : Sup E n l0) : Pas E n l0 0 l0 false := ⟨h, fun _ => ⟨rfl, fun j hj => absurd hj (Nat.not_lt_zero _)⟩, fun h => by cases h⟩
theorem Pas.keep {l0 : List Bool} {i : Nat} {ch : Bool} (h : Pas E n l0 i l ch) (hi : On l i → Both E l i) : Pas E n l0 (i + 1) l ch := by
  refine ⟨h.1, fun hc => ?_, h.2.2⟩
  obtain ⟨e, hb⟩ := h.2.1 hc
  refine ⟨e, fun j hj hon => ?_⟩
  by_cases hji : j < i
  · exact hb j hji hon
  · obtain rfl : j = i := by omega
    rw [← e] at hon ⊢
    exact hi hon
theorem Pas.unset {l0 : List Bool} {i : Nat} {ch : Bool} (h : Pas E n l0 i l ch) (hi : On l i) (hb : ¬ Both E l i) : Pas E n l0 (i + 1) (l.set i false) true := by
  refine ⟨h.1.unset hb, (fun hc => by cases hc), fun _ => ?_⟩
  have h1 := cntT_unset hi
  cases ch with
  | false => rw [(h.2.1 rfl).1] at h1 ⊢; omega
  | true => have := h.2.2 rfl; omega
theorem Pas.end {l0 : List Bool} (h : Pas E n l0 n l false) : l = liveL E n := by
  obtain ⟨rfl, hb⟩ := h.2.1 rfl
  refine live_of h.1 fun i hi => ?_
  have hlt : i < n := by rw [← h.1.1]; exact hi.lt
  exact ⟨hlt, (hb i hlt hi).1, (hb i hlt hi).2⟩
theorem Pas.less {l0 : List Bool} (h : Pas E n l0 n l true) : Sup E n l ∧ cntT l < cntT l0 := ⟨h.1, h.2.2 rfl⟩
end
end Go.Sd
end
