/-
  ShortestSync's closure; words as texts.
-/
import Derived.Test.YtjgiobapdkdhpaaRows
import Derived.Test.YtjgiobapdkdhpaaBase
import Derived.Test.YtjgiobapdkdhpaaRank
import Derived.Test.YtjgiobapdkdhpaaBfsM
import Derived.Test.YtjgiobapdkdhpaaLeastRS
import Derived.Test.YtjgiobapdkdhpaaReachK
import Derived.Laws.IdiomStrings
import Derived.Laws.BytesArg
import Derived.IntWalk
namespace Go.Proofs.Ytjgiobapdkdhpaa
open Go.RowKit Go.Deep Go.Sd
set_option linter.unusedSimpArgs false
/-- A word as a text. -/
def wordT (wd : List Nat) : ByteArray := ⟨(wd.map fun x => UInt8.ofNat (97 + x)).toArray⟩
def cbShort (st : Option (List Nat)) (e : Ent) : Option (List Nat) × Bool := if popN e.1 = 1 then (some e.2, true) else (st, false)
def shortB (c : Nat) : Option (List Nat) → List Res
  | none => [Res.box c [.string ⟨#[]⟩], Res.box (c + 1) [.bool false]]
  | some wd => [Res.box c [.string (wordT wd)], Res.box (c + 1) [.bool true]]
/-- All letters are below N. -/
def LetsE (N : Nat) (es : List Ent) : Prop := ∀ e, e ∈ es → ∀ x, x ∈ e.2 → x < N
theorem addE_lets {N : Nat} {es : List Ent} (h : LetsE N es) {t : Nat} {w : List Nat} (hw : ∀ x, x ∈ w → x < N) : LetsE N (addE es t w) := by
  unfold addE
  split
  · exact h
  · intro e he
    rcases List.mem_append.1 he with he | he
    · exact h e he
    · simp at he; subst he; exact hw
theorem conv_word {w : World} {src dst e : TypeId} (hs : Try.prog.underlying src = some (.slice e)) (he : Try.prog.underlying e = some (.int .u8)) (hd : Try.prog.underlying dst = some .string) {a : Option Addr} {n c : Nat} {wd : List Nat} (h : SlOf (ValR letV) w (.slice a n c) wd) (hw : ∀ x, x ∈ wd → x < 3) :
    (convert src dst (.slice a n c)).run Try.prog w = .ok (.string (wordT wd)) w := by
  obtain ⟨a', c', hv, _, _, hx⟩ := h.shape
  simp at hv
  obtain ⟨rfl, rfl, rfl⟩ := hv
  cases a with
  | none =>
    have h0 : wd = [] := by
      cases wd with
      | nil => rfl
      | cons x t => obtain ⟨b, o, h1, _⟩ := hx (by simp); cases h1
    subst h0
    exact run_convert_bytes_nil w src e hs he _ _ dst hd
  | some ad =>
    have h1 := run_convert_bytes_back (P := Try.prog) w src dst e ad c (wd.map fun x => UInt8.ofNat (97 + x)) hs he hd (fun j hj => by
      have hjl : j < wd.length := by simpa using hj
      obtain ⟨b, o, e1, _, hc⟩ := hx (by omega)
      cases e1
      obtain ⟨x, hxj, _⟩ := at_lt hjl
      obtain ⟨u, hu, rfl⟩ := hc j x hxj
      have e2 : (⟨b, o, none⟩ : Addr).add j = ⟨b, o + j, none⟩ := by unfold Addr.add; split <;> simp_all
      have hx3 := hw x (List.mem_of_getElem? hxj)
      have e3 : wd[j] = x := by rw [List.getElem?_eq_getElem hjl] at hxj; exact Option.some.inj hxj
      rw [e2, hu]
      simp only [List.getElem_map, e3, letV]
      have e4 : (UInt8.ofNat (97 + x)).toNat = 97 + x := by simp; omega
      rw [e4]
      rfl)
    rw [List.length_map] at h1
    exact h1
set_option maxHeartbeats 2000000 in
set_option maxRecDepth 100000 in
theorem shortclo_c {w : World} {lo c : Nat} {rest : List Res} (hs : Sep lo w (Res.box c [.string ⟨#[]⟩] :: Res.box (c + 1) [.bool false] :: rest)) (hlo : lo ≤ w.heap.size) {s : Nat} (hs4 : s < 4096) {vw : Value} {wd : List Nat} (hrd : SlOf (ValR letV) w vw wd) (hw : ∀ x, x ∈ wd → x < 3) :
    Calls Try.prog 128 #[.int .i64 s, vw, .pointer (some ⟨c, 0, none⟩), .pointer (some ⟨c + 1, 0, none⟩)] w fun e w' => e = .returned (.bool (decide (popN s = 1))) ∧ Sep lo w' (shortB c (if popN s = 1 then some wd else none) ++ rest) ∧ Below lo w w' ∧ ∀ p : Addr, p.block ≠ c → p.block ≠ c + 1 → w'.cell? p = w.cell? p := by
  have C1 := Lib.hid (fun w => OnesCount_c s hs4 w)
  obtain ⟨hlc, hcs⟩ := hs.headBox
  obtain ⟨hc0, hf0⟩ := hcs.2 0 _ rfl
  obtain ⟨hlc2, hcs2⟩ := hs.tail.headBox
  obtain ⟨hc1, hf1⟩ := hcs2.2 0 _ rfl
  obtain ⟨a, vc, rfl, _, _, _⟩ := hrd.shape
  have hcv := conv_word Try.underlying117 Try.underlying5 Try.underlying9 hrd hw
  have h1 := hs.boxStore hlo (j := 0) (u0 := .string ⟨#[]⟩) rfl (.string (wordT wd))
  have h2 := (h1.swap).boxStore (by simp; exact hlo) (j := 0) (u0 := .bool false) rfl (.bool true)
  have HS := Lib.hid h2.swap
  have HS0 := Lib.hid hs
  have HB := Lib.hid (((Below.refl lo w).setCell (p := ⟨c, 0, none⟩) hlc (.string (wordT wd))).setCell (p := ⟨c + 1, 0, none⟩) (by simp; omega) (.bool true))
  have hur : IntKind.u64.wrap (s : Int) = (s : Int) := IntWalk.u64_in _ (by omega)
  generalize popN s = y at C1 ⊢
  clear hs hlo hs4 hlc hcs hcs2 hlc2 h1 h2 hrd hw
  by_cases hy : y = 1
  · subst hy
    go_enter Try.func128, Try.ntmps128
    go_wp2_with fail
    refine (C1.out _).mono ?_
    rintro e w' ⟨rfl, rfl⟩
    go_wp2
    go_ret
    exact ⟨rfl, HS.out, HB.out, fun p hp hq => (World.cell?_setCell_other _ _ _ _ (fun e2 => hq (by rw [← e2]))).trans (World.cell?_setCell_other _ _ _ _ (fun e2 => hp (by rw [← e2])))⟩
  · have t1 : ((y : Int) == 1) = false := by simp; omega
    have HF := Lib.hid (show decide (y = 1) = false from decide_eq_false hy)
    have HN := Lib.hid (show (if y = 1 then some wd else none) = none from if_neg hy)
    rw [HF.out, HN.out]
    go_enter Try.func128, Try.ntmps128
    go_wp2_with fail
    refine (C1.out _).mono ?_
    rintro e w' ⟨rfl, rfl⟩
    go_wp2
    go_ret
    exact ⟨rfl, HS0.out, Below.refl _ _, fun _ _ _ => rfl⟩
end Go.Proofs.Ytjgiobapdkdhpaa
