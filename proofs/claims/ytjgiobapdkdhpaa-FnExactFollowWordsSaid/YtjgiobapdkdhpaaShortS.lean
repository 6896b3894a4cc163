/-
  ShortestSync, the reference's.
-/
import Derived.Test.YtjgiobapdkdhpaaRows
import Derived.Test.YtjgiobapdkdhpaaBase
import Derived.Test.YtjgiobapdkdhpaaHarn
import Derived.Test.YtjgiobapdkdhpaaLab
import Derived.Test.YtjgiobapdkdhpaaLabC
import Derived.Test.YtjgiobapdkdhpaaLabM
import Derived.Test.YtjgiobapdkdhpaaLabStep
import Derived.Test.YtjgiobapdkdhpaaResolv
import Derived.Test.YtjgiobapdkdhpaaRank
import Derived.Test.YtjgiobapdkdhpaaBfsM
import Derived.Test.YtjgiobapdkdhpaaLeastRS
import Derived.Test.YtjgiobapdkdhpaaShortCl
import Derived.Test.YtjgiobapdkdhpaaReachS
import Derived.Test.YtjgiobapdkdhpaaReadS
import Derived.Test.YtjgiobapdkdhpaaWalkH
import Derived.Test.YtjgiobapdkdhpaaStep
import Derived.Test.YtjgiobapdkdhpaaRegM
import Derived.IntWalk
import Derived.Deep.RegionHeld3
import Derived.Deep.DeepCutAuto
namespace Go.Proofs.Ytjgiobapdkdhpaa
open Go.RowKit Go.Deep Go.Sd
set_option linter.unusedSimpArgs false
def shortM (l : Lb) : Option (List Nat) := if resolvM l = true then reachE l.2.2 l.1.toNat 16 cbShort 4096 [(allN l.2.1, [])] 0 none else none
def txt : Option (List Nat) → ByteArray
  | none => ⟨#[]⟩
  | some wd => wordT wd
abbrev Res.strs (e : TypeId) (v : Value) (xs : List ByteArray) : Res := Res.of (OwnOf e (OValR Value.string)) (OwnOf.kept (⟨fun _ _ _ _ _ h _ => h, fun _ _ _ _ h b hb => by rw [h.2] at hb; simp at hb, fun _ _ _ _ h => by rw [h.1]; rfl⟩ : Kept (OValR Value.string))).held v xs
theorem OStr.kept : Kept (OValR Value.string) := ⟨fun _ _ _ _ _ h _ => h, fun _ _ _ _ h b hb => by rw [h.2] at hb; simp at hb, fun _ _ _ _ h => by rw [h.1]; rfl⟩
theorem _root_.Go.Sd.Sep.strsAt {lo : Nat} {w : World} {e : TypeId} {v : Value} {xs : List ByteArray} {rs : List Res} (h : Sep lo w (Res.strs e v xs :: rs)) : ∃ a c, v = .slice a xs.length c ∧ (0 < xs.length → ∃ b, a = some ⟨b, 0, none⟩ ∧ b < w.heap.size ∧ ∀ i x, xs[i]? = some x → w.cell? ⟨b, i, none⟩ = some (.string x)) := by
  obtain ⟨G, hG, hf, _⟩ := h.head
  have hG' : OwnOf e (OValR Value.string) w v xs G := hG
  have hrd : SlOf (ValR Value.string) w v xs := OwnOf.reads (fun _ _ _ _ h => h.1) hG'
  obtain ⟨a, c, rfl, _, _, h1⟩ := hrd.shape
  refine ⟨a, c, rfl, fun h0 => ?_⟩
  obtain ⟨b, o, rfl, hb, hx⟩ := h1 h0
  obtain ⟨x0, hx0, _⟩ := at_lt h0
  obtain ⟨b', c', u, G2, hv, _⟩ := hG'.focus OStr.kept hf.1 hx0
  have e1 : b = b' ∧ o = 0 := by simp at hv; exact ⟨hv.1.1, hv.1.2⟩
  obtain ⟨rfl, rfl⟩ := e1
  refine ⟨b, rfl, hb, fun i x hi => ?_⟩
  obtain ⟨u, hu, rfl⟩ := hx i x hi
  simpa using hu
theorem infoStr : (Try.prog.info? 9).map (fun i => (i.zero, i.size, i.bytes)) = some (some (.string ⟨#[]⟩), 1, 16) := by kernel_rfl
abbrev wrdL (es : List Ent) : List ByteArray := es.map fun e => wordT e.2
theorem wordT_snoc (wd : List Nat) (x : Nat) : wordT wd ++ wordT [x] = wordT (wd ++ [x]) := by
  apply ByteArray.ext
  simp [wordT, ByteArray.data_append]
theorem abc_at {x : Nat} (h : x < 3) : (⟨#[97, 98, 99]⟩ : ByteArray).extract x (x + 1) = wordT [x] := by
  match x, h with
  | 0, _ => rfl
  | 1, _ => rfl
  | 2, _ => rfl
theorem abc_slice {x : Nat} (h : x < 3) (w : World) : (Instr.slice 9 (.string ⟨#[97, 98, 99]⟩) (some (.int .i64 (x : Int))) (some (.int .i64 ((x : Int) + 1))) none).run Try.prog w = .ok (.string (wordT [x])) w := by
  obtain rfl | rfl | rfl : x = 0 ∨ x = 1 ∨ x = 2 := by omega
  · exact show (Instr.slice 9 (.string ⟨#[97, 98, 99]⟩) (some (.int .i64 0)) (some (.int .i64 1)) none).run Try.prog w = .ok (.string ⟨#[97]⟩) w by kernel_rfl
  · exact show (Instr.slice 9 (.string ⟨#[97, 98, 99]⟩) (some (.int .i64 1)) (some (.int .i64 2)) none).run Try.prog w = .ok (.string ⟨#[98]⟩) w by kernel_rfl
  · exact show (Instr.slice 9 (.string ⟨#[97, 98, 99]⟩) (some (.int .i64 2)) (some (.int .i64 3)) none).run Try.prog w = .ok (.string ⟨#[99]⟩) w by kernel_rfl
set_option maxHeartbeats 4000000 in
set_option maxRecDepth 100000 in
theorem spec_ShortestSync_c {w : World} {v : Value} {l : Lb} (h : LabR w v l) :
    Calls Try.prog 56 #[v] w fun e w' => e = .returned (.tuple #[.string (txt (shortM l)), .bool (shortM l).isSome]) ∧ Below w.heap.size w w' := by
  have H1 := Lib.hid (fun w1 (hb : Below w.heap.size w w1) => spec_IsResolving_c (LabR.frame _ _ _ _ h hb))
  have Hfr := Lib.hid (fun w1 (hb : Below w.heap.size w w1) => LabR.frame _ _ _ _ h hb)
  obtain ⟨T, hT⟩ : ∃ T, T = shortM l := ⟨_, rfl⟩
  rw [← hT]
  have HT := Lib.hid hT
  clear hT
  have Hok := Lib.hid (fun h => resolv_facts (l := l) h)
  have HF0 := Lib.hid (fun (h : resolvM l = false) => (show shortM l = none from by unfold shortM; rw [h]; rfl))
  generalize hil : resolvM l = il at H1
  have Hil := Lib.hid hil
  clear hil
  obtain ⟨L, S, xs⟩ := l
  obtain ⟨_, rfl, -, a, c, rfl, -, -, -, -⟩ := h
  simp only at *
  generalize hn : xs.length = n at *
  clear hn
  obtain ⟨w1, ex, hb1, c0, c1, c2, m1⟩ := boxA3_ex w 28 (.int .i64 L) (.int .i64 S) (.slice a n c)
  have A1 := Lib.hid hb1
  clear hb1
  go_enter Try.func56, Try.ntmps56
  go_wp2_with fail
  refine (H1.out _ A1.out).mono ?_
  rintro e w2 ⟨rfl, hb1⟩
  replace c0 := (hb1.cell (p := ⟨w.heap.size, 0, none⟩) m1).trans c0
  replace c1 := (hb1.cell (p := ⟨w.heap.size, 1, none⟩) m1).trans c1
  replace c2 := (hb1.cell (p := ⟨w.heap.size, 2, none⟩) m1).trans c2
  have m2 : w.heap.size < w2.heap.size := Nat.lt_of_lt_of_le m1 hb1.size
  replace A1 := Lib.hid (A1.out.trans (hb1.mono A1.out.size))
  clear hb1 ex H1 m1
  cases il with
  | false =>
    have HF := Lib.hid (show T = none from by rw [HT.out]; exact HF0.out Hil.out)
    clear HT HF0 Hil Hok Hfr
    go_wp2
    go_ret2
    exact ⟨by rw [HF.out]; rfl, A1.out⟩
  | true =>
  have Hil2 := Lib.hid (Hok.out Hil.out)
  clear Hok HF0
  obtain ⟨ho, hS1, hS2, hL1, hL2⟩ := Hil2.out
  obtain ⟨N, rfl⟩ := Int.eq_ofNat_of_zero_le (show 0 ≤ L by omega)
  obtain ⟨q, rfl⟩ := Int.eq_ofNat_of_zero_le (show 0 ≤ S by omega)
  have HT2 := Lib.hid (show reachE xs N 16 cbShort 4096 [(allN (q : Int), [])] 0 none = T from by rw [HT.out]; unfold shortM; rw [Hil.out, if_pos rfl]; rfl)
  obtain ⟨P, hP, hP1, hP2, hwp⟩ := shl_one q (by omega)
  obtain ⟨A, rfl⟩ : ∃ x, P = x + 1 := ⟨P - 1, by omega⟩
  have hA : allN (q : Int) = A := by unfold allN; rw [show (q : Int).toNat = q from rfl, hP]; rfl
  have hok := all_ok hS1 hS2
  rw [hA] at HT2 hok
  replace hwp : wrap64 (2 ^ q) = (A : Int) + 1 := by rw [hwp]; omega
  have hwA : wrap64 (A : Int) = (A : Int) := IntWalk.wrap64_in _ (by omega)
  have HO := Lib.hid (show OkE [(A, [])] from hok)
  have HI := Lib.hid (show InvS N [(A, [])] from ⟨fun e he => by simp at he; subst he; simp, fun e he x hx => by simp at he; subst he; simp at hx⟩)
  have HSt := Lib.hid (fun w' (hb : Below w.heap.size w w') q (hq : q < 4096) x => spec_step_c (Hfr.out w' hb) ho hS2 hq x)
  have Hlt := Lib.hid (fun q x => stepN_lt ho hS2 q x)
  simp only at HSt Hlt
  have hp1 : q < 64 := by omega
  have hN3 : N ≤ 3 := by omega
  clear hP hA hok ho hS1 hS2 hL1 hL2 hP1 hP2 Hfr HT Hil Hil2
  go_wp2
  clear hwp hwA hp1
  obtain ⟨w3, e3⟩ : ∃ x, x = ((w2.alloc (.cells #[.int .i64 (A : Int)] 3)).alloc (.cells #[.string ⟨#[]⟩] 9)) := ⟨_, rfl⟩
  rw [← e3]
  have HS0 : Hid (Sep w2.heap.size w3 [Res.ints 3 (.slice (some ⟨w2.heap.size, 0, none⟩) 1 1) (natL ([(A, ([] : List Nat))].map (·.1))), Res.strs 9 (.slice (some ⟨w2.heap.size + 1, 0, none⟩) 1 1) (wrdL [(A, ([] : List Nat))])]) := Lib.hid (by
    have h1 := (Sep.nil w2.heap.size w2).new (OInts.kept 3).held ((Below.refl _ _).alloc (Nat.le_refl _) _) (Nat.le_refl _) (New.oneInt (e := 3) w2 (A : Int))
    have hz : (w2.alloc (.cells #[.int .i64 (A : Int)] 3)).heap.size = w2.heap.size + 1 := by simp
    have h2 := h1.new (OwnOf.kept OStr.kept).held ((Below.refl _ _).alloc (Nat.le_refl _) _) (by simp) (New.oneG (e := 9) OStr.kept (lo := (w2.alloc (.cells #[.int .i64 (A : Int)] 3)).heap.size) (w := w2.alloc (.cells #[.int .i64 (A : Int)] 3)) (u := .string ⟨#[]⟩) (x := ⟨#[]⟩) ⟨[], ⟨rfl, rfl⟩, by simp [Fresh]⟩ (Nat.le_refl _))
    rw [hz, ← e3] at h2
    exact h2.swap)
  have HB0 := Lib.hid (show Below w2.heap.size w2 w3 from by rw [e3]; exact ((Below.refl _ _).alloc (Nat.le_refl _) _).alloc (by simp) _)
  have K0 := Lib.hid c0
  have K1 := Lib.hid c1
  have K2 := Lib.hid c2
  clear e3 c0 c1 c2
  go_loopg [4, 5, 6] 4096 (fun g vs vw i wr => ∃ (k : Nat) (es : List Ent) (la wa : Option Addr) (lc wc : Nat), vs = .slice la es.length lc ∧ vw = .slice wa es.length wc ∧ i = .int .i64 k ∧ k + g = 4096 ∧ Hid (OkE es) ∧ Hid (InvS N es) ∧ Hid (reachE xs N 16 cbShort g es k none = T) ∧ Hid (Sep w2.heap.size wr [Res.ints 3 vs (natL (es.map (·.1))), Res.strs 9 vw (wrdL es)]) ∧ Hid (Below w2.heap.size w2 wr))
  case atStart => exact ⟨0, [(A, [])], _, _, _, _, rfl, rfl, rfl, by omega, HO, HI, HT2, HS0, HB0⟩
  case round =>
    clear HO HI HT2 HS0 HB0
    obtain ⟨k, es, la, wa, lc, wc, rfl, rfl, rfl, hk, HO, HI, HT, HS, HB⟩ := hrel
    obtain ⟨wq, rfl⟩ : ∃ x, x = wr := ⟨_, rfl⟩
    have Hl := Lib.hid HO.out.len
    by_cases hlt : k < es.length
    · obtain ⟨⟨s, wd⟩, he, _⟩ := at_lt hlt
      obtain ⟨g, rfl⟩ : ∃ x, gk = x + 1 := ⟨gk - 1, by have := Hl.out; omega⟩
      have hs4 : s < 4096 := (HO.out.2 s (List.mem_map.2 ⟨(s, wd), List.mem_of_getElem? he, rfl⟩)).2
      obtain ⟨_, _, hv, _, hq⟩ := HS.out.intsAt
      obtain ⟨bl, e1, hbl, hcl⟩ := hq (by simp; omega)
      obtain ⟨_, _, hv2, hq2⟩ := HS.out.swap.strsAt
      obtain ⟨bw, e2, hbw, hcw⟩ := hq2 (by simp; omega)
      simp at hv hv2
      obtain ⟨rfl, rfl⟩ := hv
      obtain ⟨rfl, rfl⟩ := hv2
      subst e1
      subst e2
      have f0 := hcl k (s : Int) (by simp [he])
      have f1 := hcw k (wordT wd) (by simp [he])
      have C0 := Lib.hid (fun w => l16Only_c s hs4 w)
      have hop := only_pop s hs4
      have hki : (k : Int) < (es.length : Int) := by omega
      have HE := Lib.hid he
      have hwl : wd.length ≤ 16 := HI.out.1 _ (List.mem_of_getElem? he)
      have hws : (wordT wd).size = wd.length := by simp [wordT, ByteArray.size]
      have HT2 := Lib.hid (show if popN s = 1 then some wd = T else reachE xs N 16 cbShort g (if wd.length = 16 then es else rowE xs s wd N 0 es) (k + 1) none = T from by have h := HT.out; unfold reachE at h; rw [he] at h; simp only [cbShort, nextE] at h; split <;> rename_i hp <;> simp only [hp, if_true, if_false] at h <;> exact h)
      generalize popN s = pp at hop HT2
      generalize onlyN s = oo at hop C0
      have Hop := Lib.hid hop
      clear HT he hcl hq hcw hq2 hop
      go_wp2_with fail
      refine (C0.out _).mono ?_
      rintro e w' ⟨rfl, rfl⟩
      by_cases hpp : pp = 1
      · have hoo : 0 ≤ oo := by have h := Hop.out; rw [decide_eq_true hpp] at h; exact of_decide_eq_true h.symm
        have HF := Lib.hid (show T = some wd from by have h := HT2.out; rw [if_pos hpp] at h; exact h.symm)
        have Hz := Lib.hid (A1.out.trans (HB.out.mono A1.out.size))
        clear HT2 HO HI HS HB hpp
        go_wp2
        go_ret2
        exact ⟨by rw [HF.out]; rfl, Hz.out⟩
      have hoo : ¬ (0 ≤ oo) := by have h := Hop.out; rw [decide_eq_false hpp] at h; exact of_decide_eq_false h.symm
      have HT3 := Lib.hid (show reachE xs N 16 cbShort g (if wd.length = 16 then es else rowE xs s wd N 0 es) (k + 1) none = T from by have h := HT2.out; rwa [if_neg hpp] at h)
      have hz := HB.out.size
      have xc0 := (HB.out.cell (p := ⟨w.heap.size, 0, none⟩) m2).trans K0.out
      clear HT2 hpp Hop C0
      by_cases h16 : wd.length = 16
      · have HTy := Lib.hid (show reachE xs N 16 cbShort g es (k + 1) none = T from by have h := HT3.out; rwa [if_pos h16] at h)
        have t7 : ¬ ((wd.length : Int) < 16) := by omega
        rw [h16] at hws
        have hl := Hl.out
        clear HT3 HE
        go_wp2
        go_loopg [4, 5, 7] 0 (fun g2 vs vw i wx => vs = .slice (some ⟨bl, 0, none⟩) es.length lc ∧ vw = .slice (some ⟨bw, 0, none⟩) es.length wc ∧ i = .int .i64 0 ∧ wq = wx)
        case atStart => exact ⟨rfl, rfl, rfl, rfl⟩
        case round =>
          obtain ⟨rfl, rfl, rfl, rfl⟩ := hrel
          by_cases hN0 : (0 : Int) < (N : Int)
          · go_wp2
            go_roundg g
            case measure => omega
            case rel => exact ⟨k + 1, es, _, _, _, _, rfl, rfl, by go_num, by omega, HO, HI, HTy, HS, HB⟩
          · go_wp2
            go_roundg g
            case measure => omega
            case rel => exact ⟨k + 1, es, _, _, _, _, rfl, rfl, by go_num, by omega, HO, HI, HTy, HS, HB⟩
      have HT4 := Lib.hid (show reachE xs N 16 cbShort g (rowE xs s wd N 0 es) (k + 1) none = T from by have h := HT3.out; rwa [if_neg h16] at h)
      have t7 : (wd.length : Int) < 16 := by omega
      have Hw16 := Lib.hid (show wd.length < 16 from by omega)
      clear HT3 h16 f0 f1 xc0 hbl hbw
      go_wp2
      go_loopg [4, 5, 7] N (fun g2 vs vw i wx => ∃ (x : Nat) (es : List Ent) (la wa : Option Addr) (lc wc : Nat), vs = .slice la es.length lc ∧ vw = .slice wa es.length wc ∧ i = .int .i64 x ∧ x + g2 = N ∧ k < es.length ∧ Hid (OkE es) ∧ Hid (InvS N es) ∧ Hid (es[k]? = some (s, wd)) ∧ Hid (reachE xs N 16 cbShort g (rowE xs s wd g2 x es) (k + 1) none = T) ∧ Hid (Sep w2.heap.size wx [Res.ints 3 vs (natL (es.map (·.1))), Res.strs 9 vw (wrdL es)]) ∧ Hid (Below w2.heap.size w2 wx))
      case atStart => exact ⟨0, es, _, _, _, _, rfl, rfl, rfl, by omega, hlt, HO, HI, HE, HT4, HS, HB⟩
      case round =>
        clear HO HI HE HT4 HS HB Hl hlt hki hz
        obtain ⟨x, es, la, wa, lc, wc, rfl, rfl, rfl, hx, hlt, HO, HI, HE, HT2, HS, HB⟩ := hrel
        obtain ⟨wx, rfl⟩ : ∃ x, x = wr := ⟨_, rfl⟩
        have Hl := Lib.hid HO.out.len
        have xc0 := (HB.out.cell (p := ⟨w.heap.size, 0, none⟩) m2).trans K0.out
        have xc1 := (HB.out.cell (p := ⟨w.heap.size, 1, none⟩) m2).trans K1.out
        have xc2 := (HB.out.cell (p := ⟨w.heap.size, 2, none⟩) m2).trans K2.out
        have hz := HB.out.size
        by_cases hxl : x < N
        · obtain ⟨g2, hg2⟩ : ∃ y, gk = y + 1 := ⟨gk - 1, by omega⟩
          subst hg2
          obtain ⟨_, _, hv, _, hq⟩ := HS.out.intsAt
          obtain ⟨bl, e1, hbl, hcl⟩ := hq (by simp; omega)
          obtain ⟨_, _, hv2, hq2⟩ := HS.out.swap.strsAt
          obtain ⟨bw, e2, hbw, hcw⟩ := hq2 (by simp; omega)
          simp at hv hv2
          obtain ⟨rfl, rfl⟩ := hv
          obtain ⟨rfl, rfl⟩ := hv2
          subst e1
          subst e2
          have f0 := hcl k (s : Int) (by simp [HE.out])
          have f1 := hcw k (wordT wd) (by simp [HE.out])
          have Hcl := Lib.hid hcl
          have HA := Lib.hid (A1.out.trans (HB.out.mono A1.out.size))
          have C1 := Lib.hid (fun w' (hb : Below w.heap.size w w') => HSt.out w' hb s hs4 (x : Int))
          have Htl := Lib.hid (Hlt.out s (x : Int))
          have HTx := Lib.hid (show reachE xs N 16 cbShort g (rowE xs s wd g2 (x + 1) (addE es (stepN xs s (x : Int)) (wd ++ [x]))) (k + 1) none = T from HT2.out)
          generalize stepN xs s (x : Int) = t at C1 Htl HTx
          have hkl : (k : Int) < (es.length : Int) := by omega
          have hxN : (x : Int) < (N : Int) := by omega
          have hS0 : wx.cell? ⟨w.heap.size, 0, none⟩ = some (.int .i64 (N : Int)) ∧ wx.cell? ⟨w.heap.size, 1, none⟩ = some (.int .i64 (q : Int)) ∧ wx.cell? ⟨w.heap.size, 2, none⟩ = some (.slice a n c) ∧ wx.cell? ⟨bl, k, none⟩ = some (.int .i64 (s : Int)) := ⟨xc0, xc1, xc2, f0⟩
          have hSd : wx.drew.cell? ⟨w.heap.size, 0, none⟩ = some (.int .i64 (N : Int)) ∧ wx.drew.cell? ⟨w.heap.size, 1, none⟩ = some (.int .i64 (q : Int)) ∧ wx.drew.cell? ⟨w.heap.size, 2, none⟩ = some (.slice a n c) ∧ wx.drew.cell? ⟨bl, k, none⟩ = some (.int .i64 (s : Int)) := hS0
          have m1x : w.heap.size < wx.heap.size := by omega
          have HSS := Lib.hid (fun (w' : World) (hb3 : Below wx.heap.size wx w') => (show w'.cell? ⟨w.heap.size, 0, none⟩ = some (.int .i64 (N : Int)) ∧ w'.cell? ⟨w.heap.size, 1, none⟩ = some (.int .i64 (q : Int)) ∧ w'.cell? ⟨w.heap.size, 2, none⟩ = some (.slice a n c) ∧ w'.cell? ⟨bl, k, none⟩ = some (.int .i64 (s : Int)) from ⟨(hb3.cell (p := ⟨w.heap.size, 0, none⟩) m1x).trans hS0.1, (hb3.cell (p := ⟨w.heap.size, 1, none⟩) m1x).trans hS0.2.1, (hb3.cell (p := ⟨w.heap.size, 2, none⟩) m1x).trans hS0.2.2.1, (hb3.cell (p := ⟨bl, k, none⟩) hbl).trans hS0.2.2.2⟩))
          have B1 := (Below.refl wx.heap.size wx).drew
          have HA1 := HA.out.trans (B1.mono HA.out.size)
          have F1 := Lib.hid f1
          clear hcl hq hcw hq2 HT2 f0 xc1 xc2
          go_wp2
          go_region_held3 (fun w' => w'.cell? ⟨w.heap.size, 0, none⟩ = some (.int .i64 (N : Int)) ∧ w'.cell? ⟨w.heap.size, 1, none⟩ = some (.int .i64 (q : Int)) ∧ w'.cell? ⟨w.heap.size, 2, none⟩ = some (.slice a n c) ∧ w'.cell? ⟨bl, k, none⟩ = some (.int .i64 (s : Int)))
            (first | with_reducible exact hS1 | with_reducible exact hSd | with_reducible exact hS0 | go_keep)
            ((first
              | (go_at_call 107; (with_reducible refine (C1.out _ HA1).mono ?_); rintro e w4 ⟨rfl, hb2⟩; have hb3 := B1.trans hb2; have hS1 := HSS.out w4 hb3; clear hb2)
              | fail))
          clear hS0 hSd HSS B1 HA1 hS1 xc0 f1
          have H34 := Lib.hid hb3
          have hz4 := hb3.size
          have HS4 := Lib.hid (HS.out.below hb3 (Nat.le_refl _))
          have HB4 := Lib.hid (HB.out.trans (hb3.mono hz))
          have Hk := Lib.hid (fun (i : Nat) (z : Ent) (hi : es[i]? = some z) => (show w4.cell? ⟨bl, i, none⟩ = some (.int .i64 (z.1 : Int)) from (H34.out.cell (p := ⟨bl, i, none⟩) hbl).trans (Hcl.out i (z.1 : Int) (by simp [hi]))))
          have f1 := (hb3.cell (p := ⟨bw, k, none⟩) hbw).trans F1.out
          have hbl4 : bl < w4.heap.size := by omega
          have hbw4 : bw < w4.heap.size := by omega
          have hz24 : w2.heap.size ≤ w4.heap.size := by omega
          clear HS HB H34 Hcl hbl hbw hb3 HA C1 hz4 F1 hz
          have hl := Hl.out
          by_cases ht0 : t = 0
          · subst ht0
            go_wp2
            go_loopg [9, 10] es.length (fun g3 kn i wy => ∃ (j : Nat) (kb : Bool), kn = .bool kb ∧ i = .int .i64 j ∧ j + g3 = es.length ∧ Hid (kb = true ↔ (0 = 0 ∨ 0 ∈ (es.map (·.1)).take j)) ∧ w4 = wy)
            case atStart => exact ⟨0, true, rfl, rfl, by omega, Lib.hid (by simp), rfl⟩
            case round =>
              obtain ⟨j, kb, rfl, rfl, hj, HK, rfl⟩ := hrel
              by_cases hjl : j < es.length
              · obtain ⟨z, hzz, _⟩ := at_lt hjl
                have g0 := Hk.out j z hzz
                have HT := Lib.hid (show (es.map (·.1)).take (j + 1) = (es.map (·.1)).take j ++ [z.1] from (take_snoc' (by simp [hzz])).symm)
                have hji : (j : Int) < (es.length : Int) := by omega
                obtain ⟨z1, z2⟩ := z
                simp only at g0 HT
                clear hzz
                cases kb with
                | true =>
                  go_wp2
                  go_roundg (es.length - (j + 1))
                  case measure => omega
                  case rel => exact ⟨j + 1, true, rfl, by go_num, by omega, Lib.hid (by rw [HT.out]; have h := HK.out; simp only [true_iff] at h ⊢; exact h.imp id fun h => List.mem_append_left _ h), rfl⟩
                | false =>
                  by_cases q1 : z1 = 0
                  · subst q1
                    skip
                    go_wp2
                    go_roundg (es.length - (j + 1))
                    case measure => omega
                    case rel => exact ⟨j + 1, true, rfl, by go_num, by omega, Lib.hid (by rw [HT.out]; simp), rfl⟩
                  · have t1 : ((z1 : Int) == (0 : Int)) = false := by simp; omega
                    go_wp2
                    go_roundg (es.length - (j + 1))
                    case measure => omega
                    case rel => exact ⟨j + 1, false, rfl, by go_num, by omega, Lib.hid (by rw [HT.out]; have h := HK.out; simp only [Bool.false_eq_true, false_iff, not_or] at h ⊢; refine ⟨h.1, fun hm => ?_⟩; rcases List.mem_append.1 hm with hm | hm; exact h.2 hm; simp at hm; omega), rfl⟩
              · have e : j = es.length := by omega
                subst e
                have HK2 := Lib.hid (show kb = true ↔ (0 = 0 ∨ 0 ∈ es.map (·.1)) from by have h := HK.out; rwa [List.take_of_length_le (by simp)] at h)
                clear HK Hk
                cases kb with
                | true =>
                  have HTy := Lib.hid (show reachE xs N 16 cbShort g (rowE xs s wd g2 (x + 1) es) (k + 1) none = T from by have h := HTx.out; rwa [show addE es 0 (wd ++ [x]) = es from by unfold addE; rw [if_pos (HK2.out.1 rfl)]] at h)
                  clear HTx HK2
                  go_wp2
                  go_roundg (N - (x + 1))
                  case measure => omega
                  case rel => exact ⟨x + 1, es, _, _, _, _, rfl, rfl, by go_num, by omega, hlt, HO, HI, HE, by rw [show N - (x + 1) = g2 by omega]; exact HTy, HS4, HB4⟩
                | false =>
                  exact absurd (HK2.out.2 (Or.inl rfl)) (by simp)
          · have ht1 : 0 < t := by omega
            have ht3 : ((t : Int) == 0) = false := by simp; omega
            go_wp2
            go_loopg [9, 10] es.length (fun g3 kn i wy => ∃ (j : Nat) (kb : Bool), kn = .bool kb ∧ i = .int .i64 j ∧ j + g3 = es.length ∧ Hid (kb = true ↔ (t = 0 ∨ t ∈ (es.map (·.1)).take j)) ∧ w4 = wy)
            case atStart => exact ⟨0, false, rfl, rfl, by omega, Lib.hid (by simp; omega), rfl⟩
            case round =>
              obtain ⟨j, kb, rfl, rfl, hj, HK, rfl⟩ := hrel
              by_cases hjl : j < es.length
              · obtain ⟨z, hzz, _⟩ := at_lt hjl
                have g0 := Hk.out j z hzz
                have HT := Lib.hid (show (es.map (·.1)).take (j + 1) = (es.map (·.1)).take j ++ [z.1] from (take_snoc' (by simp [hzz])).symm)
                have hji : (j : Int) < (es.length : Int) := by omega
                obtain ⟨z1, z2⟩ := z
                simp only at g0 HT
                clear hzz
                cases kb with
                | true =>
                  go_wp2
                  go_roundg (es.length - (j + 1))
                  case measure => omega
                  case rel => exact ⟨j + 1, true, rfl, by go_num, by omega, Lib.hid (by rw [HT.out]; have h := HK.out; simp only [true_iff] at h ⊢; exact h.imp id fun h => List.mem_append_left _ h), rfl⟩
                | false =>
                  by_cases q1 : z1 = t
                  · subst q1
                    have t1 : ((z1 : Int) == (z1 : Int)) = true := by simp
                    go_wp2
                    go_roundg (es.length - (j + 1))
                    case measure => omega
                    case rel => exact ⟨j + 1, true, rfl, by go_num, by omega, Lib.hid (by rw [HT.out]; simp), rfl⟩
                  · have t1 : ((z1 : Int) == (t : Int)) = false := by simp; omega
                    go_wp2
                    go_roundg (es.length - (j + 1))
                    case measure => omega
                    case rel => exact ⟨j + 1, false, rfl, by go_num, by omega, Lib.hid (by rw [HT.out]; have h := HK.out; simp only [Bool.false_eq_true, false_iff, not_or] at h ⊢; refine ⟨h.1, fun hm => ?_⟩; rcases List.mem_append.1 hm with hm | hm; exact h.2 hm; simp at hm; omega), rfl⟩
              · have e : j = es.length := by omega
                subst e
                have HK2 := Lib.hid (show kb = true ↔ (t = 0 ∨ t ∈ es.map (·.1)) from by have h := HK.out; rwa [List.take_of_length_le (by simp)] at h)
                clear HK Hk
                cases kb with
                | true =>
                  have HTy := Lib.hid (show reachE xs N 16 cbShort g (rowE xs s wd g2 (x + 1) es) (k + 1) none = T from by have h := HTx.out; rwa [show addE es t (wd ++ [x]) = es from by unfold addE; rw [if_pos (HK2.out.1 rfl)]] at h)
                  clear HTx HK2
                  go_wp2
                  go_roundg (N - (x + 1))
                  case measure => omega
                  case rel => exact ⟨x + 1, es, _, _, _, _, rfl, rfl, by go_num, by omega, hlt, HO, HI, HE, by rw [show N - (x + 1) = g2 by omega]; exact HTy, HS4, HB4⟩
                | false =>
                  have hnm : ¬ (t = 0 ∨ t ∈ es.map (·.1)) := fun hm => by have := HK2.out.2 hm; cases this
                  have eadd : addE es t (wd ++ [x]) = es ++ [(t, wd ++ [x])] := by unfold addE; rw [if_neg hnm]
                  have HTy := Lib.hid (show reachE xs N 16 cbShort g (rowE xs s wd g2 (x + 1) (es ++ [(t, wd ++ [x])])) (k + 1) none = T from by have h := HTx.out; rwa [eadd] at h)
                  have HO2 := Lib.hid (show OkE (es ++ [(t, wd ++ [x])]) from by have h := HO.out.add Htl.out (wd ++ [x]); rwa [eadd] at h)
                  have HI2 := Lib.hid (show InvS N (es ++ [(t, wd ++ [x])]) from by have h := addE_capped HI.out.1 (t := t) (w := wd ++ [x]) (by simp; have := Hw16.out; omega); have h' := addE_lets HI.out.2 (t := t) (w := wd ++ [x]) (fun y hy => by rcases List.mem_append.1 hy with hy | hy; exact HI.out.2 _ (List.mem_of_getElem? HE.out) y hy; simp at hy; omega); rw [eadd] at h h'; exact ⟨h, h'⟩)
                  have HE2 := Lib.hid (show (es ++ [(t, wd ++ [x])])[k]? = some (s, wd) from by rw [List.getElem?_append_left hlt]; exact HE.out)
                  obtain ⟨la', lc', w6, hr6, hS6, hb6⟩ := Sep.pushInt (P := Try.prog) 78 78 Try.underlying78 infoI HS4.out hz24 (t : Int) (by simp; omega) 3
                  have hz6 := hb6.size
                  have e6 : natL (es.map (·.1)) ++ [(t : Int)] = natL ((es ++ [(t, wd ++ [x])]).map (·.1)) := by simp
                  have e6' : (natL ((es ++ [(t, wd ++ [x])]).map (·.1))).length = es.length + 1 := by simp
                  rw [e6, e6'] at hr6 hS6
                  obtain ⟨_, _, hv2, hq2⟩ := hS6.swap.strsAt
                  obtain ⟨bw2, e2, hbw, hcw⟩ := hq2 (by simp; omega)
                  simp at hv2
                  obtain ⟨rfl, rfl⟩ := hv2
                  cases e2
                  have f6 := hcw k (wordT wd) (by simp [HE.out])
                  have hb6a : Below w6.heap.size w6 ((w6.alloc (.cells #[.string (wordT (wd ++ [x]))] 9)).drew) := ((Below.refl _ _).alloc (Nat.le_refl _) _).drew
                  obtain ⟨v7, w7, hr7, hS7, hb7⟩ := Sep.push (P := Try.prog) OStr.kept 66 66 (.string ⟨#[]⟩) 16 Try.underlying66 infoStr rfl hS6.swap (by omega) hb6a (q := .string (wordT (wd ++ [x]))) (x := wordT (wd ++ [x])) ⟨[], ⟨rfl, rfl⟩, by simp [Fresh]⟩ (bb := w6.heap.size) (c := 1) (World.cell?_alloc_at _ _ _ 0 rfl) (by simp; omega) (by simp; omega)
                  have e7 : wrdL es ++ [wordT (wd ++ [x])] = wrdL (es ++ [(t, wd ++ [x])]) := by simp
                  obtain ⟨wa', wc', rfl, _⟩ := hS7.strsAt
                  have e7' : (wrdL (es ++ [(t, wd ++ [x])])).length = es.length + 1 := by simp
                  rw [e7, e7'] at hr7 hS7
                  have HS7 := Lib.hid hS7.swap
                  have HB7 := Lib.hid (HB4.out.trans (hb6.trans hb7))
                  have Hr6 := Lib.hid hr6
                  have Hr := Lib.hid hr7
                  have Hlt' := Lib.hid (show k < (es ++ [(t, wd ++ [x])]).length from by simp; omega)
                  have E5 := Lib.hid (show (es ++ [(t, wd ++ [x])]).length = es.length + 1 from by simp)
                  have habc := fun w => abc_slice (x := x) (by omega) w
                  have hcat := wordT_snoc wd x
                  have hsz1 : (wordT [x]).size = 1 := by simp [wordT, ByteArray.size]
                  have hsz2 : ¬ (9223372036854775807 < wd.length + 1) := by have := Hw16.out; omega
                  have hSd : w6.drew.cell? ⟨bw, k, none⟩ = some (.string (wordT wd)) := f6
                  have hS1 : ((w6.alloc (.cells #[.string (wordT (wd ++ [x]))] 9)).drew).cell? ⟨bw, k, none⟩ = some (.string (wordT wd)) := (hb6a.cell (p := ⟨bw, k, none⟩) hbw).trans f6
                  have hx1 : IntKind.i64.wrap ((x : Int) + 1) = (x : Int) + 1 := IntWalk.i64_in _ (by omega)
                  clear hnm eadd HTx HK2 hS6 hS7 hb6 hb7 hr6 hr7 HS4 HB4 e6 e6' e7 e7' hcw hq2 hb6a HO HI HE f1
                  go_wp2_with (first
                    | (at_builtin; refine wpl_append_run rfl (.tmp 77) (.tmp 79) 78 rfl rfl rfl Hr6.out ?_)
                    | fail)
                  refine wp_region_M 12 (fun w' => w'.cell? ⟨bw, k, none⟩ = some (.string (wordT wd))) (by kernel_rfl) ?_
                  refine wpAnyM_take 0 (v := ?_) rfl (by kernel_rfl) (by kernel_rfl) (by kernel_rfl) (by kernel_rfl) (fun _ _ _ h => h) (Or.inl ⟨by rfl, ?_⟩) hSd ?_
                  rotate_left
                  · (intro w hSw; (try dsimp only at hSw); go_simp) <;> (try with_reducible rfl)
                  try simp only [Act.put, List.setIfInBounds_toArray, List.set_cons_zero, List.set_cons_succ]
                  refine wpAnyM_take 1 (v := ?_) rfl (by kernel_rfl) (by kernel_rfl) (by kernel_rfl) (by kernel_rfl) (fun _ _ _ h => h) (Or.inl ⟨by rfl, ?_⟩) hSd ?_
                  rotate_left
                  · (intro w hSw; (try dsimp only at hSw); go_simp) <;> (try with_reducible rfl)
                  try simp only [Act.put, List.setIfInBounds_toArray, List.set_cons_zero, List.set_cons_succ]
                  refine wpAnyM_take 2 (v := ?_) rfl (by kernel_rfl) (by kernel_rfl) (by kernel_rfl) (by kernel_rfl) (fun _ _ _ h => h) (Or.inl ⟨by rfl, ?_⟩) hSd ?_
                  rotate_left
                  · (intro w hSw; (try dsimp only at hSw); go_simp) <;> (try with_reducible rfl)
                  try simp only [Act.put, List.setIfInBounds_toArray, List.set_cons_zero, List.set_cons_succ]
                  refine wpAnyM_take 3 (v := ?_) rfl (by kernel_rfl) (by kernel_rfl) (by kernel_rfl) (by kernel_rfl) (fun _ _ _ h => h) (Or.inl ⟨by rfl, ?_⟩) hSd ?_
                  rotate_left
                  · (intro w hSw; (try dsimp only at hSw); go_simp) <;> (try with_reducible rfl)
                  try simp only [Act.put, List.setIfInBounds_toArray, List.set_cons_zero, List.set_cons_succ]
                  refine wpAnyM_take 4 (v := ?_) rfl (by kernel_rfl) (by kernel_rfl) (by kernel_rfl) (by kernel_rfl) (fun _ _ _ h => h) (Or.inl ⟨by rfl, ?_⟩) hSd ?_
                  rotate_left
                  · (intro w hSw; (try dsimp only at hSw); go_simp) <;> (try with_reducible rfl)
                  try simp only [Act.put, List.setIfInBounds_toArray, List.set_cons_zero, List.set_cons_succ]
                  refine wpAnyM_take 5 (v := ?_) rfl (by kernel_rfl) (by kernel_rfl) (by kernel_rfl) (by kernel_rfl) (fun _ _ _ h => h) (Or.inl ⟨by rfl, ?_⟩) hSd ?_
                  rotate_left
                  · (intro w hSw; (try dsimp only at hSw); go_simp) <;> (try with_reducible rfl)
                  try simp only [Act.put, List.setIfInBounds_toArray, List.set_cons_zero, List.set_cons_succ]
                  refine wpAnyM_take 6 (v := ?_) rfl (by kernel_rfl) (by kernel_rfl) (by kernel_rfl) (by kernel_rfl) (fun _ _ _ h => h) (Or.inl ⟨by rfl, ?_⟩) hSd ?_
                  rotate_left
                  · (intro w hSw; (try dsimp only at hSw); go_simp) <;> (try with_reducible rfl)
                  try simp only [Act.put, List.setIfInBounds_toArray, List.set_cons_zero, List.set_cons_succ]
                  refine wpAnyM_take 7 (v := ?_) rfl (by kernel_rfl) (by kernel_rfl) (by kernel_rfl) (by kernel_rfl) (fun _ _ _ h => h) (Or.inl ⟨by rfl, ?_⟩) hSd ?_
                  rotate_left
                  · (intro w hSw; (try dsimp only at hSw); go_simp) <;> (try with_reducible rfl)
                  try simp only [Act.put, List.setIfInBounds_toArray, List.set_cons_zero, List.set_cons_succ]
                  refine wpAnyM_take 8 (v := ?_) rfl (by kernel_rfl) (by kernel_rfl) (by kernel_rfl) (by kernel_rfl) (fun _ _ _ h => h) (Or.inl ⟨by rfl, ?_⟩) hSd ?_
                  rotate_left
                  · (intro w hSw; (try dsimp only at hSw); go_simp) <;> (try with_reducible rfl)
                  try simp only [Act.put, List.setIfInBounds_toArray, List.set_cons_zero, List.set_cons_succ]
                  refine wpAnyM_take 9 (v := ?_) rfl (by kernel_rfl) (by kernel_rfl) (by kernel_rfl) (by kernel_rfl) (fun _ _ _ h => h) (Or.inl ⟨by rfl, ?_⟩) hSd ?_
                  rotate_left
                  · (intro w hSw; (try dsimp only at hSw); go_simp) <;> (try with_reducible rfl)
                  try simp only [Act.put, List.setIfInBounds_toArray, List.set_cons_zero, List.set_cons_succ]
                  refine wpAnyM_one 10 (by kernel_rfl) rfl (fun K hK => ?_)
                  go_simp
                  refine hK.out _ _ (fun _ => hS1) ?_
                  clear hK K
                  try simp only [Act.put, List.setIfInBounds_toArray, List.set_cons_zero, List.set_cons_succ]
                  refine wpAnyM_one 11 (by kernel_rfl) rfl (fun K hK => ?_)
                  refine step_append_run (by rfl) (.tmp 81) (.tmp 91) 66 (by rfl) (by rfl) (by rfl) Hr.out ?_
                  refine hK.out _ _ (fun h => absurd h (not_remM (by kernel_rfl))) ?_
                  clear hK K
                  try simp only [Act.put, List.setIfInBounds_toArray, List.set_cons_zero, List.set_cons_succ]
                  refine wpAnyM_one 12 (by kernel_rfl) rfl (fun K hK => ?_)
                  go_simp
                  refine hK.out _ _ (fun h => absurd h (not_remM (by kernel_rfl))) ?_
                  clear hK K
                  try simp only [Act.put, List.setIfInBounds_toArray, List.set_cons_zero, List.set_cons_succ]
                  refine wpAnyM_done (by kernel_rfl) ?_ _
                  all_goals (
                  go_wp2
                  go_roundg (N - (x + 1))
                  case measure => omega
                  case rel => exact ⟨x + 1, es ++ [(t, wd ++ [x])], _, _, _, _, by rw [E5.out], by rw [E5.out], by go_num, by omega, Hlt'.out, HO2, HI2, HE2, by rw [show N - (x + 1) = g2 by omega]; exact HTy, HS7, HB7⟩)
        · have hg : gk = 0 := by omega
          have HTy := Lib.hid (show reachE xs N 16 cbShort g es (k + 1) none = T from by have h := HT2.out; rw [hg] at h; exact h)
          have hxi : ¬ ((x : Int) < (N : Int)) := by omega
          have hl := Hl.out
          clear HT2 HE xc1 xc2
          go_wp2
          go_roundg g
          case measure => omega
          case rel => exact ⟨k + 1, es, _, _, _, _, rfl, rfl, by go_num, by omega, HO, HI, HTy, HS, HB⟩
    · have HF := Lib.hid (show T = none from by
        rw [← HT.out]
        cases gk with
        | zero => rfl
        | succ g => unfold reachE; rw [List.getElem?_eq_none (by omega)])
      have Hz := Lib.hid (A1.out.trans (HB.out.mono A1.out.size))
      have hki : ¬ ((k : Int) < (es.length : Int)) := by omega
      clear HO HI HT HS HB Hl
      go_wp2
      go_ret2
      exact ⟨by rw [HF.out]; rfl, Hz.out⟩
end Go.Proofs.Ytjgiobapdkdhpaa
