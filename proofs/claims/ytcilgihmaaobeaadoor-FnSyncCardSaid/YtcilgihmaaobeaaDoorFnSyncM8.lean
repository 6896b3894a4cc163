/-
  Texts of this claim joined: laws for its walks, contracts of the functions that the law reaches.
-/
import Derived.Test.YtcilgihmaaobeaaDoorRows
import Derived.Test.YtcilgihmaaobeaaDoorFnSyncM1
import Derived.Test.YtcilgihmaaobeaaDoorFnSyncM4
import Derived.Test.YtcilgihmaaobeaaDoorFnSyncM5
import Derived.Test.YtcilgihmaaobeaaDoorFnSyncM6
import Derived.Test.YtcilgihmaaobeaaDoorFnSyncM7
import Derived.Test.YtcilgihmaaobeaaDoorFnSyncM2
import Derived.IntWalk
import Derived.Deep.RegionHeld3
import Derived.Deep.DeepCutAuto
import Derived.Laws.IdiomStrings
import Derived.BigQuiet
import Derived.Lib.Index
import Derived.Lib.IndexMore
import Derived.Laws.DeepStrings4
import Derived.Test.YtcilgihmaaobeaaDoorFnSyncM3
import Derived.Laws.Cover1
set_option linter.unusedVariables false
set_option linter.unusedSimpArgs false
section
namespace Go.Proofs.YtcilgihmaaobeaaDoor
open Go.RowKit Go.Deep Go.Sd
set_option linter.unusedSimpArgs false
def shortM (l : Lb) : Option (List Nat) := if resolvM l = true then reachE l.2.2 l.1.toNat 16 cbShort 4096 [(allN l.2.1, [])] 0 none else none
def txt : Option (List Nat) → ByteArray
  | none => ⟨#[]⟩
  | some wd => wordT wd
abbrev Res.strs (e : TypeId) (v : Value) (xs : List ByteArray) : Res := Res.of (OwnOf e (OValR Value.string)) (OwnOf.kept (⟨fun _ _ _ _ _ h _ => h, fun _ _ _ _ h b hb => by rw [h.2] at hb; simp at hb, fun _ _ _ _ h => by rw [h.1]; rfl⟩ : Kept (OValR Value.string))).held v xs
theorem OStr.kept : Kept (OValR Value.string) := ⟨fun _ _ _ _ _ h _ => h, fun _ _ _ _ h b hb => by rw [h.2] at hb; simp at hb, fun _ _ _ _ h => by rw [h.1]; rfl⟩
theorem _root_.Go.Sd.Sep.strsAt {lo : Nat} {w : World} {e : TypeId} {v : Value} {xs : List ByteArray} {rs : List Res} (h : Sep lo w (Res.strs e v xs :: rs)) : ∃ a c, v = .slice a xs.length c ∧ (0 < xs.length → ∃ b, a = some ⟨b, 0, none⟩ ∧ b < w.heap.size ∧ ∀ i x, xs[i]? = some x → w.cell? ⟨b, i, none⟩ = some (.string x)) := by
  obtain ⟨G, hG, hf, _⟩ := h.head
  have hG' : OwnOf e (OValR Value.string) w v xs G := hG
  have hrd : SlOf (ValR Value.string) w v xs := OwnOf.reads (fun _ _ _ _ h => h.1) hG'
  obtain ⟨a, c, rfl, _, _, h1⟩ := hrd.shape
  refine ⟨a, c, rfl, fun h0 => ?_⟩
  obtain ⟨b, o, rfl, hb, hx⟩ := h1 h0
  obtain ⟨x0, hx0, _⟩ := at_lt h0
  obtain ⟨b', c', u, G2, hv, _⟩ := hG'.focus OStr.kept hf.1 hx0
  have e1 : b = b' ∧ o = 0 := by simp at hv; exact ⟨hv.1.1, hv.1.2⟩
  obtain ⟨rfl, rfl⟩ := e1
  refine ⟨b, rfl, hb, fun i x hi => ?_⟩
  obtain ⟨u, hu, rfl⟩ := hx i x hi
  simpa using hu
theorem infoStr : (Tryd.prog.info? 9).map (fun i => (i.zero, i.size, i.bytes)) = some (some (.string ⟨#[]⟩), 1, 16) := by kernel_rfl
abbrev wrdL (es : List Ent) : List ByteArray := es.map fun e => wordT e.2
theorem wordT_snoc (wd : List Nat) (x : Nat) : wordT wd ++ wordT [x] = wordT (wd ++ [x]) := by
  apply ByteArray.ext
  simp [wordT, ByteArray.data_append]
theorem abc_slice {x : Nat} (h : x < 3) (w : World) : (Instr.slice 9 (.string ⟨#[97, 98, 99]⟩) (some (.int .i64 (x : Int))) (some (.int .i64 ((x : Int) + 1))) none).run Tryd.prog w = .ok (.string (wordT [x])) w := by
  obtain rfl | rfl | rfl : x = 0 ∨ x = 1 ∨ x = 2 := by omega
  · exact show (Instr.slice 9 (.string ⟨#[97, 98, 99]⟩) (some (.int .i64 0)) (some (.int .i64 1)) none).run Tryd.prog w = .ok (.string ⟨#[97]⟩) w by kernel_rfl
  · exact show (Instr.slice 9 (.string ⟨#[97, 98, 99]⟩) (some (.int .i64 1)) (some (.int .i64 2)) none).run Tryd.prog w = .ok (.string ⟨#[98]⟩) w by kernel_rfl
  · exact show (Instr.slice 9 (.string ⟨#[97, 98, 99]⟩) (some (.int .i64 2)) (some (.int .i64 3)) none).run Tryd.prog w = .ok (.string ⟨#[99]⟩) w by kernel_rfl
set_option maxHeartbeats 4000000 in
set_option maxRecDepth 100000 in
theorem spec_ShortestSync_c {w : World} {v : Value} {l : Lb} (h : LabR w v l) :
    Calls Tryd.prog 8 #[v] w fun e w' => e = .returned (.tuple #[.string (txt (shortM l)), .bool (shortM l).isSome]) ∧ Below w.heap.size w w' := by
  have H1 := Lib.hid (fun w1 (hb : Below w.heap.size w w1) => spec_IsResolving_c (LabR.frame _ _ _ _ h hb))
  have Hfr := Lib.hid (fun w1 (hb : Below w.heap.size w w1) => LabR.frame _ _ _ _ h hb)
  obtain ⟨T, hT⟩ : ∃ T, T = shortM l := ⟨_, rfl⟩
  rw [← hT]
  have HT := Lib.hid hT
  clear hT
  have Hok := Lib.hid (fun h => resolv_facts (l := l) h)
  have HF0 := Lib.hid (fun (h : resolvM l = false) => (show shortM l = none from by unfold shortM; rw [h]; rfl))
  generalize hil : resolvM l = il at H1
  have Hil := Lib.hid hil
  clear hil
  obtain ⟨L, S, xs⟩ := l
  obtain ⟨_, rfl, -, a, c, rfl, -, -, -, -⟩ := h
  simp only at *
  generalize hn : xs.length = n at *
  clear hn
  obtain ⟨w1, ex, hb1, c0, c1, c2, m1⟩ := boxA3_ex w 26 (.int .i64 L) (.int .i64 S) (.slice a n c)
  have A1 := Lib.hid hb1
  clear hb1
  go_enter Tryd.func8, Tryd.ntmps8
  go_wp2_with fail
  refine (H1.out _ A1.out).mono ?_
  rintro e w2 ⟨rfl, hb1⟩
  replace c0 := (hb1.cell (p := ⟨w.heap.size, 0, none⟩) m1).trans c0
  replace c1 := (hb1.cell (p := ⟨w.heap.size, 1, none⟩) m1).trans c1
  replace c2 := (hb1.cell (p := ⟨w.heap.size, 2, none⟩) m1).trans c2
  have m2 : w.heap.size < w2.heap.size := Nat.lt_of_lt_of_le m1 hb1.size
  replace A1 := Lib.hid (A1.out.trans (hb1.mono A1.out.size))
  clear hb1 ex H1 m1
  cases il with
  | false =>
    have HF := Lib.hid (show T = none from by rw [HT.out]; exact HF0.out Hil.out)
    clear HT HF0 Hil Hok Hfr
    go_wp2
    go_ret2
    exact ⟨by rw [HF.out]; rfl, A1.out⟩
  | true =>
  have Hil2 := Lib.hid (Hok.out Hil.out)
  clear Hok HF0
  obtain ⟨ho, hS1, hS2, hL1, hL2⟩ := Hil2.out
  obtain ⟨N, rfl⟩ := Int.eq_ofNat_of_zero_le (show 0 ≤ L by omega)
  obtain ⟨q, rfl⟩ := Int.eq_ofNat_of_zero_le (show 0 ≤ S by omega)
  have HT2 := Lib.hid (show reachE xs N 16 cbShort 4096 [(allN (q : Int), [])] 0 none = T from by rw [HT.out]; unfold shortM; rw [Hil.out, if_pos rfl]; rfl)
  obtain ⟨P, hP, hP1, hP2, hwp⟩ := shl_one q (by omega)
  obtain ⟨A, rfl⟩ : ∃ x, P = x + 1 := ⟨P - 1, by omega⟩
  have hA : allN (q : Int) = A := by unfold allN; rw [show (q : Int).toNat = q from rfl, hP]; rfl
  have hok := all_ok hS1 hS2
  rw [hA] at HT2 hok
  replace hwp : wrap64 (2 ^ q) = (A : Int) + 1 := by rw [hwp]; omega
  have hwA : wrap64 (A : Int) = (A : Int) := IntWalk.wrap64_in _ (by omega)
  have HO := Lib.hid (show OkE [(A, [])] from hok)
  have HI := Lib.hid (show InvS N [(A, [])] from ⟨fun e he => by simp at he; subst he; simp, fun e he x hx => by simp at he; subst he; simp at hx⟩)
  have HSt := Lib.hid (fun w' (hb : Below w.heap.size w w') q (hq : q < 4096) x => spec_step_c (Hfr.out w' hb) ho hS2 hq x)
  have Hlt := Lib.hid (fun q x => stepN_lt ho hS2 q x)
  simp only at HSt Hlt
  have hp1 : q < 64 := by omega
  have hN3 : N ≤ 3 := by omega
  clear hP hA hok ho hS1 hS2 hL1 hL2 hP1 hP2 Hfr HT Hil Hil2
  go_wp2
  clear hwp hwA hp1
  obtain ⟨w3, e3⟩ : ∃ x, x = ((w2.alloc (.cells #[.int .i64 (A : Int)] 3)).alloc (.cells #[.string ⟨#[]⟩] 9)) := ⟨_, rfl⟩
  rw [← e3]
  have HS0 : Hid (Sep w2.heap.size w3 [Res.ints 3 (.slice (some ⟨w2.heap.size, 0, none⟩) 1 1) (natL ([(A, ([] : List Nat))].map (·.1))), Res.strs 9 (.slice (some ⟨w2.heap.size + 1, 0, none⟩) 1 1) (wrdL [(A, ([] : List Nat))])]) := Lib.hid (by
    have h1 := (Sep.nil w2.heap.size w2).new (OInts.kept 3).held ((Below.refl _ _).alloc (Nat.le_refl _) _) (Nat.le_refl _) (New.oneInt (e := 3) w2 (A : Int))
    have hz : (w2.alloc (.cells #[.int .i64 (A : Int)] 3)).heap.size = w2.heap.size + 1 := by simp
    have h2 := h1.new (OwnOf.kept OStr.kept).held ((Below.refl _ _).alloc (Nat.le_refl _) _) (by simp) (New.oneG (e := 9) OStr.kept (lo := (w2.alloc (.cells #[.int .i64 (A : Int)] 3)).heap.size) (w := w2.alloc (.cells #[.int .i64 (A : Int)] 3)) (u := .string ⟨#[]⟩) (x := ⟨#[]⟩) ⟨[], ⟨rfl, rfl⟩, by simp [Fresh]⟩ (Nat.le_refl _))
    rw [hz, ← e3] at h2
    exact h2.swap)
  have HB0 := Lib.hid (show Below w2.heap.size w2 w3 from by rw [e3]; exact ((Below.refl _ _).alloc (Nat.le_refl _) _).alloc (by simp) _)
  have K0 := Lib.hid c0
  have K1 := Lib.hid c1
  have K2 := Lib.hid c2
  clear e3 c0 c1 c2
  go_loopg [4, 5, 6] 4096 (fun g vs vw i wr => ∃ (k : Nat) (es : List Ent) (la wa : Option Addr) (lc wc : Nat), vs = .slice la es.length lc ∧ vw = .slice wa es.length wc ∧ i = .int .i64 k ∧ k + g = 4096 ∧ Hid (OkE es) ∧ Hid (InvS N es) ∧ Hid (reachE xs N 16 cbShort g es k none = T) ∧ Hid (Sep w2.heap.size wr [Res.ints 3 vs (natL (es.map (·.1))), Res.strs 9 vw (wrdL es)]) ∧ Hid (Below w2.heap.size w2 wr))
  case atStart => exact ⟨0, [(A, [])], _, _, _, _, rfl, rfl, rfl, by omega, HO, HI, HT2, HS0, HB0⟩
  case round =>
    clear HO HI HT2 HS0 HB0
    obtain ⟨k, es, la, wa, lc, wc, rfl, rfl, rfl, hk, HO, HI, HT, HS, HB⟩ := hrel
    obtain ⟨wq, rfl⟩ : ∃ x, x = wr := ⟨_, rfl⟩
    have Hl := Lib.hid HO.out.len
    by_cases hlt : k < es.length
    · obtain ⟨⟨s, wd⟩, he, _⟩ := at_lt hlt
      obtain ⟨g, rfl⟩ : ∃ x, gk = x + 1 := ⟨gk - 1, by have := Hl.out; omega⟩
      have hs4 : s < 4096 := (HO.out.2 s (List.mem_map.2 ⟨(s, wd), List.mem_of_getElem? he, rfl⟩)).2
      obtain ⟨_, _, hv, _, hq⟩ := HS.out.intsAt
      obtain ⟨bl, e1, hbl, hcl⟩ := hq (by simp; omega)
      obtain ⟨_, _, hv2, hq2⟩ := HS.out.swap.strsAt
      obtain ⟨bw, e2, hbw, hcw⟩ := hq2 (by simp; omega)
      simp at hv hv2
      obtain ⟨rfl, rfl⟩ := hv
      obtain ⟨rfl, rfl⟩ := hv2
      subst e1
      subst e2
      have f0 := hcl k (s : Int) (by simp [he])
      have f1 := hcw k (wordT wd) (by simp [he])
      have C0 := Lib.hid (fun w => l16Only_c s hs4 w)
      have hop := only_pop s hs4
      have hki : (k : Int) < (es.length : Int) := by omega
      have HE := Lib.hid he
      have hwl : wd.length ≤ 16 := HI.out.1 _ (List.mem_of_getElem? he)
      have hws : (wordT wd).size = wd.length := by simp [wordT, ByteArray.size]
      have HT2 := Lib.hid (show if popN s = 1 then some wd = T else reachE xs N 16 cbShort g (if wd.length = 16 then es else rowE xs s wd N 0 es) (k + 1) none = T from by have h := HT.out; unfold reachE at h; rw [he] at h; simp only [cbShort, nextE] at h; split <;> rename_i hp <;> simp only [hp, if_true, if_false] at h <;> exact h)
      generalize popN s = pp at hop HT2
      generalize onlyN s = oo at hop C0
      have Hop := Lib.hid hop
      clear HT he hcl hq hcw hq2 hop
      go_wp2_with fail
      refine (C0.out _).mono ?_
      rintro e w' ⟨rfl, rfl⟩
      by_cases hpp : pp = 1
      · have hoo : 0 ≤ oo := by have h := Hop.out; rw [decide_eq_true hpp] at h; exact of_decide_eq_true h.symm
        have HF := Lib.hid (show T = some wd from by have h := HT2.out; rw [if_pos hpp] at h; exact h.symm)
        have Hz := Lib.hid (A1.out.trans (HB.out.mono A1.out.size))
        clear HT2 HO HI HS HB hpp
        go_wp2
        go_ret2
        exact ⟨by rw [HF.out]; rfl, Hz.out⟩
      have hoo : ¬ (0 ≤ oo) := by have h := Hop.out; rw [decide_eq_false hpp] at h; exact of_decide_eq_false h.symm
      have HT3 := Lib.hid (show reachE xs N 16 cbShort g (if wd.length = 16 then es else rowE xs s wd N 0 es) (k + 1) none = T from by have h := HT2.out; rwa [if_neg hpp] at h)
      have hz := HB.out.size
      have xc0 := (HB.out.cell (p := ⟨w.heap.size, 0, none⟩) m2).trans K0.out
      clear HT2 hpp Hop C0
      by_cases h16 : wd.length = 16
      · have HTy := Lib.hid (show reachE xs N 16 cbShort g es (k + 1) none = T from by have h := HT3.out; rwa [if_pos h16] at h)
        have t7 : ¬ ((wd.length : Int) < 16) := by omega
        rw [h16] at hws
        have hl := Hl.out
        clear HT3 HE
        go_wp2
        go_loopg [4, 5, 7] 0 (fun g2 vs vw i wx => vs = .slice (some ⟨bl, 0, none⟩) es.length lc ∧ vw = .slice (some ⟨bw, 0, none⟩) es.length wc ∧ i = .int .i64 0 ∧ wq = wx)
        case atStart => exact ⟨rfl, rfl, rfl, rfl⟩
        case round =>
          obtain ⟨rfl, rfl, rfl, rfl⟩ := hrel
          by_cases hN0 : (0 : Int) < (N : Int)
          · go_wp2
            go_roundg g
            case measure => omega
            case rel => exact ⟨k + 1, es, _, _, _, _, rfl, rfl, by go_num, by omega, HO, HI, HTy, HS, HB⟩
          · go_wp2
            go_roundg g
            case measure => omega
            case rel => exact ⟨k + 1, es, _, _, _, _, rfl, rfl, by go_num, by omega, HO, HI, HTy, HS, HB⟩
      have HT4 := Lib.hid (show reachE xs N 16 cbShort g (rowE xs s wd N 0 es) (k + 1) none = T from by have h := HT3.out; rwa [if_neg h16] at h)
      have t7 : (wd.length : Int) < 16 := by omega
      have Hw16 := Lib.hid (show wd.length < 16 from by omega)
      clear HT3 h16 f0 f1 xc0 hbl hbw
      go_wp2
      go_loopg [4, 5, 7] N (fun g2 vs vw i wx => ∃ (x : Nat) (es : List Ent) (la wa : Option Addr) (lc wc : Nat), vs = .slice la es.length lc ∧ vw = .slice wa es.length wc ∧ i = .int .i64 x ∧ x + g2 = N ∧ k < es.length ∧ Hid (OkE es) ∧ Hid (InvS N es) ∧ Hid (es[k]? = some (s, wd)) ∧ Hid (reachE xs N 16 cbShort g (rowE xs s wd g2 x es) (k + 1) none = T) ∧ Hid (Sep w2.heap.size wx [Res.ints 3 vs (natL (es.map (·.1))), Res.strs 9 vw (wrdL es)]) ∧ Hid (Below w2.heap.size w2 wx))
      case atStart => exact ⟨0, es, _, _, _, _, rfl, rfl, rfl, by omega, hlt, HO, HI, HE, HT4, HS, HB⟩
      case round =>
        clear HO HI HE HT4 HS HB Hl hlt hki hz
        obtain ⟨x, es, la, wa, lc, wc, rfl, rfl, rfl, hx, hlt, HO, HI, HE, HT2, HS, HB⟩ := hrel
        obtain ⟨wx, rfl⟩ : ∃ x, x = wr := ⟨_, rfl⟩
        have Hl := Lib.hid HO.out.len
        have xc0 := (HB.out.cell (p := ⟨w.heap.size, 0, none⟩) m2).trans K0.out
        have xc1 := (HB.out.cell (p := ⟨w.heap.size, 1, none⟩) m2).trans K1.out
        have xc2 := (HB.out.cell (p := ⟨w.heap.size, 2, none⟩) m2).trans K2.out
        have hz := HB.out.size
        by_cases hxl : x < N
        · obtain ⟨g2, hg2⟩ : ∃ y, gk = y + 1 := ⟨gk - 1, by omega⟩
          subst hg2
          obtain ⟨_, _, hv, _, hq⟩ := HS.out.intsAt
          obtain ⟨bl, e1, hbl, hcl⟩ := hq (by simp; omega)
          obtain ⟨_, _, hv2, hq2⟩ := HS.out.swap.strsAt
          obtain ⟨bw, e2, hbw, hcw⟩ := hq2 (by simp; omega)
          simp at hv hv2
          obtain ⟨rfl, rfl⟩ := hv
          obtain ⟨rfl, rfl⟩ := hv2
          subst e1
          subst e2
          have f0 := hcl k (s : Int) (by simp [HE.out])
          have f1 := hcw k (wordT wd) (by simp [HE.out])
          have Hcl := Lib.hid hcl
          have HA := Lib.hid (A1.out.trans (HB.out.mono A1.out.size))
          have C1 := Lib.hid (fun w' (hb : Below w.heap.size w w') => HSt.out w' hb s hs4 (x : Int))
          have Htl := Lib.hid (Hlt.out s (x : Int))
          have HTx := Lib.hid (show reachE xs N 16 cbShort g (rowE xs s wd g2 (x + 1) (addE es (stepN xs s (x : Int)) (wd ++ [x]))) (k + 1) none = T from HT2.out)
          generalize stepN xs s (x : Int) = t at C1 Htl HTx
          have hkl : (k : Int) < (es.length : Int) := by omega
          have hxN : (x : Int) < (N : Int) := by omega
          have hS0 : wx.cell? ⟨w.heap.size, 0, none⟩ = some (.int .i64 (N : Int)) ∧ wx.cell? ⟨w.heap.size, 1, none⟩ = some (.int .i64 (q : Int)) ∧ wx.cell? ⟨w.heap.size, 2, none⟩ = some (.slice a n c) ∧ wx.cell? ⟨bl, k, none⟩ = some (.int .i64 (s : Int)) := ⟨xc0, xc1, xc2, f0⟩
          have hSd : wx.drew.cell? ⟨w.heap.size, 0, none⟩ = some (.int .i64 (N : Int)) ∧ wx.drew.cell? ⟨w.heap.size, 1, none⟩ = some (.int .i64 (q : Int)) ∧ wx.drew.cell? ⟨w.heap.size, 2, none⟩ = some (.slice a n c) ∧ wx.drew.cell? ⟨bl, k, none⟩ = some (.int .i64 (s : Int)) := hS0
          have m1x : w.heap.size < wx.heap.size := by omega
          have HSS := Lib.hid (fun (w' : World) (hb3 : Below wx.heap.size wx w') => (show w'.cell? ⟨w.heap.size, 0, none⟩ = some (.int .i64 (N : Int)) ∧ w'.cell? ⟨w.heap.size, 1, none⟩ = some (.int .i64 (q : Int)) ∧ w'.cell? ⟨w.heap.size, 2, none⟩ = some (.slice a n c) ∧ w'.cell? ⟨bl, k, none⟩ = some (.int .i64 (s : Int)) from ⟨(hb3.cell (p := ⟨w.heap.size, 0, none⟩) m1x).trans hS0.1, (hb3.cell (p := ⟨w.heap.size, 1, none⟩) m1x).trans hS0.2.1, (hb3.cell (p := ⟨w.heap.size, 2, none⟩) m1x).trans hS0.2.2.1, (hb3.cell (p := ⟨bl, k, none⟩) hbl).trans hS0.2.2.2⟩))
          have B1 := (Below.refl wx.heap.size wx).drew
          have HA1 := HA.out.trans (B1.mono HA.out.size)
          have F1 := Lib.hid f1
          clear hcl hq hcw hq2 HT2 f0 xc1 xc2
          go_wp2
          go_region_held3 (fun w' => w'.cell? ⟨w.heap.size, 0, none⟩ = some (.int .i64 (N : Int)) ∧ w'.cell? ⟨w.heap.size, 1, none⟩ = some (.int .i64 (q : Int)) ∧ w'.cell? ⟨w.heap.size, 2, none⟩ = some (.slice a n c) ∧ w'.cell? ⟨bl, k, none⟩ = some (.int .i64 (s : Int)))
            (first | with_reducible exact hS1 | with_reducible exact hSd | with_reducible exact hS0 | go_keep)
            ((first
              | (go_at_call 33; (with_reducible refine (C1.out _ HA1).mono ?_); rintro e w4 ⟨rfl, hb2⟩; have hb3 := B1.trans hb2; have hS1 := HSS.out w4 hb3; clear hb2)
              | fail))
          clear hS0 hSd HSS B1 HA1 hS1 xc0 f1
          have H34 := Lib.hid hb3
          have hz4 := hb3.size
          have HS4 := Lib.hid (HS.out.below hb3 (Nat.le_refl _))
          have HB4 := Lib.hid (HB.out.trans (hb3.mono hz))
          have Hk := Lib.hid (fun (i : Nat) (z : Ent) (hi : es[i]? = some z) => (show w4.cell? ⟨bl, i, none⟩ = some (.int .i64 (z.1 : Int)) from (H34.out.cell (p := ⟨bl, i, none⟩) hbl).trans (Hcl.out i (z.1 : Int) (by simp [hi]))))
          have f1 := (hb3.cell (p := ⟨bw, k, none⟩) hbw).trans F1.out
          have hbl4 : bl < w4.heap.size := by omega
          have hbw4 : bw < w4.heap.size := by omega
          have hz24 : w2.heap.size ≤ w4.heap.size := by omega
          clear HS HB H34 Hcl hbl hbw hb3 HA C1 hz4 F1 hz
          have hl := Hl.out
          by_cases ht0 : t = 0
          · subst ht0
            go_wp2
            go_loopg [9, 10] es.length (fun g3 kn i wy => ∃ (j : Nat) (kb : Bool), kn = .bool kb ∧ i = .int .i64 j ∧ j + g3 = es.length ∧ Hid (kb = true ↔ (0 = 0 ∨ 0 ∈ (es.map (·.1)).take j)) ∧ w4 = wy)
            case atStart => exact ⟨0, true, rfl, rfl, by omega, Lib.hid (by simp), rfl⟩
            case round =>
              obtain ⟨j, kb, rfl, rfl, hj, HK, rfl⟩ := hrel
              by_cases hjl : j < es.length
              · obtain ⟨z, hzz, _⟩ := at_lt hjl
                have g0 := Hk.out j z hzz
                have HT := Lib.hid (show (es.map (·.1)).take (j + 1) = (es.map (·.1)).take j ++ [z.1] from (take_snoc' (by simp [hzz])).symm)
                have hji : (j : Int) < (es.length : Int) := by omega
                obtain ⟨z1, z2⟩ := z
                simp only at g0 HT
                clear hzz
                cases kb with
                | true =>
                  go_wp2
                  go_roundg (es.length - (j + 1))
                  case measure => omega
                  case rel => exact ⟨j + 1, true, rfl, by go_num, by omega, Lib.hid (by rw [HT.out]; have h := HK.out; simp only [true_iff] at h ⊢; exact h.imp id fun h => List.mem_append_left _ h), rfl⟩
                | false =>
                  by_cases q1 : z1 = 0
                  · subst q1
                    skip
                    go_wp2
                    go_roundg (es.length - (j + 1))
                    case measure => omega
                    case rel => exact ⟨j + 1, true, rfl, by go_num, by omega, Lib.hid (by rw [HT.out]; simp), rfl⟩
                  · have t1 : ((z1 : Int) == (0 : Int)) = false := by simp; omega
                    go_wp2
                    go_roundg (es.length - (j + 1))
                    case measure => omega
                    case rel => exact ⟨j + 1, false, rfl, by go_num, by omega, Lib.hid (by rw [HT.out]; have h := HK.out; simp only [Bool.false_eq_true, false_iff, not_or] at h ⊢; refine ⟨h.1, fun hm => ?_⟩; rcases List.mem_append.1 hm with hm | hm; exact h.2 hm; simp at hm; omega), rfl⟩
              · have e : j = es.length := by omega
                subst e
                have HK2 := Lib.hid (show kb = true ↔ (0 = 0 ∨ 0 ∈ es.map (·.1)) from by have h := HK.out; rwa [List.take_of_length_le (by simp)] at h)
                clear HK Hk
                cases kb with
                | true =>
                  have HTy := Lib.hid (show reachE xs N 16 cbShort g (rowE xs s wd g2 (x + 1) es) (k + 1) none = T from by have h := HTx.out; rwa [show addE es 0 (wd ++ [x]) = es from by unfold addE; rw [if_pos (HK2.out.1 rfl)]] at h)
                  clear HTx HK2
                  go_wp2
                  go_roundg (N - (x + 1))
                  case measure => omega
                  case rel => exact ⟨x + 1, es, _, _, _, _, rfl, rfl, by go_num, by omega, hlt, HO, HI, HE, by rw [show N - (x + 1) = g2 by omega]; exact HTy, HS4, HB4⟩
                | false =>
                  exact absurd (HK2.out.2 (Or.inl rfl)) (by simp)
          · have ht1 : 0 < t := by omega
            have ht3 : ((t : Int) == 0) = false := by simp; omega
            go_wp2
            go_loopg [9, 10] es.length (fun g3 kn i wy => ∃ (j : Nat) (kb : Bool), kn = .bool kb ∧ i = .int .i64 j ∧ j + g3 = es.length ∧ Hid (kb = true ↔ (t = 0 ∨ t ∈ (es.map (·.1)).take j)) ∧ w4 = wy)
            case atStart => exact ⟨0, false, rfl, rfl, by omega, Lib.hid (by simp; omega), rfl⟩
            case round =>
              obtain ⟨j, kb, rfl, rfl, hj, HK, rfl⟩ := hrel
              by_cases hjl : j < es.length
              · obtain ⟨z, hzz, _⟩ := at_lt hjl
                have g0 := Hk.out j z hzz
                have HT := Lib.hid (show (es.map (·.1)).take (j + 1) = (es.map (·.1)).take j ++ [z.1] from (take_snoc' (by simp [hzz])).symm)
                have hji : (j : Int) < (es.length : Int) := by omega
                obtain ⟨z1, z2⟩ := z
                simp only at g0 HT
                clear hzz
                cases kb with
                | true =>
                  go_wp2
                  go_roundg (es.length - (j + 1))
                  case measure => omega
                  case rel => exact ⟨j + 1, true, rfl, by go_num, by omega, Lib.hid (by rw [HT.out]; have h := HK.out; simp only [true_iff] at h ⊢; exact h.imp id fun h => List.mem_append_left _ h), rfl⟩
                | false =>
                  by_cases q1 : z1 = t
                  · subst q1
                    have t1 : ((z1 : Int) == (z1 : Int)) = true := by simp
                    go_wp2
                    go_roundg (es.length - (j + 1))
                    case measure => omega
                    case rel => exact ⟨j + 1, true, rfl, by go_num, by omega, Lib.hid (by rw [HT.out]; simp), rfl⟩
                  · have t1 : ((z1 : Int) == (t : Int)) = false := by simp; omega
                    go_wp2
                    go_roundg (es.length - (j + 1))
                    case measure => omega
                    case rel => exact ⟨j + 1, false, rfl, by go_num, by omega, Lib.hid (by rw [HT.out]; have h := HK.out; simp only [Bool.false_eq_true, false_iff, not_or] at h ⊢; refine ⟨h.1, fun hm => ?_⟩; rcases List.mem_append.1 hm with hm | hm; exact h.2 hm; simp at hm; omega), rfl⟩
              · have e : j = es.length := by omega
                subst e
                have HK2 := Lib.hid (show kb = true ↔ (t = 0 ∨ t ∈ es.map (·.1)) from by have h := HK.out; rwa [List.take_of_length_le (by simp)] at h)
                clear HK Hk
                cases kb with
                | true =>
                  have HTy := Lib.hid (show reachE xs N 16 cbShort g (rowE xs s wd g2 (x + 1) es) (k + 1) none = T from by have h := HTx.out; rwa [show addE es t (wd ++ [x]) = es from by unfold addE; rw [if_pos (HK2.out.1 rfl)]] at h)
                  clear HTx HK2
                  go_wp2
                  go_roundg (N - (x + 1))
                  case measure => omega
                  case rel => exact ⟨x + 1, es, _, _, _, _, rfl, rfl, by go_num, by omega, hlt, HO, HI, HE, by rw [show N - (x + 1) = g2 by omega]; exact HTy, HS4, HB4⟩
                | false =>
                  have hnm : ¬ (t = 0 ∨ t ∈ es.map (·.1)) := fun hm => by have := HK2.out.2 hm; cases this
                  have eadd : addE es t (wd ++ [x]) = es ++ [(t, wd ++ [x])] := by unfold addE; rw [if_neg hnm]
                  have HTy := Lib.hid (show reachE xs N 16 cbShort g (rowE xs s wd g2 (x + 1) (es ++ [(t, wd ++ [x])])) (k + 1) none = T from by have h := HTx.out; rwa [eadd] at h)
                  have HO2 := Lib.hid (show OkE (es ++ [(t, wd ++ [x])]) from by have h := HO.out.add Htl.out (wd ++ [x]); rwa [eadd] at h)
                  have HI2 := Lib.hid (show InvS N (es ++ [(t, wd ++ [x])]) from by have h := addE_capped HI.out.1 (t := t) (w := wd ++ [x]) (by simp; have := Hw16.out; omega); have h' := addE_lets HI.out.2 (t := t) (w := wd ++ [x]) (fun y hy => by rcases List.mem_append.1 hy with hy | hy; exact HI.out.2 _ (List.mem_of_getElem? HE.out) y hy; simp at hy; omega); rw [eadd] at h h'; exact ⟨h, h'⟩)
                  have HE2 := Lib.hid (show (es ++ [(t, wd ++ [x])])[k]? = some (s, wd) from by rw [List.getElem?_append_left hlt]; exact HE.out)
                  obtain ⟨la', lc', w6, hr6, hS6, hb6⟩ := Sep.pushInt (P := Tryd.prog) 47 47 Tryd.underlying47 infoI HS4.out hz24 (t : Int) (by simp; omega) 3
                  have hz6 := hb6.size
                  have e6 : natL (es.map (·.1)) ++ [(t : Int)] = natL ((es ++ [(t, wd ++ [x])]).map (·.1)) := by simp
                  have e6' : (natL ((es ++ [(t, wd ++ [x])]).map (·.1))).length = es.length + 1 := by simp
                  rw [e6, e6'] at hr6 hS6
                  obtain ⟨_, _, hv2, hq2⟩ := hS6.swap.strsAt
                  obtain ⟨bw2, e2, hbw, hcw⟩ := hq2 (by simp; omega)
                  simp at hv2
                  obtain ⟨rfl, rfl⟩ := hv2
                  cases e2
                  have f6 := hcw k (wordT wd) (by simp [HE.out])
                  have hb6a : Below w6.heap.size w6 ((w6.alloc (.cells #[.string (wordT (wd ++ [x]))] 9)).drew) := ((Below.refl _ _).alloc (Nat.le_refl _) _).drew
                  obtain ⟨v7, w7, hr7, hS7, hb7⟩ := Sep.push (P := Tryd.prog) OStr.kept 48 48 (.string ⟨#[]⟩) 16 Tryd.underlying48 infoStr rfl hS6.swap (by omega) hb6a (q := .string (wordT (wd ++ [x]))) (x := wordT (wd ++ [x])) ⟨[], ⟨rfl, rfl⟩, by simp [Fresh]⟩ (bb := w6.heap.size) (c := 1) (World.cell?_alloc_at _ _ _ 0 rfl) (by simp; omega) (by simp; omega)
                  have e7 : wrdL es ++ [wordT (wd ++ [x])] = wrdL (es ++ [(t, wd ++ [x])]) := by simp
                  obtain ⟨wa', wc', rfl, _⟩ := hS7.strsAt
                  have e7' : (wrdL (es ++ [(t, wd ++ [x])])).length = es.length + 1 := by simp
                  rw [e7, e7'] at hr7 hS7
                  have HS7 := Lib.hid hS7.swap
                  have HB7 := Lib.hid (HB4.out.trans (hb6.trans hb7))
                  have Hr6 := Lib.hid hr6
                  have Hr := Lib.hid hr7
                  have Hlt' := Lib.hid (show k < (es ++ [(t, wd ++ [x])]).length from by simp; omega)
                  have E5 := Lib.hid (show (es ++ [(t, wd ++ [x])]).length = es.length + 1 from by simp)
                  have habc := fun w => abc_slice (x := x) (by omega) w
                  have hcat := wordT_snoc wd x
                  have hsz1 : (wordT [x]).size = 1 := by simp [wordT, ByteArray.size]
                  have hsz2 : ¬ (9223372036854775807 < wd.length + 1) := by have := Hw16.out; omega
                  have hSd : w6.drew.cell? ⟨bw, k, none⟩ = some (.string (wordT wd)) := f6
                  have hS1 : ((w6.alloc (.cells #[.string (wordT (wd ++ [x]))] 9)).drew).cell? ⟨bw, k, none⟩ = some (.string (wordT wd)) := (hb6a.cell (p := ⟨bw, k, none⟩) hbw).trans f6
                  have hx1 : IntKind.i64.wrap ((x : Int) + 1) = (x : Int) + 1 := IntWalk.i64_in _ (by omega)
                  clear hnm eadd HTx HK2 hS6 hS7 hb6 hb7 hr6 hr7 HS4 HB4 e6 e6' e7 e7' hcw hq2 hb6a HO HI HE f1
                  go_wp2_with (first
                    | (at_builtin; refine wpl_append_run rfl (.tmp 77) (.tmp 79) 47 rfl rfl rfl Hr6.out ?_)
                    | fail)
                  refine wp_region_M 12 (fun w' => w'.cell? ⟨bw, k, none⟩ = some (.string (wordT wd))) (by kernel_rfl) ?_
                  refine wpAnyM_take 0 (v := ?_) rfl (by kernel_rfl) (by kernel_rfl) (by kernel_rfl) (by kernel_rfl) (fun _ _ _ h => h) (Or.inl ⟨by rfl, ?_⟩) hSd ?_
                  rotate_left
                  · (intro w hSw; (try dsimp only at hSw); go_simp) <;> (try with_reducible rfl)
                  try simp only [Act.put, List.setIfInBounds_toArray, List.set_cons_zero, List.set_cons_succ]
                  refine wpAnyM_take 1 (v := ?_) rfl (by kernel_rfl) (by kernel_rfl) (by kernel_rfl) (by kernel_rfl) (fun _ _ _ h => h) (Or.inl ⟨by rfl, ?_⟩) hSd ?_
                  rotate_left
                  · (intro w hSw; (try dsimp only at hSw); go_simp) <;> (try with_reducible rfl)
                  try simp only [Act.put, List.setIfInBounds_toArray, List.set_cons_zero, List.set_cons_succ]
                  refine wpAnyM_take 2 (v := ?_) rfl (by kernel_rfl) (by kernel_rfl) (by kernel_rfl) (by kernel_rfl) (fun _ _ _ h => h) (Or.inl ⟨by rfl, ?_⟩) hSd ?_
                  rotate_left
                  · (intro w hSw; (try dsimp only at hSw); go_simp) <;> (try with_reducible rfl)
                  try simp only [Act.put, List.setIfInBounds_toArray, List.set_cons_zero, List.set_cons_succ]
                  refine wpAnyM_take 3 (v := ?_) rfl (by kernel_rfl) (by kernel_rfl) (by kernel_rfl) (by kernel_rfl) (fun _ _ _ h => h) (Or.inl ⟨by rfl, ?_⟩) hSd ?_
                  rotate_left
                  · (intro w hSw; (try dsimp only at hSw); go_simp) <;> (try with_reducible rfl)
                  try simp only [Act.put, List.setIfInBounds_toArray, List.set_cons_zero, List.set_cons_succ]
                  refine wpAnyM_take 4 (v := ?_) rfl (by kernel_rfl) (by kernel_rfl) (by kernel_rfl) (by kernel_rfl) (fun _ _ _ h => h) (Or.inl ⟨by rfl, ?_⟩) hSd ?_
                  rotate_left
                  · (intro w hSw; (try dsimp only at hSw); go_simp) <;> (try with_reducible rfl)
                  try simp only [Act.put, List.setIfInBounds_toArray, List.set_cons_zero, List.set_cons_succ]
                  refine wpAnyM_take 5 (v := ?_) rfl (by kernel_rfl) (by kernel_rfl) (by kernel_rfl) (by kernel_rfl) (fun _ _ _ h => h) (Or.inl ⟨by rfl, ?_⟩) hSd ?_
                  rotate_left
                  · (intro w hSw; (try dsimp only at hSw); go_simp) <;> (try with_reducible rfl)
                  try simp only [Act.put, List.setIfInBounds_toArray, List.set_cons_zero, List.set_cons_succ]
                  refine wpAnyM_take 6 (v := ?_) rfl (by kernel_rfl) (by kernel_rfl) (by kernel_rfl) (by kernel_rfl) (fun _ _ _ h => h) (Or.inl ⟨by rfl, ?_⟩) hSd ?_
                  rotate_left
                  · (intro w hSw; (try dsimp only at hSw); go_simp) <;> (try with_reducible rfl)
                  try simp only [Act.put, List.setIfInBounds_toArray, List.set_cons_zero, List.set_cons_succ]
                  refine wpAnyM_take 7 (v := ?_) rfl (by kernel_rfl) (by kernel_rfl) (by kernel_rfl) (by kernel_rfl) (fun _ _ _ h => h) (Or.inl ⟨by rfl, ?_⟩) hSd ?_
                  rotate_left
                  · (intro w hSw; (try dsimp only at hSw); go_simp) <;> (try with_reducible rfl)
                  try simp only [Act.put, List.setIfInBounds_toArray, List.set_cons_zero, List.set_cons_succ]
                  refine wpAnyM_take 8 (v := ?_) rfl (by kernel_rfl) (by kernel_rfl) (by kernel_rfl) (by kernel_rfl) (fun _ _ _ h => h) (Or.inl ⟨by rfl, ?_⟩) hSd ?_
                  rotate_left
                  · (intro w hSw; (try dsimp only at hSw); go_simp) <;> (try with_reducible rfl)
                  try simp only [Act.put, List.setIfInBounds_toArray, List.set_cons_zero, List.set_cons_succ]
                  refine wpAnyM_take 9 (v := ?_) rfl (by kernel_rfl) (by kernel_rfl) (by kernel_rfl) (by kernel_rfl) (fun _ _ _ h => h) (Or.inl ⟨by rfl, ?_⟩) hSd ?_
                  rotate_left
                  · (intro w hSw; (try dsimp only at hSw); go_simp) <;> (try with_reducible rfl)
                  try simp only [Act.put, List.setIfInBounds_toArray, List.set_cons_zero, List.set_cons_succ]
                  refine wpAnyM_one 10 (by kernel_rfl) rfl (fun K hK => ?_)
                  go_simp
                  refine hK.out _ _ (fun _ => hS1) ?_
                  clear hK K
                  try simp only [Act.put, List.setIfInBounds_toArray, List.set_cons_zero, List.set_cons_succ]
                  refine wpAnyM_one 11 (by kernel_rfl) rfl (fun K hK => ?_)
                  refine step_append_run (by rfl) (.tmp 81) (.tmp 91) 48 (by rfl) (by rfl) (by rfl) Hr.out ?_
                  refine hK.out _ _ (fun h => absurd h (not_remM (by kernel_rfl))) ?_
                  clear hK K
                  try simp only [Act.put, List.setIfInBounds_toArray, List.set_cons_zero, List.set_cons_succ]
                  refine wpAnyM_one 12 (by kernel_rfl) rfl (fun K hK => ?_)
                  go_simp
                  refine hK.out _ _ (fun h => absurd h (not_remM (by kernel_rfl))) ?_
                  clear hK K
                  try simp only [Act.put, List.setIfInBounds_toArray, List.set_cons_zero, List.set_cons_succ]
                  refine wpAnyM_done (by kernel_rfl) ?_ _
                  all_goals (
                  go_wp2
                  go_roundg (N - (x + 1))
                  case measure => omega
                  case rel => exact ⟨x + 1, es ++ [(t, wd ++ [x])], _, _, _, _, by rw [E5.out], by rw [E5.out], by go_num, by omega, Hlt'.out, HO2, HI2, HE2, by rw [show N - (x + 1) = g2 by omega]; exact HTy, HS7, HB7⟩)
        · have hg : gk = 0 := by omega
          have HTy := Lib.hid (show reachE xs N 16 cbShort g es (k + 1) none = T from by have h := HT2.out; rw [hg] at h; exact h)
          have hxi : ¬ ((x : Int) < (N : Int)) := by omega
          have hl := Hl.out
          clear HT2 HE xc1 xc2
          go_wp2
          go_roundg g
          case measure => omega
          case rel => exact ⟨k + 1, es, _, _, _, _, rfl, rfl, by go_num, by omega, HO, HI, HTy, HS, HB⟩
    · have HF := Lib.hid (show T = none from by
        rw [← HT.out]
        cases gk with
        | zero => rfl
        | succ g => unfold reachE; rw [List.getElem?_eq_none (by omega)])
      have Hz := Lib.hid (A1.out.trans (HB.out.mono A1.out.size))
      have hki : ¬ ((k : Int) < (es.length : Int)) := by omega
      clear HO HI HT HS HB Hl
      go_wp2
      go_ret2
      exact ⟨by rw [HF.out]; rfl, Hz.out⟩
end Go.Proofs.YtcilgihmaaobeaaDoor
end

section
namespace Go.Proofs.YtcilgihmaaobeaaDoor
open Go.RowKit Go.Deep Go.Sd
set_option linter.unusedSimpArgs false
abbrev OStrs : OwnRel (List ByteArray) := OwnOf 9 (OValR Value.string)
theorem OStrs.kept : Kept OStrs := OwnOf.kept OStr.kept
theorem OStrs.held : Held OStrs := OStrs.kept.held
end Go.Proofs.YtcilgihmaaobeaaDoor
end

section
namespace Go.Proofs.YtcilgihmaaobeaaDoor
open Go.RowKit Go.Deep Go.Sd
abbrev Sh := Int × List ByteArray
/-- A slice of texts. -/
abbrev TsR : World → Value → List ByteArray → Prop := SlOf (ValR Value.string)
theorem TsR.frame : Framed TsR := SlOf.frame (fun _ _ _ _ h _ => h)
/-- Does a text occur in another? -/
def occB (w f : ByteArray) : Bool := Lib.contains w.data.toList f.data.toList
/-- Does a text begin at a place of another? -/
def occI (w f : ByteArray) (i : Nat) : Prop := i + f.size ≤ w.size ∧ w.extract i (i + f.size) = f
def avoM (F : List ByteArray) (w : ByteArray) : Bool := F.all fun f => !occB w f
theorem size_list (s : ByteArray) : s.data.toList.length = s.size := by show s.data.toList.length = s.data.size; exact Array.length_toList
theorem extract_list (w : ByteArray) (i j : Nat) : (w.extract i j).data.toList = (w.data.toList.drop i).take (j - i) := by
  simp [List.take_drop]
theorem occI_iff (w f : ByteArray) (i : Nat) (h : i + f.size ≤ w.size) : w.extract i (i + f.size) = f ↔ Lib.occAt w.data.toList f.data.toList i = true := by
  rw [Lib.occAt_iff_take _ _ _ (by rw [size_list, size_list]; exact h), beq_iff_eq, size_list]
  constructor
  · intro e
    have := congrArg (fun b : ByteArray => b.data.toList) e
    simp only [extract_list] at this
    rw [show i + f.size - i = f.size by omega] at this
    exact this
  · intro e
    apply ByteArray.ext
    apply Array.toList_inj.1
    rw [extract_list, show i + f.size - i = f.size by omega]
    exact e
theorem occB_iff (w f : ByteArray) : occB w f = true ↔ ∃ i, occI w f i := by
  unfold occB Lib.contains
  rw [decide_eq_true_eq]
  constructor
  · intro h
    rcases Lib.index_spec w.data.toList f.data.toList with ⟨h1, -⟩ | ⟨i, h1, h2, h3, -⟩
    · omega
    · have hr := Lib.index_room _ _ h
      rw [size_list, size_list] at hr
      have hle : i + f.size ≤ w.size := by omega
      exact ⟨i, hle, (occI_iff w f i hle).2 h3⟩
  · rintro ⟨i, h1, h2⟩
    have h3 := (occI_iff w f i h1).1 h2
    rcases Lib.index_spec w.data.toList f.data.toList with ⟨-, h4⟩ | ⟨j, h4, -⟩
    · have := h4 i (by rw [size_list]; omega)
      rw [this] at h3
      cases h3
    · omega
theorem occB_no {w f : ByteArray} (h : ∀ i, ¬ occI w f i) : occB w f = false := by
  cases e : occB w f with
  | false => rfl
  | true =>
    obtain ⟨i, hi⟩ := (occB_iff w f).1 e
    exact absurd hi (h i)
/-- A shift in memory. -/
def ShR (w : World) (v : Value) (s : Sh) : Prop := ∃ va, v = .agg #[.int .i64 s.1, va] ∧ TsR w va s.2
theorem ShR.frame : Framed ShR := fun _ _ _ _ ⟨va, e, h⟩ hb => ⟨va, e, TsR.frame _ _ _ _ h hb⟩
theorem toList_data (s : ByteArray) : s.toList = s.data.toList := ByteArray.toList_eq s
theorem bytes_ext {a b : ByteArray} (h : a.toList = b.toList) : a = b := by
  rw [toList_data, toList_data] at h
  exact ByteArray.ext (Array.toList_inj.1 h)
/-- Is a text among some? -/
def hasB (F : List ByteArray) (s : ByteArray) : Bool := F.any fun f => f.toList == s.toList
theorem hasB_iff (F : List ByteArray) (s : ByteArray) : hasB F s = true ↔ s ∈ F := by
  unfold hasB
  rw [List.any_eq_true]
  constructor
  · rintro ⟨f, hf, he⟩
    rw [beq_iff_eq] at he
    rw [← bytes_ext he]
    exact hf
  · intro h
    exact ⟨s, h, by simp⟩
theorem hasB_yes {F : List ByteArray} {s : ByteArray} (h : s ∈ F) : hasB F s = true := (hasB_iff F s).2 h
theorem hasB_no {F : List ByteArray} {s : ByteArray} (h : ∀ (k : Nat) (f : ByteArray), F[k]? = some f → f ≠ s) : hasB F s = false := by
  cases e : hasB F s with
  | false => rfl
  | true =>
    obtain ⟨k, hk⟩ := List.getElem?_of_mem ((hasB_iff F s).1 e)
    exact absurd rfl (h k s hk)
end Go.Proofs.YtcilgihmaaobeaaDoor
end

section
namespace Go.Proofs.YtcilgihmaaobeaaDoor
open Go.RowKit Go.Deep Go.Sd
set_option linter.unusedSimpArgs false
/-- A shift of the call's own. -/
def OSh : OwnRel Sh := fun w v z F => ∃ va, v = .agg #[.int .i64 z.1, va] ∧ OStrs w va z.2 F
theorem OSh.held : Held OSh :=
  ⟨fun w w' v x F ⟨va, e, h⟩ hk => ⟨va, e, OStrs.held.keep _ _ _ _ _ h hk⟩, fun w v x F ⟨_, _, h⟩ b hb => OStrs.held.lt _ _ _ _ h b hb⟩
theorem OSh.reads {w : World} {v : Value} {z : Sh} {F : List Nat} (h : OSh w v z F) : ShR w v z := by
  obtain ⟨va, e, h⟩ := h
  exact ⟨va, e, OwnOf.reads (fun _ _ _ _ h => h.1) h⟩
theorem New.sh {lo : Nat} {w : World} {v : Value} {z : Sh} (h : New OSh lo w v z) : ShR w v z := by obtain ⟨F, h, _⟩ := h; exact h.reads
end Go.Proofs.YtcilgihmaaobeaaDoor
end

section
namespace Go.Proofs.YtcilgihmaaobeaaDoor
open Go.RowKit Go.Deep Go.Sd
set_option linter.unusedSimpArgs false
set_option maxHeartbeats 1000000 in
set_option maxRecDepth 100000 in
theorem OccursIn_c {w : World} (s f : ByteArray) (hs : s.size ≤ 1000) (hf : f.size ≤ 1048576) :
    Calls Tryd.prog 93 #[.string s, .string f] w fun e w' => e = .returned (.bool (occB s f)) ∧ w = w' := by
  have HT := Lib.hid (fun i (h : occI s f i) => (occB_iff s f).2 ⟨i, h⟩)
  have HF := Lib.hid (fun (h : ∀ i, ¬ occI s f i) => occB_no h)
  generalize occB s f = T at HT HF ⊢
  go_enter Tryd.func93, Tryd.ntmps93
  go_wp2
  go_loopg [5] (s.size + 1) (fun g i wr => ∃ (j : Nat), i = .int .i64 j ∧ j + g = s.size + 1 ∧ Hid (∀ k, k < j → ¬ occI s f k) ∧ w = wr)
  case atStart => exact ⟨0, rfl, by omega, Lib.hid (fun k hk => absurd hk (Nat.not_lt_zero _)), rfl⟩
  case round =>
    obtain ⟨j, rfl, hj, HK, rfl⟩ := hrel
    by_cases h1 : j + f.size ≤ s.size
    · have h1i : (j : Int) + (f.size : Int) ≤ (s.size : Int) := by omega
      obtain ⟨g, rfl⟩ : ∃ x, gk = x + 1 := ⟨gk - 1, by omega⟩
      have hj1 : (0 : Int) ≤ (j : Int) := by omega
      have hj2 : (j : Int) ≤ (j : Int) + (f.size : Int) := by omega
      have hj3 : (0 : Int) ≤ (j : Int) + (f.size : Int) := by omega
      have hjn : ((j : Int) + (f.size : Int)).toNat = j + f.size := by omega
      by_cases h2 : s.extract j (j + f.size) = f
      · have hd : ((s.extract j (j + f.size)).toList == f.toList) = true := by rw [h2]; simp
        have hT := Lib.hid (HT.out j ⟨h1, h2⟩)
        go_wp2
        go_ret
        exact ⟨by rw [hT.out]; rfl, rfl⟩
      · have hK2 := Lib.hid (show ∀ k, k < j + 1 → ¬ occI s f k from fun k hk => by
          by_cases e : k = j
          · rw [e]; exact fun h => h2 h.2
          · exact HK.out k (by omega))
        have hd : ((s.extract j (j + f.size)).toList == f.toList) = false := by
          rw [beq_eq_false_iff_ne]
          exact fun e => h2 (bytes_ext e)
        clear HK
        go_wp2
        go_roundg g
        case measure => omega
        case rel => exact ⟨j + 1, by go_num, by omega, hK2, rfl⟩
    · have h1i : ¬ (j : Int) + (f.size : Int) ≤ (s.size : Int) := by omega
      have hT := Lib.hid (HF.out fun i h => by
        by_cases e : i < j
        · exact HK.out i e h
        · exact h1 (by have := h.1; omega))
      clear HK
      go_wp2
      go_ret
      exact ⟨by rw [hT.out]; rfl, rfl⟩
set_option maxHeartbeats 1000000 in
theorem l3Avoids_c {w : World} {v : Value} {F : List ByteArray} {s : ByteArray} (h : TsR w v F) (hs : s.size ≤ 1000) (hf : ∀ f, f ∈ F → f.size ≤ 1048576) :
    Calls Tryd.prog 88 #[v, .string s] w fun e w' => e = .returned (.bool (avoM F s)) ∧ w = w' := by
  have hlen := h.len
  obtain ⟨a, c, rfl, -, -, hcell⟩ := h.shape
  have HT := Lib.hid (fun (h : ∀ (k : Nat) (f : ByteArray), F[k]? = some f → occB s f = false) => (show avoM F s = true from List.all_eq_true.2 fun f hf => by
    obtain ⟨k, hk⟩ := List.getElem?_of_mem hf
    rw [h k f hk]; rfl))
  have HF := Lib.hid (fun k f (h : F[k]? = some f) (h2 : occB s f = true) => (show avoM F s = false from by
    unfold avoM
    rw [List.all_eq_false]
    exact ⟨f, List.mem_of_getElem? h, by rw [h2]; decide⟩))
  have HC := Lib.hid (fun k f (h : F[k]? = some f) => OccursIn_c (w := w) s f hs (hf f (List.mem_of_getElem? h)))
  generalize avoM F s = T at HT HF ⊢
  obtain ⟨n, hn⟩ : ∃ n, n = F.length := ⟨_, rfl⟩
  have Hn := Lib.hid hn
  rw [← hn] at hcell hlen ⊢
  clear h hf hn
  have Hcell := Lib.hid hcell
  clear hcell
  go_enter Tryd.func88, Tryd.ntmps88
  go_wp2
  go_loopg [5] n (fun g i wr => ∃ (j : Nat), i = .int .i64 j ∧ j + g = n ∧ Hid (∀ k f, k < j → F[k]? = some f → occB s f = false) ∧ w = wr)
  case atStart => exact ⟨0, rfl, by omega, Lib.hid (fun k f hk => absurd hk (Nat.not_lt_zero _)), rfl⟩
  case round =>
    obtain ⟨j, rfl, hj, HK, rfl⟩ := hrel
    by_cases h1 : j < n
    · have h1i : (j : Int) < (n : Int) := by omega
      obtain ⟨g, rfl⟩ : ∃ x, gk = x + 1 := ⟨gk - 1, by omega⟩
      obtain ⟨b, o, rfl, -, hx⟩ := Hcell.out (by omega)
      obtain ⟨f, hf, -⟩ := at_lt (xs := F) (k := j) (by rw [← Hn.out]; exact h1)
      obtain ⟨u, hu, hu2⟩ := hx j f hf
      have hu2' : u = .string f := hu2
      subst hu2'
      have HC1 := Lib.hid (HC.out j f hf)
      cases ho : occB s f with
      | true =>
        have hT := Lib.hid (HF.out j f hf ho)
        rw [ho] at HC1
        clear hx hf hu2 ho
        go_wp2_with fail
        (with_reducible refine HC1.out.mono ?_)
        rintro e w9 ⟨rfl, hw9⟩
        rw [← hw9]
        clear hw9 w9
        go_wp2
        go_ret
        exact ⟨by rw [hT.out]; rfl, rfl⟩
      | false =>
        have hK2 := Lib.hid (show ∀ k f, k < j + 1 → F[k]? = some f → occB s f = false from fun k f' hk hf' => by
          by_cases e : k = j
          · rw [e, hf] at hf'
            cases hf'
            exact ho
          · exact HK.out k f' (by omega) hf')
        rw [ho] at HC1
        clear hx hf hu2 ho HK
        go_wp2_with fail
        (with_reducible refine HC1.out.mono ?_)
        rintro e w9 ⟨rfl, hw9⟩
        rw [← hw9]
        clear hw9 w9
        go_wp2
        go_roundg g
        case measure => omega
        case rel => exact ⟨j + 1, by go_num, by omega, hK2, rfl⟩
    · have h1i : ¬ (j : Int) < (n : Int) := by omega
      have hT := Lib.hid (HT.out fun k f hk => HK.out k f (by have := (List.getElem?_eq_some_iff.1 hk).1; rw [← Hn.out] at this; omega) hk)
      clear HK
      go_wp2
      go_ret
      exact ⟨by rw [hT.out]; rfl, rfl⟩
set_option maxHeartbeats 1000000 in
theorem l2HasText_c {w : World} {v : Value} {F : List ByteArray} {s : ByteArray} (h : TsR w v F) :
    Calls Tryd.prog 99 #[v, .string s] w fun e w' => e = .returned (.bool (hasB F s)) ∧ w = w' := by
  have hlen := h.len
  obtain ⟨a, c, rfl, -, -, hcell⟩ := h.shape
  have HT := Lib.hid (fun (h : ∀ (k : Nat) (f : ByteArray), F[k]? = some f → f ≠ s) => (show hasB F s = false from hasB_no h))
  have HF := Lib.hid (fun k (h : F[k]? = some s) => (show hasB F s = true from hasB_yes (List.mem_of_getElem? h)))
  generalize hasB F s = T at HT HF ⊢
  obtain ⟨n, hn⟩ : ∃ n, n = F.length := ⟨_, rfl⟩
  have Hn := Lib.hid hn
  rw [← hn] at hcell hlen ⊢
  clear h hn
  have Hcell := Lib.hid hcell
  clear hcell
  go_enter Tryd.func99, Tryd.ntmps99
  go_wp2
  go_loopg [5] n (fun g i wr => ∃ (j : Nat), i = .int .i64 j ∧ j + g = n ∧ Hid (∀ k f, k < j → F[k]? = some f → f ≠ s) ∧ w = wr)
  case atStart => exact ⟨0, rfl, by omega, Lib.hid (fun k f hk => absurd hk (Nat.not_lt_zero _)), rfl⟩
  case round =>
    obtain ⟨j, rfl, hj, HK, rfl⟩ := hrel
    by_cases h1 : j < n
    · have h1i : (j : Int) < (n : Int) := by omega
      obtain ⟨g, rfl⟩ : ∃ x, gk = x + 1 := ⟨gk - 1, by omega⟩
      obtain ⟨b, o, rfl, -, hx⟩ := Hcell.out (by omega)
      obtain ⟨f, hf, -⟩ := at_lt (xs := F) (k := j) (by rw [← Hn.out]; exact h1)
      obtain ⟨u, hu, hu2⟩ := hx j f hf
      have hu2' : u = .string f := hu2
      subst hu2'
      by_cases ho : f = s
      · subst ho
        have hT := Lib.hid (HF.out j hf)
        have hd : (f.toList == f.toList) = true := by simp
        clear hx hf hu2
        go_wp2
        go_ret
        exact ⟨by rw [hT.out]; rfl, rfl⟩
      · have hK2 := Lib.hid (show ∀ k f, k < j + 1 → F[k]? = some f → f ≠ s from fun k f' hk hf' => by
          by_cases e : k = j
          · rw [e, hf] at hf'
            cases hf'
            exact ho
          · exact HK.out k f' (by omega) hf')
        have hd : (f.toList == s.toList) = false := by
          rw [beq_eq_false_iff_ne]
          exact fun e => ho (bytes_ext e)
        clear hx hf hu2 HK
        go_wp2
        go_roundg g
        case measure => omega
        case rel => exact ⟨j + 1, by go_num, by omega, hK2, rfl⟩
    · have h1i : ¬ (j : Int) < (n : Int) := by omega
      have hT := Lib.hid (HT.out fun k f hk => HK.out k f (by have := (List.getElem?_eq_some_iff.1 hk).1; rw [← Hn.out] at this; omega) hk)
      clear HK
      go_wp2
      go_ret
      exact ⟨by rw [hT.out]; rfl, rfl⟩
end Go.Proofs.YtcilgihmaaobeaaDoor
end

section
namespace Go.Proofs.YtcilgihmaaobeaaDoor
open Go.RowKit Go.Deep Go.Sd
set_option linter.unusedSimpArgs false
/-- A word that may stand at a place of a shift's list. -/
def wdOk (L : Int) (F : List ByteArray) (k : Nat) (f : ByteArray) : Prop := letB L f.data.toList = true ∧ 1 ≤ f.size ∧ f.size ≤ 3 ∧ (0 < k → ∀ p, F[k - 1]? = some p → Op.bytesLess p.toList f.toList = true)
def shiftP (s : Sh) : Prop := (1 ≤ s.1 ∧ s.1 ≤ 3) ∧ s.2.length ≤ 8 ∧ ∀ (k : Nat) (f : ByteArray), s.2[k]? = some f → wdOk s.1 s.2 k f
open Classical in
noncomputable def shiftM (s : Sh) : Bool := decide (shiftP s)
open Classical in
theorem shiftM_yes {s : Sh} (h : shiftP s) : shiftM s = true := by unfold shiftM; exact decide_eq_true h
open Classical in
theorem shiftM_no {s : Sh} (h : ¬ shiftP s) : shiftM s = false := by unfold shiftM; exact decide_eq_false h
open Classical in
theorem shiftM_of {s : Sh} (h : shiftM s = true) : shiftP s := by unfold shiftM at h; exact of_decide_eq_true h
set_option maxHeartbeats 2000000 in
set_option maxRecDepth 100000 in
theorem spec_IsShift_c {w : World} {v : Value} {s : Sh} (h : ShR w v s) (hb : ∀ f, f ∈ s.2 → f.size ≤ 1048576) :
    Calls Tryd.prog 92 #[v] w fun e w' => e = .returned (.bool (shiftM s)) ∧ Below w.heap.size w w' := by
  obtain ⟨L, F⟩ := s
  obtain ⟨va, rfl, ht⟩ := h
  have HY := Lib.hid (fun h => shiftM_yes (s := (L, F)) h)
  have HN := Lib.hid (fun h => shiftM_no (s := (L, F)) h)
  generalize shiftM (L, F) = T at HY HN ⊢
  simp only at ht hb
  obtain ⟨w0, e0, hb0, c0, c1, m0⟩ := boxA_ex w 92 (.int .i64 L) va
  have ht0 := TsR.frame _ _ _ _ ht hb0
  have hlen := ht0.len
  obtain ⟨a, c, rfl, -, -, hcell⟩ := ht0.shape
  obtain ⟨n, hn⟩ : ∃ n, n = F.length := ⟨_, rfl⟩
  have Hn := Lib.hid hn
  rw [← hn] at hcell hlen c1 e0 ⊢
  have Hcell := Lib.hid hcell
  have HBf := Lib.hid hb
  have HB := Lib.hid hb0
  have HW := Lib.hid (fun f (hf : f ∈ F) => spec_IsWord_c L f w0 (by have := hb f hf; unfold maxLen; omega))
  clear hcell hn ht ht0 hb hb0
  go_enter Tryd.func92, Tryd.ntmps92
  go_wp2
  go_loopg [3] n (fun g i wr => ∃ (j : Nat), i = .int .i64 j ∧ j + g = n ∧ Hid (∀ k f, k < j → F[k]? = some f → (1 ≤ L ∧ L ≤ 3) ∧ wdOk L F k f) ∧ w0 = wr)
  case atStart => exact ⟨0, rfl, by omega, Lib.hid (fun k f hk => absurd hk (Nat.not_lt_zero _)), rfl⟩
  case round =>
    obtain ⟨j, rfl, hj, HK, rfl⟩ := hrel
    by_cases h1 : j < n
    · have h1i : (j : Int) < (n : Int) := by omega
      obtain ⟨g, rfl⟩ : ∃ x, gk = x + 1 := ⟨gk - 1, by omega⟩
      obtain ⟨b, o, rfl, -, hx⟩ := Hcell.out (by omega)
      obtain ⟨f, hf, -⟩ := at_lt (xs := F) (k := j) (by rw [← Hn.out]; exact h1)
      obtain ⟨u, hu, hu2⟩ := hx j f hf
      have hu2' : u = .string f := hu2
      subst hu2'
      have HW1 := Lib.hid (HW.out f (List.mem_of_getElem? hf))
      have hfs := HBf.out f (List.mem_of_getElem? hf)
      have HI := Lib.hid (l1In_c (f.size : Int) 1 3 w0)
      have Hf := Lib.hid hf
      clear hu2
      cases hw : wordM L f with
      | false =>
        have hT := Lib.hid (HN.out fun h => by
          have h2 := h.2.2 j f hf
          unfold wordM at hw
          rw [h2.1, decide_eq_true (show 1 ≤ L ∧ L ≤ 3 from h.1), decide_eq_true (show f.size ≤ 16 by have := h2.2.2.1; omega)] at hw
          exact absurd hw (by decide))
        rw [hw] at HW1
        clear hf hx hw
        go_wp2_with fail
        (with_reducible refine HW1.out.mono ?_)
        rintro e w9 ⟨rfl, hw9⟩
        rw [← hw9]
        clear hw9 w9
        go_wp2
        go_ret
        exact ⟨by rw [hT.out]; rfl, HB.out⟩
      | true =>
        have hwd : (1 ≤ L ∧ L ≤ 3) ∧ letB L f.data.toList = true := by
          unfold wordM at hw
          simp only [Bool.and_eq_true, decide_eq_true_eq] at hw
          exact ⟨hw.1, hw.2.2⟩
        rw [hw] at HW1
        clear hw
        by_cases h13 : 1 ≤ f.size ∧ f.size ≤ 3
        · rw [decide_eq_true (show (1 : Int) ≤ (f.size : Int) by omega), decide_eq_true (show (f.size : Int) ≤ 3 by omega)] at HI
          by_cases hj0 : 0 < j
          · have hj0i : (0 : Int) < (j : Int) := by omega
            obtain ⟨p, hp, -⟩ := at_lt (xs := F) (k := j - 1) (by rw [← Hn.out]; omega)
            obtain ⟨u, hv, hv2⟩ := hx (j - 1) p hp
            have hv2' : u = .string p := hv2
            subst hv2'
            have hjm : ((j : Int) - 1).toNat = j - 1 := by omega
            have hj1 : (0 : Int) ≤ (j : Int) - 1 := by omega
            have hj2 : (j : Int) - 1 < (n : Int) := by omega
            cases hl : Op.bytesLess p.toList f.toList with
            | false =>
              have hT := Lib.hid (HN.out fun h => by
                have h2 := (h.2.2 j f hf).2.2.2 hj0 p hp
                rw [hl] at h2
                cases h2)
              clear hf hx hv2 hp
              go_wp2_with fail
              (with_reducible refine HW1.out.mono ?_)
              rintro e w9 ⟨rfl, hw9⟩
              rw [← hw9]
              clear hw9 w9
              go_wp2_with fail
              (with_reducible refine HI.out.mono ?_)
              rintro e w9 ⟨rfl, hw9⟩
              rw [← hw9]
              clear hw9 w9
              go_wp2
              go_ret
              exact ⟨by rw [hT.out]; rfl, HB.out⟩
            | true =>
              have hK2 := Lib.hid (show ∀ k f, k < j + 1 → F[k]? = some f → (1 ≤ L ∧ L ≤ 3) ∧ wdOk L F k f from fun k f' hk hf' => by
                by_cases e : k = j
                · rw [e, hf] at hf'
                  cases hf'
                  rw [e]
                  exact ⟨hwd.1, hwd.2, h13.1, h13.2, fun _ p' hp' => by rw [hp] at hp'; cases hp'; exact hl⟩
                · exact HK.out k f' (by omega) hf')
              clear hf hx hv2 hp HK hwd
              go_wp2_with fail
              (with_reducible refine HW1.out.mono ?_)
              rintro e w9 ⟨rfl, hw9⟩
              rw [← hw9]
              clear hw9 w9
              go_wp2_with fail
              (with_reducible refine HI.out.mono ?_)
              rintro e w9 ⟨rfl, hw9⟩
              rw [← hw9]
              clear hw9 w9
              go_wp2
              go_roundg g
              case measure => omega
              case rel => exact ⟨j + 1, by go_num, by omega, hK2, rfl⟩
          · obtain rfl : j = 0 := by omega
            have hK2 := Lib.hid (show ∀ k f, k < 0 + 1 → F[k]? = some f → (1 ≤ L ∧ L ≤ 3) ∧ wdOk L F k f from fun k f' hk hf' => by
              obtain rfl : k = 0 := by omega
              rw [hf] at hf'
              cases hf'
              exact ⟨hwd.1, hwd.2, h13.1, h13.2, fun h => absurd h (Nat.not_lt_zero _)⟩)
            clear hf hx HK hwd
            rw [Nat.add_zero] at hu
            have hz : ¬ (0 : Int) < ((0 : Nat) : Int) := by omega
            go_wp2_with fail
            (with_reducible refine HW1.out.mono ?_)
            rintro e w9 ⟨rfl, hw9⟩
            rw [← hw9]
            clear hw9 w9
            go_wp2_with fail
            (with_reducible refine HI.out.mono ?_)
            rintro e w9 ⟨rfl, hw9⟩
            rw [← hw9]
            clear hw9 w9
            go_wp2
            go_roundg g
            case measure => omega
            case rel => exact ⟨0 + 1, by go_num, by omega, hK2, rfl⟩
        · have hT := Lib.hid (HN.out fun h => by
            have h2 := h.2.2 j f hf
            exact h13 ⟨h2.2.1, h2.2.2.1⟩)
          rw [show (decide ((1 : Int) ≤ (f.size : Int)) && decide ((f.size : Int) ≤ 3)) = false from by rw [← Bool.decide_and]; exact decide_eq_false (by omega)] at HI
          clear hf hx
          go_wp2_with fail
          (with_reducible refine HW1.out.mono ?_)
          rintro e w9 ⟨rfl, hw9⟩
          rw [← hw9]
          clear hw9 w9
          go_wp2_with fail
          (with_reducible refine HI.out.mono ?_)
          rintro e w9 ⟨rfl, hw9⟩
          rw [← hw9]
          clear hw9 w9
          go_wp2
          go_ret
          exact ⟨by rw [hT.out]; rfl, HB.out⟩
    · have h1i : ¬ (j : Int) < (n : Int) := by omega
      have HI := Lib.hid (l1In_c L 1 3 w0)
      have hall : ∀ k f, F[k]? = some f → wdOk L F k f := fun k f hk => (HK.out k f (by have := (List.getElem?_eq_some_iff.1 hk).1; rw [← Hn.out] at this; omega) hk).2
      by_cases hL : 1 ≤ L ∧ L ≤ 3
      · rw [decide_eq_true hL.1, decide_eq_true hL.2] at HI
        by_cases h8 : n ≤ 8
        · have h8i : (n : Int) ≤ 8 := by omega
          have hd8 : decide ((n : Int) ≤ 8) = true := decide_eq_true h8i
          have hT := Lib.hid (HY.out ⟨hL, by rw [← Hn.out]; exact h8, hall⟩)
          clear hall HK
          go_wp2_with fail
          (with_reducible refine HI.out.mono ?_)
          rintro e w9 ⟨rfl, hw9⟩
          rw [← hw9]
          clear hw9 w9
          go_wp2
          go_ret
          exact ⟨by rw [hT.out]; rfl, HB.out⟩
        · have h8i : ¬ (n : Int) ≤ 8 := by omega
          have hd8 : decide ((n : Int) ≤ 8) = false := decide_eq_false h8i
          have hT := Lib.hid (HN.out fun h => h8 (by rw [Hn.out]; exact h.2.1))
          clear hall HK
          go_wp2_with fail
          (with_reducible refine HI.out.mono ?_)
          rintro e w9 ⟨rfl, hw9⟩
          rw [← hw9]
          clear hw9 w9
          go_wp2
          go_ret
          exact ⟨by rw [hT.out]; rfl, HB.out⟩
      · have hT := Lib.hid (HN.out fun h => hL h.1)
        rw [show (decide (1 ≤ L) && decide (L ≤ 3)) = false from by rw [← Bool.decide_and]; exact decide_eq_false hL] at HI
        clear hall HK
        go_wp2_with fail
        (with_reducible refine HI.out.mono ?_)
        rintro e w9 ⟨rfl, hw9⟩
        rw [← hw9]
        clear hw9 w9
        go_wp2
        go_ret
        exact ⟨by rw [hT.out]; rfl, HB.out⟩
end Go.Proofs.YtcilgihmaaobeaaDoor
end

section
namespace Go.Sd
open Go.RowKit Go.Deep
def Clos (E : Nat → Nat → Prop) (n : Nat) (S : Nat → Prop) : Prop := ∀ i, S i → i < n ∧ (∃ j, S j ∧ E i j) ∧ ∃ j, S j ∧ E j i
def Gr (E : Nat → Nat → Prop) (n : Nat) (i : Nat) : Prop := ∃ S, Clos E n S ∧ S i
open Classical in
noncomputable def liveL (E : Nat → Nat → Prop) (n : Nat) : List Bool := (List.range n).map fun i => decide (Gr E n i)
def On (l : List Bool) (i : Nat) : Prop := l[i]? = some true
def Sup (E : Nat → Nat → Prop) (n : Nat) (l : List Bool) : Prop := l.length = n ∧ ∀ i, Gr E n i → On l i
def Both (E : Nat → Nat → Prop) (l : List Bool) (i : Nat) : Prop := (∃ j, On l j ∧ E i j) ∧ ∃ j, On l j ∧ E j i
def cntT (l : List Bool) : Nat := l.countP id
section
variable {E : Nat → Nat → Prop} {n : Nat} {l l' : List Bool}
theorem On.lt {i : Nat} (h : On l i) : i < l.length := (List.getElem?_eq_some_iff.1 h).1
theorem Gr.both {i : Nat} (h : Gr E n i) : i < n ∧ (∃ j, Gr E n j ∧ E i j) ∧ ∃ j, Gr E n j ∧ E j i := by
  obtain ⟨S, hS, hi⟩ := h
  obtain ⟨h1, ⟨j, hj, he⟩, k, hk, hf⟩ := hS i hi
  exact ⟨h1, ⟨j, ⟨S, hS, hj⟩, he⟩, k, ⟨S, hS, hk⟩, hf⟩
theorem liveL_len : (liveL E n).length = n := by simp [liveL]
theorem live_of (h : Sup E n l) (hc : Clos E n (On l)) : l = liveL E n := by
  apply List.ext_getElem?
  intro i
  by_cases hi : i < n
  · have h1 : (liveL E n)[i]? = some (@decide (Gr E n i) (Classical.propDecidable _)) := by simp [liveL, hi]
    rw [h1]
    by_cases hg : Gr E n i
    · rw [h.2 i hg]; simp [hg]
    · have hl : i < l.length := by rw [h.1]; exact hi
      rw [List.getElem?_eq_getElem hl]
      cases hb : l[i] with
      | false => simp [hg]
      | true =>
        exact absurd ⟨On l, hc, by unfold On; rw [List.getElem?_eq_getElem hl, hb]⟩ hg
  · rw [List.getElem?_eq_none (by rw [h.1]; omega), List.getElem?_eq_none (by rw [liveL_len]; omega)]
theorem Sup.start : Sup E n (List.replicate n true) := by
  refine ⟨by simp, fun i hi => ?_⟩
  unfold On
  rw [List.getElem?_replicate, if_pos hi.both.1]
theorem Sup.both (h : Sup E n l) {i : Nat} (hi : Gr E n i) : Both E l i := by
  obtain ⟨_, ⟨j, hj, he⟩, k, hk, hf⟩ := hi.both
  exact ⟨⟨j, h.2 j hj, he⟩, k, h.2 k hk, hf⟩
theorem Sup.unset (h : Sup E n l) {i : Nat} (hi : ¬ Both E l i) : Sup E n (l.set i false) := by
  refine ⟨by rw [List.length_set]; exact h.1, fun j hj => ?_⟩
  have hne : i ≠ j := fun e => hi (e ▸ h.both hj)
  unfold On
  rw [List.getElem?_set_ne hne]
  exact h.2 j hj
theorem cntT_replicate : cntT (List.replicate n true) = n := by
  unfold cntT; simp [List.countP_replicate]
theorem cntT_le : cntT l ≤ l.length := List.countP_le_length
theorem cntT_unset : ∀ {l : List Bool} {i : Nat}, On l i → cntT (l.set i false) + 1 = cntT l
  | [], i, h => by simp [On] at h
  | b :: l, 0, h => by
    simp [On] at h
    subst h
    simp [cntT]
  | b :: l, i + 1, h => by
    have h2 : On l i := by simpa [On] using h
    have := cntT_unset (l := l) (i := i) h2
    unfold cntT at this ⊢
    simp only [List.set_cons_succ, List.countP_cons]
    omega
/-- A smaller set has fewer. -/
theorem cntT_mono : ∀ {l l' : List Bool}, l'.length = l.length → (∀ i, On l' i → On l i) → cntT l' ≤ cntT l ∧ (cntT l' = cntT l → l' = l)
  | [], [], _, _ => ⟨Nat.le_refl _, fun _ => rfl⟩
  | [], _ :: _, h, _ => by simp at h
  | _ :: _, [], h, _ => by simp at h
  | b :: l, b' :: l', h, hs => by
    have ih := cntT_mono (l := l) (l' := l') (by simpa using h) (fun i hi => by simpa [On] using hs (i + 1) (by simpa [On] using hi))
    have h0 : b' = true → b = true := fun e => by have := hs 0 (by simp [On, e]); simpa [On] using this
    unfold cntT at ih ⊢
    simp only [List.countP_cons, id]
    cases b <;> cases b'
    · simp only [Bool.false_eq_true, if_false]
      exact ⟨by omega, fun e => by rw [ih.2 (by omega)]⟩
    · exact absurd (h0 rfl) (by simp)
    · simp only [Bool.false_eq_true, if_false, if_true]
      exact ⟨by omega, fun e => by omega⟩
    · simp only [if_true]
      exact ⟨by omega, fun e => by rw [ih.2 (by omega)]⟩
/-- All at once: who lacks an arc goes. -/
def Rnd (E : Nat → Nat → Prop) (l l' : List Bool) : Prop := l'.length = l.length ∧ ∀ i, On l' i ↔ On l i ∧ Both E l i
/-- One after the other: a pass over the first i. -/
def Pas (E : Nat → Nat → Prop) (n : Nat) (l0 : List Bool) (i : Nat) (l : List Bool) (ch : Bool) : Prop :=
  Sup E n l ∧ (ch = false → l = l0 ∧ ∀ j, j < i → On l0 j → Both E l0 j) ∧ (ch = true → cntT l < cntT l0)
theorem Pas.start {l0 : List Bool} (h : Sup E n l0) : Pas E n l0 0 l0 false := ⟨h, fun _ => ⟨rfl, fun j hj => absurd hj (Nat.not_lt_zero _)⟩, fun h => by cases h⟩
theorem Pas.keep {l0 : List Bool} {i : Nat} {ch : Bool} (h : Pas E n l0 i l ch) (hi : On l i → Both E l i) : Pas E n l0 (i + 1) l ch := by
  refine ⟨h.1, fun hc => ?_, h.2.2⟩
  obtain ⟨e, hb⟩ := h.2.1 hc
  refine ⟨e, fun j hj hon => ?_⟩
  by_cases hji : j < i
  · exact hb j hji hon
  · obtain rfl : j = i := by omega
    rw [← e] at hon ⊢
    exact hi hon
theorem Pas.unset {l0 : List Bool} {i : Nat} {ch : Bool} (h : Pas E n l0 i l ch) (hi : On l i) (hb : ¬ Both E l i) : Pas E n l0 (i + 1) (l.set i false) true := by
  refine ⟨h.1.unset hb, (fun hc => by cases hc), fun _ => ?_⟩
  have h1 := cntT_unset hi
  cases ch with
  | false => rw [(h.2.1 rfl).1] at h1 ⊢; omega
  | true => have := h.2.2 rfl; omega
theorem Pas.end {l0 : List Bool} (h : Pas E n l0 n l false) : l = liveL E n := by
  obtain ⟨rfl, hb⟩ := h.2.1 rfl
  refine live_of h.1 fun i hi => ?_
  have hlt : i < n := by rw [← h.1.1]; exact hi.lt
  exact ⟨hlt, (hb i hlt hi).1, (hb i hlt hi).2⟩
theorem Pas.less {l0 : List Bool} (h : Pas E n l0 n l true) : Sup E n l ∧ cntT l < cntT l0 := ⟨h.1, h.2.2 rfl⟩
end
end Go.Sd
end

section
namespace Go.Sd
def pairsR (R : Nat → Nat → Bool) (n : Nat) : Nat := (List.range n).foldr (fun p s => ((List.range n).countP fun q => R p q) + s) 0
section
variable {L n : Nat} {tg : Nat → Nat → Option Nat} {R R' : Nat → Nat → Bool}
/-! Least members. -/
/-! What is alike on the first n has the same members and numbers. -/
def Same (n : Nat) (R R' : Nat → Nat → Bool) : Prop := ∀ p q, p < n → q < n → R p q = R' p q
/-! Rounds end. -/
theorem countP_le' {f g : Nat → Bool} : ∀ (l : List Nat), (∀ q, q ∈ l → g q = true → f q = true) → l.countP g ≤ l.countP f ∧ (l.countP g = l.countP f → ∀ q, q ∈ l → g q = f q)
  | [], _ => ⟨Nat.le_refl _, fun _ q hq => by cases hq⟩
  | q :: l, h => by
    have ih := countP_le' l (fun q' hq' => h q' (by simp [hq']))
    have h0 := h q (by simp)
    simp only [List.countP_cons]
    cases hg : g q <;> cases hf : f q
    · simp only [Bool.false_eq_true, if_false]
      exact ⟨by omega, fun e q' hq' => by rcases List.mem_cons.1 hq' with rfl | hq'; exact hg.trans hf.symm; exact ih.2 (by omega) q' hq'⟩
    · simp only [Bool.false_eq_true, if_false, if_true]
      exact ⟨by omega, fun e => by omega⟩
    · exact absurd (h0 hg) (by rw [hf]; simp)
    · simp only [if_true]
      exact ⟨by omega, fun e q' hq' => by rcases List.mem_cons.1 hq' with rfl | hq'; exact hg.trans hf.symm; exact ih.2 (by omega) q' hq'⟩
theorem pairs_sub (h : ∀ p q, R' p q = true → R p q = true) : pairsR R' n ≤ pairsR R n ∧ (pairsR R' n = pairsR R n → Same n R R') := by
  have key : ∀ (l : List Nat), (l.foldr (fun p s => ((List.range n).countP fun q => R' p q) + s) 0) ≤ (l.foldr (fun p s => ((List.range n).countP fun q => R p q) + s) 0) ∧
      ((l.foldr (fun p s => ((List.range n).countP fun q => R' p q) + s) 0) = (l.foldr (fun p s => ((List.range n).countP fun q => R p q) + s) 0) → ∀ p, p ∈ l → ∀ q, q < n → R p q = R' p q) := by
    intro l
    induction l with
    | nil => exact ⟨Nat.le_refl _, fun _ p hp => by cases hp⟩
    | cons a l ih =>
      have h1 := countP_le' (f := fun q => R a q) (g := fun q => R' a q) (List.range n) (fun q _ => h a q)
      simp only [List.foldr_cons]
      refine ⟨by omega, fun e p hp q hq => ?_⟩
      rcases List.mem_cons.1 hp with rfl | hp
      · exact (h1.2 (by omega) q (by simpa using hq)).symm
      · exact ih.2 (by omega) p hp q hq
  have := key (List.range n)
  exact ⟨this.1, fun e p q hp hq => this.2 e p (by simpa using hp) q hq⟩
/-! Lists. -/
end
end Go.Sd
end
