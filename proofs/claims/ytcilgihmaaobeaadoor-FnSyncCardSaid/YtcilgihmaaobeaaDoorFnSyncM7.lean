/-
  Texts of this claim joined: laws for its walks, contracts of the functions that the law reaches.
-/
import Derived.Test.YtcilgihmaaobeaaDoorRows
import Derived.Test.YtcilgihmaaobeaaDoorFnSyncM1
import Derived.Test.YtcilgihmaaobeaaDoorFnSyncM4
import Derived.Test.YtcilgihmaaobeaaDoorFnSyncM5
import Derived.Test.YtcilgihmaaobeaaDoorFnSyncM6
import Derived.IntWalk
import Derived.Deep.RegionHeld3
import Derived.Deep.DeepCutAuto
import Derived.Test.YtcilgihmaaobeaaDoorFnSyncM3
import Derived.Test.YtcilgihmaaobeaaDoorFnSyncM2
import Derived.OrdersHeld
set_option linter.unusedVariables false
set_option linter.unusedSimpArgs false
section
namespace Go.Proofs.YtcilgihmaaobeaaDoor
open Go.RowKit Go.Deep Go.Sd Go.Maps
set_option linter.unusedSimpArgs false
def InvS (N : Nat) (es : List Ent) : Prop := Capped 16 es ∧ LetsE N es
set_option maxHeartbeats 4000000 in
set_option maxRecDepth 100000 in
theorem reachShort_c {w : World} {v : Value} {l : Lb} {lo c : Nat} (hfr : ∀ w1, Below lo w w1 → LabR w1 v l) (ho : okArcs l.2.1 l.2.2) (hS1 : 1 ≤ l.2.1) (hS2 : l.2.1 ≤ 12) (hL1 : 1 ≤ l.1) (hL2 : l.1 ≤ 3) (hs : Sep lo w [Res.box c [.string ⟨#[]⟩], Res.box (c + 1) [.bool false]]) (hlo : lo ≤ w.heap.size) :
    Calls Tryd.prog 29 #[v, .int .i64 16, .func (.func 30) #[] #[.pointer (some ⟨c, 0, none⟩), .pointer (some ⟨c + 1, 0, none⟩)]] w fun e w' => e = .returned (.tuple #[]) ∧ Sep lo w' (shortB c (reachE l.2.2 l.1.toNat 16 cbShort 4096 [(allN l.2.1, [])] 0 none)) ∧ Below lo w w' := by
  have Hfr := Lib.hid hfr
  have hlab := hfr w (Below.refl _ _)
  clear hfr
  obtain ⟨L, S, xs⟩ := l
  obtain ⟨_, rfl, -, a, ac, rfl, -, -, -, -⟩ := hlab
  simp only at *
  generalize hn : xs.length = n at *
  clear hn
  obtain ⟨N, rfl⟩ := Int.eq_ofNat_of_zero_le (show 0 ≤ L by omega)
  obtain ⟨q, rfl⟩ := Int.eq_ofNat_of_zero_le (show 0 ≤ S by omega)
  rw [show (N : Int).toNat = N from rfl]
  have hAok := all_ok hS1 hS2
  have hA4 := allN_lt hS2
  have HAl := Lib.hid (fun w1 (hb : Below lo w w1) => impl_all_c (Hfr.out w1 hb) hS1 hS2)
  have HSt := Lib.hid (fun w' (hb : Below lo w w') q (hq : q < 4096) x => impl_step_c (Hfr.out w' hb) ho hS2 hq x)
  have Hlt := Lib.hid (fun q x => stepN_lt ho hS2 q x)
  simp only at HAl HSt Hlt
  generalize allN (q : Int) = A at hAok hA4 HAl ⊢
  have HO := Lib.hid (show OkE [(A, [])] from hAok)
  have HI := Lib.hid (show InvS N [(A, [])] from ⟨fun e he => by simp at he; subst he; simp, fun e he x hx => by simp at he; subst he; simp at hx⟩)
  obtain ⟨T, hT⟩ : ∃ T, T = reachE xs N 16 cbShort 4096 [(A, [])] 0 none := ⟨_, rfl⟩
  rw [← hT]
  have HT := Lib.hid hT.symm
  clear hT ho hS1 hS2 hL1 hAok Hfr
  have hN3 : N ≤ 3 := by omega
  clear hL2
  have hs1 := hs.boxNew hlo [.int .i64 (N : Int), .int .i64 (q : Int), .slice a n ac] 26
  obtain ⟨w1, e1⟩ : ∃ x, x = w.alloc (.cells #[.int .i64 (N : Int), .int .i64 (q : Int), .slice a n ac] 26) := ⟨_, rfl⟩
  have A1 := Lib.hid (show Below lo w w1 from by rw [e1]; exact (Below.refl _ _).alloc hlo _)
  have hs1' : Sep lo w1 (Res.box w.heap.size [.int .i64 (N : Int), .int .i64 (q : Int), .slice a n ac] :: [Res.box c [.string ⟨#[]⟩], Res.box (c + 1) [.bool false]]) := by rw [e1]; exact hs1
  have e1s := e1.symm
  have H1 := Lib.hid hs1'
  obtain ⟨-, hcs⟩ := hs1'.headBox
  have c0 := (hcs.2 0 (.int .i64 (N : Int)) rfl).1
  have c1 := (hcs.2 1 (.int .i64 (q : Int)) rfl).1
  have c2 := (hcs.2 2 (.slice a n ac) rfl).1
  have hmm := @run_makeMap Tryd.prog
  have hlo1 : lo ≤ w1.heap.size := by rw [e1]; simp; omega
  clear hs hs1 hs1' hcs e1 hlo
  go_enter Tryd.func29, Tryd.ntmps29
  go_wp2_with fail
  refine (HAl.out _ A1.out).mono ?_
  rintro e w2 ⟨rfl, hb2⟩
  have hz2 := hb2.size
  have H2 := Lib.hid (H1.out.below hb2 (Nat.le_refl _))
  have A2 := Lib.hid (A1.out.trans (hb2.mono hlo1))
  obtain ⟨-, hcs⟩ := H2.out.headBox
  have c0 := (hcs.2 0 (.int .i64 (N : Int)) rfl).1
  have c1 := (hcs.2 1 (.int .i64 (q : Int)) rfl).1
  have c2 := (hcs.2 2 (.slice a n ac) rfl).1
  clear hcs hb2 H1 e1s
  have hlo2 : lo ≤ w2.heap.size := by omega
  have h3 := H2.out.new (OwnG.held (EntR.kept 5)) ((Below.refl _ _).alloc (Nat.le_refl _) _) hlo2 (New.oneG' (e := 72) (sz := 2) (R := EntR 5) w2 [.int .i64 (A : Int), .slice none 0 0] (A, []) rfl (fun w' => ⟨_, rfl, OwnOf.nil _⟩))
  obtain ⟨w3, e3⟩ : ∃ x, x = w2.alloc (.cells #[.int .i64 (A : Int), .slice none 0 0] 72) := ⟨_, rfl⟩
  have h3' : Sep lo w3 (Res.ents (.slice (some ⟨w2.heap.size, 0, none⟩) 1 1) [(A, [])] :: Res.box w.heap.size [.int .i64 (N : Int), .int .i64 (q : Int), .slice a n ac] :: [Res.box c [.string ⟨#[]⟩], Res.box (c + 1) [.bool false]]) := by rw [e3]; exact h3
  have e3s := e3.symm
  have hz3 : w3.heap.size = w2.heap.size + 1 := by rw [e3]; simp
  have A3 := Lib.hid (show Below lo w w3 from by rw [e3]; exact A2.out.alloc hlo2 _)
  have h4 := h3'.mapNew (by omega) Tryd.prog 3 4 domS (fun s : Nat => .int .i64 (s : Int)) (fun y : Bool => .lit (.bool y))
  rw [memS_nil] at h4
  obtain ⟨w4, e4⟩ : ∃ x, x = w3.alloc (.map #[] 0) := ⟨_, rfl⟩
  have hz4 : w4.heap.size = w3.heap.size + 1 := by rw [e4]; simp
  have A4 := Lib.hid (show Below lo w w4 from by rw [e4]; exact A3.out.alloc (by omega) _)
  rw [← e4] at h4
  have e4s := e4.symm
  have H4 := Lib.hid h4
  obtain ⟨-, hcs⟩ := H4.out.getBox (b := w.heap.size) (vs := [.int .i64 (N : Int), .int .i64 (q : Int), .slice a n ac]) (by simp)
  clear c0 c1 c2
  have c0 := (hcs.2 0 (.int .i64 (N : Int)) rfl).1
  have c1 := (hcs.2 1 (.int .i64 (q : Int)) rfl).1
  have c2 := (hcs.2 2 (.slice a n ac) rfl).1
  clear hcs h3 h3' h4 e3 e4 A2 A3 H2
  go_wp2_with fail
  refine (HAl.out _ A4.out).mono ?_
  rintro e w5 ⟨rfl, hb5⟩
  have hz5 := hb5.size
  have H5 := Lib.hid (H4.out.below hb5 (Nat.le_refl _))
  have A5 := Lib.hid (A4.out.trans (hb5.mono (by omega)))
  obtain ⟨bm, hbm⟩ : ∃ x, x = w2.heap.size + 1 := ⟨_, rfl⟩
  rw [hz3, ← hbm] at H5
  rw [← hbm]
  obtain ⟨w6, hr6, hs6, hb6, -⟩ := Sep.setAdd (b := bm) (n := 0) (ss := []) H5.out (by omega) (by omega) A (by unfold domS; omega)
  have hz6 := hb6.size
  have HS0 := Lib.hid (hs6.swap)
  have HB0 := Lib.hid (A5.out.trans hb6)
  have hz06 : lo ≤ w6.heap.size := by omega
  have hbL := (hs6.getBox (b := w.heap.size) (vs := [.int .i64 (N : Int), .int .i64 (q : Int), .slice a n ac]) (by simp)).1
  clear hs6 hb6 hb5 c0 c1 c2 A1 A4 A5 H4 H5 e3s e4s hbm hz3 hz4 hz5 hz2 HAl hA4 hlo1 hlo2
  go_wp2
  clear hr6 hmm
  go_loopg [6, 8] 4096 (fun g vs i wr => ∃ (k : Nat) (es : List Ent) (la : Option Addr) (lc : Nat), vs = .slice la es.length lc ∧ i = .int .i64 k ∧ k + g = 4096 ∧ lo ≤ wr.heap.size ∧ Hid (OkE es) ∧ Hid (InvS N es) ∧ Hid (reachE xs N 16 cbShort g es k none = T) ∧ Hid (Sep lo wr (Res.ents vs es :: Res.sets bm es.length (es.map (·.1)) :: Res.box w.heap.size [.int .i64 (N : Int), .int .i64 (q : Int), .slice a n ac] :: [Res.box c [.string ⟨#[]⟩], Res.box (c + 1) [.bool false]])) ∧ Hid (Below lo w wr))
  case atStart => exact ⟨0, [(A, [])], _, _, rfl, rfl, by omega, hz06, HO, HI, HT, HS0, HB0⟩
  case round =>
    clear HO HI HT HS0 HB0 hz06
    obtain ⟨k, es, la, lc, rfl, rfl, hk, hzr, HO, HI, HT, HS, HB⟩ := hrel
    obtain ⟨wq, rfl⟩ : ∃ x, x = wr := ⟨_, rfl⟩
    have Hl := Lib.hid HO.out.len
    by_cases hlt : k < es.length
    · obtain ⟨⟨s, wd⟩, he, _⟩ := at_lt hlt
      obtain ⟨g, rfl⟩ : ∃ x, gk = x + 1 := ⟨gk - 1, by have := Hl.out; omega⟩
      have hs4 : s < 4096 := (HO.out.2 s (List.mem_map.2 ⟨(s, wd), List.mem_of_getElem? he, rfl⟩)).2
      obtain ⟨G, G', hG, hG', hGG⟩ := HS.out.headTwo (r' := Res.box c [.string ⟨#[]⟩]) (by simp)
      obtain ⟨G2, G2', hG2, hG2', hGG2⟩ := HS.out.headTwo (r' := Res.box (c + 1) [.bool false]) (by simp)
      obtain ⟨bl, lc', u, K, hv, hbl, ⟨vw, rfl, hW⟩, hKG, hbG, hcl⟩ := OwnG.at (x := (s, wd)) hG he
      simp at hv
      obtain ⟨rfl, rfl⟩ := hv
      have hblc : bl ≠ c := fun e2 => hGG bl hbG (by rw [hG'.1, e2]; simp)
      have f0 := hcl 0 (.int .i64 (s : Int)) rfl
      have f1 := hcl 1 vw rfl
      rw [Nat.add_zero] at f0
      obtain ⟨va, vc, hvw, _⟩ := (OWord.reads hW).shape
      subst hvw
      have hki : (k : Int) < (es.length : Int) := by omega
      have hS0 : wq.cell? ⟨bl, k * 2, none⟩ = some (.int .i64 (s : Int)) ∧ wq.cell? ⟨bl, k * 2 + 1, none⟩ = some (.slice va wd.length vc) := ⟨f0, f1⟩
      have hSd : wq.drew.cell? ⟨bl, k * 2, none⟩ = some (.int .i64 (s : Int)) ∧ wq.drew.cell? ⟨bl, k * 2 + 1, none⟩ = some (.slice va wd.length vc) := hS0
      have HC := Lib.hid (shortclo_c (w := wq.drew) (lo := lo) (c := c) (((HS.out.below (Below.refl _ _).drew (Nat.le_refl _)).front [_, _, _, _]).front [_, _, _, _]) hzr hs4 (vw := .slice va wd.length vc) (wd := wd) (SlOf.frame (fun _ _ _ _ h _ => h) _ _ _ _ (OWord.reads hW) (Below.refl _ _).drew) (fun x hx => by have := HI.out.2 _ (List.mem_of_getElem? he) x hx; omega))
      have HT2 := Lib.hid (show if popN s = 1 then some wd = T else reachE xs N 16 cbShort g (if wd.length = 16 then es else rowE xs s wd N 0 es) (k + 1) none = T from by have h := HT.out; unfold reachE at h; rw [he] at h; simp only [cbShort, nextE] at h; split <;> rename_i hp <;> simp only [hp, if_true, if_false] at h <;> exact h)
      have HE := Lib.hid he
      have hwl : wd.length ≤ 16 := HI.out.1 _ (List.mem_of_getElem? he)
      have hl := Hl.out
      have hblc2 : bl ≠ c + 1 := by
        obtain ⟨bl2, _, _, _, hv2, _, _, _, hbG2, _⟩ := OwnG.at (x := (s, wd)) hG2 he
        simp at hv2
        intro e2
        exact hGG2 bl2 hbG2 (by rw [hG2'.1, ← hv2.1, e2]; simp)
      generalize hpp : popN s = pp at HC HT2
      clear hpp hG2 hG2' hGG2
      clear HT hG hG' hGG hW hKG hbG hcl f0 f1 he c0 c1 c2
      go_wp2
      go_region_held3 (fun w' => w'.cell? ⟨bl, k * 2, none⟩ = some (.int .i64 (s : Int)) ∧ w'.cell? ⟨bl, k * 2 + 1, none⟩ = some (.slice va wd.length vc))
        (first | with_reducible exact hS1 | with_reducible exact hSd | with_reducible exact hS0 | go_keep)
        ((first
          | (go_at_call 30; (with_reducible refine HC.out.mono ?_); rintro e w7 ⟨rfl, hs7, hb7, hk7⟩; have hS1 : w7.cell? ⟨bl, k * 2, none⟩ = some (.int .i64 (s : Int)) ∧ w7.cell? ⟨bl, k * 2 + 1, none⟩ = some (.slice va wd.length vc) := ⟨(hk7 ⟨bl, k * 2, none⟩ hblc hblc2).trans hS0.1, (hk7 ⟨bl, k * 2 + 1, none⟩ hblc hblc2).trans hS0.2⟩)
          | fail))
      have f1 := hS1.2
      have HB7 := Lib.hid (HB.out.drew.trans hb7)
      by_cases hpp : pp = 1
      · have HF := Lib.hid (show T = some wd from by have h := HT2.out; rw [if_pos hpp] at h; exact h.symm)
        have HP := Lib.hid (show Sep lo w7 (shortB c (some wd)) from by rw [if_pos hpp] at hs7; have h := hs7; exact h.perm (List.Perm.refl _) |> fun h => (show Sep lo w7 (Res.box c [.string (wordT wd)] :: Res.box (c + 1) [.bool true] :: _) from h).firstTwo)
        have hdp : decide (pp = 1) = true := decide_eq_true hpp
        rw [hdp]
        clear HT2 HS HB hs7 hb7 hk7 hS0 hSd hS1 HC HI HO
        go_wp2
        refine bodyPost_ret (v := .tuple #[]) (by simp [results, Tryd.results29, go_sem]) rfl ?_
        exact ⟨rfl, by rw [HF.out]; exact HP.out, HB7.out⟩
      have hdp : decide (pp = 1) = false := decide_eq_false hpp
      rw [hdp]
      have HT3 := Lib.hid (show reachE xs N 16 cbShort g (if wd.length = 16 then es else rowE xs s wd N 0 es) (k + 1) none = T from by have h := HT2.out; rw [if_neg hpp] at h; exact h)
      rw [if_neg hpp] at hs7
      have HS7 := Lib.hid (show Sep lo w7 _ from Sep.back [_, _, _, _] (Sep.back [_, _, _, _] hs7))
      have hz7 := hb7.size
      have hz7l : lo ≤ w7.heap.size := by simp at hz7; omega
      have hbl7 : bl < w7.heap.size := by simp at hz7; omega
      obtain ⟨-, hcs⟩ := HS7.out.getBox (b := w.heap.size) (vs := [.int .i64 (N : Int), .int .i64 (q : Int), .slice a n ac]) (by simp)
      have c0 := (hcs.2 0 _ rfl).1
      clear hcs HS HB hs7 hb7 hk7 hS0 hSd hS1 HC hz7
      clear HT2 hpp hdp
      by_cases h16 : wd.length = 16
      · have HTy := Lib.hid (show reachE xs N 16 cbShort g es (k + 1) none = T from by have h := HT3.out; rwa [if_pos h16] at h)
        have t7 : ((wd.length : Int) == 16) = true := by simp; omega
        clear HT3 HE c0
        go_wp2
        go_roundg g
        case measure => omega
        case rel => exact ⟨k + 1, es, _, _, rfl, by go_num, by omega, hz7l, HO, HI, HTy, HS7, HB7⟩
      have HT2 := Lib.hid (show reachE xs N 16 cbShort g (rowE xs s wd N 0 es) (k + 1) none = T from by have h := HT3.out; rwa [if_neg h16] at h)
      have t7 : ((wd.length : Int) == 16) = false := by simp; omega
      have Hw16 := Lib.hid (show wd.length < 16 from by omega)
      clear HT3 h16
      go_wp2
      go_loopg [6, 47] N (fun g2 vs i wx => ∃ (x : Nat) (es : List Ent) (la : Option Addr) (lc : Nat), vs = .slice la es.length lc ∧ i = .int .i64 x ∧ x + g2 = N ∧ k < es.length ∧ lo ≤ wx.heap.size ∧ Hid (OkE es) ∧ Hid (InvS N es) ∧ Hid (es[k]? = some (s, wd)) ∧ Hid (reachE xs N 16 cbShort g (rowE xs s wd g2 x es) (k + 1) none = T) ∧ Hid (Sep lo wx (Res.ents vs es :: Res.sets bm es.length (es.map (·.1)) :: Res.box w.heap.size [.int .i64 (N : Int), .int .i64 (q : Int), .slice a n ac] :: [Res.box c [.string ⟨#[]⟩], Res.box (c + 1) [.bool false]])) ∧ Hid (Below lo w wx))
      case atStart => exact ⟨0, es, _, _, rfl, rfl, by omega, hlt, hz7l, HO, HI, HE, HT2, HS7, HB7⟩
      case round =>
        clear HO HI HE HT2 HS7 HB7 c0 f1 hbl hbl7 hz7l Hl hl hlt hki hzr hblc hbL hblc2 t7
        obtain ⟨x, es, la, lc, rfl, rfl, hx, hlt, hzx, HO, HI, HE, HT2, HS, HB⟩ := hrel
        obtain ⟨wx, rfl⟩ : ∃ x, x = wr := ⟨_, rfl⟩
        have Hl := Lib.hid HO.out.len
        by_cases hxl : x < N
        · obtain ⟨g2, hg2⟩ : ∃ y, gk = y + 1 := ⟨gk - 1, by omega⟩
          subst hg2
          obtain ⟨G, -, hG, -, -⟩ := HS.out.headTwo (r' := Res.sets bm es.length (es.map (·.1))) (by simp)
          obtain ⟨bl, lc', u, K, hv, hbl, ⟨vw, rfl, -⟩, -, -, hcl⟩ := OwnG.at (x := (s, wd)) hG HE.out
          simp at hv
          obtain ⟨rfl, rfl⟩ := hv
          have f0 := hcl 0 (.int .i64 (s : Int)) rfl
          rw [Nat.add_zero] at f0
          obtain ⟨-, hcs⟩ := HS.out.getBox (b := w.heap.size) (vs := [.int .i64 (N : Int), .int .i64 (q : Int), .slice a n ac]) (by simp)
          have c0 := (hcs.2 0 (.int .i64 (N : Int)) rfl).1
          have c1 := (hcs.2 1 (.int .i64 (q : Int)) rfl).1
          have c2 := (hcs.2 2 (.slice a n ac) rfl).1
          have hS0 : wx.cell? ⟨w.heap.size, 0, none⟩ = some (.int .i64 (N : Int)) ∧ wx.cell? ⟨w.heap.size, 1, none⟩ = some (.int .i64 (q : Int)) ∧ wx.cell? ⟨w.heap.size, 2, none⟩ = some (.slice a n ac) ∧ wx.cell? ⟨bl, k * 2, none⟩ = some (.int .i64 (s : Int)) := ⟨c0, c1, c2, f0⟩
          have hSd : wx.drew.cell? ⟨w.heap.size, 0, none⟩ = some (.int .i64 (N : Int)) ∧ wx.drew.cell? ⟨w.heap.size, 1, none⟩ = some (.int .i64 (q : Int)) ∧ wx.drew.cell? ⟨w.heap.size, 2, none⟩ = some (.slice a n ac) ∧ wx.drew.cell? ⟨bl, k * 2, none⟩ = some (.int .i64 (s : Int)) := hS0
          have m1x := hcs.1
          have HSS := Lib.hid (fun (w' : World) (hb3 : Below wx.heap.size wx w') => (show w'.cell? ⟨w.heap.size, 0, none⟩ = some (.int .i64 (N : Int)) ∧ w'.cell? ⟨w.heap.size, 1, none⟩ = some (.int .i64 (q : Int)) ∧ w'.cell? ⟨w.heap.size, 2, none⟩ = some (.slice a n ac) ∧ w'.cell? ⟨bl, k * 2, none⟩ = some (.int .i64 (s : Int)) from ⟨(hb3.cell (p := ⟨w.heap.size, 0, none⟩) m1x).trans hS0.1, (hb3.cell (p := ⟨w.heap.size, 1, none⟩) m1x).trans hS0.2.1, (hb3.cell (p := ⟨w.heap.size, 2, none⟩) m1x).trans hS0.2.2.1, (hb3.cell (p := ⟨bl, k * 2, none⟩) hbl).trans hS0.2.2.2⟩))
          have hs4' := hs4
          have C1 := Lib.hid (fun w' (hb : Below lo w w') => HSt.out w' hb s hs4' (x : Int))
          have Htl := Lib.hid (Hlt.out s (x : Int))
          have HTx := Lib.hid (show reachE xs N 16 cbShort g (rowE xs s wd g2 (x + 1) (addE es (stepN xs s (x : Int)) (wd ++ [x]))) (k + 1) none = T from HT2.out)
          generalize stepN xs s (x : Int) = t at C1 Htl HTx
          have hkl : (k : Int) < (es.length : Int) := by omega
          have hxN : (x : Int) < (N : Int) := by omega
          have B1 := (Below.refl wx.heap.size wx).drew
          have HA1 := HB.out.trans (B1.mono hzx)
          clear hG hcl hcs f0 c0 c1 c2 HT2 hs4'
          go_wp2
          go_region_held3 (fun w' => w'.cell? ⟨w.heap.size, 0, none⟩ = some (.int .i64 (N : Int)) ∧ w'.cell? ⟨w.heap.size, 1, none⟩ = some (.int .i64 (q : Int)) ∧ w'.cell? ⟨w.heap.size, 2, none⟩ = some (.slice a n ac) ∧ w'.cell? ⟨bl, k * 2, none⟩ = some (.int .i64 (s : Int)))
            (first | with_reducible exact hS1 | with_reducible exact hSd | with_reducible exact hS0 | go_keep)
            ((first
              | (go_at_call 57; (with_reducible refine (C1.out _ HA1).mono ?_); rintro e w8 ⟨rfl, hb2⟩; have hb3 := B1.trans hb2; have hS1 := HSS.out w8 hb3; clear hb2)
              | fail))
          clear hS0 hSd HSS B1 HA1 hS1 m1x C1
          have hz8 := hb3.size
          have HS8 := Lib.hid (HS.out.below hb3 (Nat.le_refl _))
          have HB8 := Lib.hid (HB.out.trans (hb3.mono hzx))
          have hlo8 : lo ≤ w8.heap.size := by omega
          clear HS HB hb3 hbl hzx hz8
          have hl := Hl.out
          have hdt : domS t := by have := Htl.out; unfold domS; omega
          have hlk := HS8.out.swap.setLook t hdt
          by_cases ht0 : t = 0
          · subst ht0
            have HTy := Lib.hid (show reachE xs N 16 cbShort g (rowE xs s wd g2 (x + 1) es) (k + 1) none = T from by have h := HTx.out; rwa [show addE es 0 (wd ++ [x]) = es from by unfold addE; rw [if_pos (Or.inl rfl)]] at h)
            clear HTx hlk hdt
            go_wp2
            go_roundg (N - (x + 1))
            case measure => omega
            case rel => exact ⟨x + 1, es, _, _, rfl, by go_num, by omega, hlt, hlo8, HO, HI, HE, by rw [show N - (x + 1) = g2 by omega]; exact HTy, HS8, HB8⟩
          · have ht1 : 0 < t := by omega
            have ht2 : (0 : Int) < (t : Int) := by omega
            by_cases hm : t ∈ es.map (·.1)
            · rw [decide_eq_true hm] at hlk
              have HTy := Lib.hid (show reachE xs N 16 cbShort g (rowE xs s wd g2 (x + 1) es) (k + 1) none = T from by have h := HTx.out; rwa [show addE es t (wd ++ [x]) = es from by unfold addE; rw [if_pos (Or.inr hm)]] at h)
              clear HTx hm hdt
              go_wp2
              go_roundg (N - (x + 1))
              case measure => omega
              case rel => exact ⟨x + 1, es, _, _, rfl, by go_num, by omega, hlt, hlo8, HO, HI, HE, by rw [show N - (x + 1) = g2 by omega]; exact HTy, HS8, HB8⟩
            · rw [decide_eq_false hm] at hlk
              have eadd : addE es t (wd ++ [x]) = es ++ [(t, wd ++ [x])] := by unfold addE; rw [if_neg (by rw [not_or]; exact ⟨ht0, hm⟩)]
              have HTy := Lib.hid (show reachE xs N 16 cbShort g (rowE xs s wd g2 (x + 1) (es ++ [(t, wd ++ [x])])) (k + 1) none = T from by have h := HTx.out; rwa [eadd] at h)
              have HO2 := Lib.hid (show OkE (es ++ [(t, wd ++ [x])]) from by have h := HO.out.add Htl.out (wd ++ [x]); rwa [eadd] at h)
              have HI2 := Lib.hid (show InvS N (es ++ [(t, wd ++ [x])]) from by have h := addE_capped HI.out.1 (t := t) (w := wd ++ [x]) (by simp; have := Hw16.out; omega); have h' := addE_lets HI.out.2 (t := t) (w := wd ++ [x]) (fun y hy => by rcases List.mem_append.1 hy with hy | hy; exact HI.out.2 _ (List.mem_of_getElem? HE.out) y hy; simp at hy; omega); rw [eadd] at h h'; exact ⟨h, h'⟩)
              have HE2 := Lib.hid (show (es ++ [(t, wd ++ [x])])[k]? = some (s, wd) from by rw [List.getElem?_append_left hlt]; exact HE.out)
              have hwl : wd.length ≤ 4095 := by have h := HI.out.1 _ (List.mem_of_getElem? HE.out); simp at h; omega
              obtain ⟨w9, hr9, hs9, hb9, -⟩ := Sep.setAdd HS8.out.swap hlo8 (by omega) t hdt
              have hz9 := hb9.size
              have hs9' := hs9.swap
              obtain ⟨G, -, hG, -, -⟩ := hs9'.headTwo (r' := Res.sets bm (es.length + 1) (es.map (·.1) ++ [t])) (by simp)
              obtain ⟨bl', lc'', u, K, hv, hbl, ⟨vw, rfl, hW⟩, -, -, hcl⟩ := OwnG.at (x := (s, wd)) hG HE.out
              simp at hv
              obtain ⟨rfl, rfl⟩ := hv
              have f1 := hcl 1 vw rfl
              obtain ⟨va, vc, hvw, _⟩ := (OWord.reads hW).shape
              subst hvw
              have hrd : SlOf (ValR letV) w9 (.slice va (s, wd).2.length vc) wd := OWord.reads hW
              simp only at hrd f1
              obtain ⟨w9a, e9a⟩ : ∃ y, y = w9.alloc (.cells #[] 5) := ⟨_, rfl⟩
              have hb9a : Below w9.heap.size w9 w9a := by rw [e9a]; exact (Below.refl _ _).alloc (Nat.le_refl _) _
              have f1a : w9a.cell? ⟨bl, k * 2 + 1, none⟩ = some (.slice va wd.length vc) := (hb9a.cell (p := ⟨bl, k * 2 + 1, none⟩) hbl).trans f1
              have hn9 := New.empty (e := 5) (R := OValR letV) w9 (Nat.le_refl _)
              rw [← e9a] at hn9
              have hz9a := hb9a.size
              have e9s := e9a.symm
              obtain ⟨v1, w10, hr10, hn10, hb10⟩ := vals_run (P := Tryd.prog) (fun _ => rfl) 22 22 5 (.int .u8 0) 1 Tryd.underlying22 infoB8 rfl hn9 hz9a (SlOf.frame (fun _ _ _ _ h _ => h) _ _ _ _ hrd hb9a) (by simp; omega) (by simp; omega)
              rw [List.nil_append] at hn10
              obtain ⟨va1, vn1, vc1, rfl⟩ := hn10.slice
              have hz10 := hb10.size
              obtain ⟨v2, w11, hr11, hs11, hb11⟩ := Sep.push (P := Tryd.prog) OLet.kept 22 22 (.int .u8 0) 1 Tryd.underlying22 infoB8 rfl (Sep.one (OwnOf.kept OLet.kept).held hn10) (by omega) ((Below.refl _ _).alloc (Nat.le_refl _) (.cells #[letV x] 5)) (q := letV x) (x := x) ⟨[], ⟨rfl, rfl⟩, by simp [Fresh]⟩ (bb := w10.heap.size) (c := 1) (World.cell?_alloc_at _ _ _ 0 rfl) (by omega) (by omega)
              have hn11 := hs11.headNew
              obtain ⟨va2, vn2, vc2, rfl⟩ := hn11.slice
              have hz11 := hb11.size
              obtain ⟨K2, hK2, hK2f⟩ := hn11
              obtain ⟨v3, w12, hr12, hs12, hb12⟩ := Sep.pushC (P := Tryd.prog) (EntR.kept 5) (by omega) 73 73 (.agg #[.int .i64 0, .slice none 0 0]) 32 Tryd.underlying73 infoSt rfl hs9' (by omega) (w1 := w11.alloc (.cells #[.int .i64 (t : Int), .slice va2 vn2 vc2] 72)) ((hb9a.trans (hb10.trans hb11)).alloc (by omega) _) (u := [.int .i64 (t : Int), .slice va2 vn2 vc2]) (y := (t, wd ++ [x])) (K := K2) ⟨_, rfl, (OwnOf.kept OLet.kept).keep _ _ _ _ _ hK2 fun b hb => ((Below.refl w11.heap.size w11).alloc (Nat.le_refl _) _).block b ((OwnOf.kept OLet.kept).lt _ _ _ _ hK2 b hb)⟩ hK2f (bb := w11.heap.size) 1 (fun j y hj => (World.cell?_alloc_at _ _ _ j rfl).trans (by simpa using hj)) (by omega) (by omega)
              obtain ⟨la', lc3, rfl⟩ := (show ∃ a c, v3 = .slice a (es ++ [(t, wd ++ [x])]).length c from by obtain ⟨G3, hG3, _⟩ := hs12.head; exact OwnG.slice hG3)
              have e5 : (es ++ [(t, wd ++ [x])]).length = es.length + 1 := by simp
              have e6 : es.map (·.1) ++ [t] = (es ++ [(t, wd ++ [x])]).map (·.1) := by simp
              rw [e5] at hr12 hs12
              have HS12 := Lib.hid (show Sep lo w12 (Res.ents (.slice la' (es.length + 1) lc3) (es ++ [(t, wd ++ [x])]) :: Res.sets bm (es ++ [(t, wd ++ [x])]).length ((es ++ [(t, wd ++ [x])]).map (·.1)) :: Res.box w.heap.size [.int .i64 (N : Int), .int .i64 (q : Int), .slice a n ac] :: [Res.box c [.string ⟨#[]⟩], Res.box (c + 1) [.bool false]]) from by rw [← e6, e5]; exact hs12)
              have HB12 := Lib.hid (HB8.out.trans (hb9.trans hb12))
              have hz12 := hb12.size
              have hlo12 : lo ≤ w12.heap.size := by omega
              have E5 := Lib.hid e5
              have Hr10 := Lib.hid hr10
              have Hr11 := Lib.hid hr11
              have Hr12 := Lib.hid hr12
              have Hlt2 := Lib.hid (show k < (es ++ [(t, wd ++ [x])]).length from by simp; omega)
              have hu8 : IntKind.u8.wrap (97 + (x : Int)) = 97 + (x : Int) := IntWalk.u8_in _ (by omega)
              have hbl9 : bl < w9.heap.size := hbl
              clear HTx hm hdt eadd HS8 HB8 HO HI hs9 hs9' hb9 hG hW hcl hrd hb9a hn9 e9a hr10 hn10 hb10 hr11 hs11 hb11 hK2 hK2f hr12 hs12 hb12 e5 e6 hbl hz12 HE
              go_wp2_with (first
                | (at_builtin; refine wpl_append_run rfl (.tmp 70) (.tmp 75) 22 rfl rfl rfl Hr10.out ?_)
                | (at_builtin; refine wpl_append_run rfl (.tmp 76) (.tmp 80) 22 rfl rfl rfl Hr11.out ?_)
                | (at_builtin; refine wpl_append_run rfl (.tmp 68) (.tmp 83) 73 rfl rfl rfl Hr12.out ?_)
                | fail)
              go_roundg (N - (x + 1))
              case measure => omega
              case rel => exact ⟨x + 1, es ++ [(t, wd ++ [x])], _, _, by rw [E5.out], by go_num, by omega, Hlt2.out, hlo12, HO2, HI2, HE2, by rw [show N - (x + 1) = g2 by omega]; exact HTy, HS12, HB12⟩
        · have hg : gk = 0 := by omega
          have HTy := Lib.hid (show reachE xs N 16 cbShort g es (k + 1) none = T from by have h := HT2.out; rw [hg] at h; exact h)
          have hxi : ¬ ((x : Int) < (N : Int)) := by omega
          have hl := Hl.out
          clear HT2 HE
          go_wp2
          go_roundg g
          case measure => omega
          case rel => exact ⟨k + 1, es, _, _, rfl, by go_num, by omega, hzx, HO, HI, HTy, HS, HB⟩
    · have HF := Lib.hid (show T = none from by
        rw [← HT.out]
        cases gk with
        | zero => rfl
        | succ g => unfold reachE; rw [List.getElem?_eq_none (by omega)])
      have hki : ¬ ((k : Int) < (es.length : Int)) := by omega
      clear HO HI HT Hl
      go_wp2
      refine bodyPost_end (v := .tuple #[]) (by simp [results, Tryd.results29, go_sem]) rfl ?_
      exact ⟨rfl, by rw [HF.out]; exact HS.out.tail.tail.tail, HB.out⟩
end Go.Proofs.YtcilgihmaaobeaaDoor
end

section
namespace Go.Sd
open Go.RowKit Go.Deep
section
variable {lim : Nat} {P : Program} {ops : Array Oper} {Q : Exit → Act → World → Prop} {md : Region.Mode} {S : World → Prop}
/-- Some operation is left. -/
def RemM (lim : Nat) (listed : Array Bool) : Prop := ∃ k : Nat, k < lim ∧ listed[k]? = some false
/-- Some operation that is left waits for number i. -/
def waitedM (lim : Nat) (md : Region.Mode) (ops : Array Oper) (listed : Array Bool) (i : Nat) : Bool := (List.range ops.size).any fun m => ((listed[m]? == some false) && decide (m < lim)) && (decide (m ≠ i) && (match ops[m]? with | some om => om.after.any (fun e => Region.binds md e && decide (e.on = i)) | none => false))
def wpAnyM (lim : Nat) (P : Program) (md : Region.Mode) (ops : Array Oper) (Q : Exit → Act → World → Prop) (S : World → Prop) : Nat → Array Bool → Act → World → Prop
  | 0, listed, a, w => Region.ready md ops listed = [] ∧ Q .normal a w
  | fuel + 1, listed, a, w =>
    (Region.ready md ops listed = [] → Q .normal a w) ∧
    ∀ i ∈ Region.ready md ops listed, wpOp P ops Q i (fun a' w' => (RemM lim (listed.setIfInBounds i true) → S w') ∧ wpAnyM lim P md ops Q S fuel (listed.setIfInBounds i true) a' w') a w
theorem wpAny_of_M : ∀ (fuel : Nat) (listed : Array Bool) (a : Act) (w : World), wpAnyM lim P md ops Q S fuel listed a w → wpAny P md ops Q fuel listed a w
  | 0, _, _, _, h => h
  | fuel + 1, _, _, _, h => ⟨h.1, fun i hi => wpOp_mono (fun _ _ h' => wpAny_of_M fuel _ _ _ h'.2) (h.2 i hi)⟩
theorem wpAnyM_first {i : Nat} {oi : Oper} {v : Value} (hi : ops[i]? = some oi) (hsel : ∀ (j : Nat) (o : Oper) cs b, ops[j]? = some o → o.op ≠ .select cs b)
    (hQ : ∀ c a w, Q (.panic c) (a.put oi.dst v) w → Q (.panic c) a w) :
    ∀ (fuel : Nat) (listed : Array Bool) (a : Act) (w : World),
      (∀ j oj, ops[j]? = some oj → j ≠ i → listed.getD j true = false → (∀ e ∈ oj.after, Region.binds md e = true → e.on ≠ i) → oi.apart ops oj = true) →
      i ∈ Region.ready md ops listed → (∃ m om, ops[m]? = some om ∧ (m < lim ∧ listed[m]? = some false) ∧ m ≠ i ∧ ∃ e ∈ om.after, Region.binds md e = true ∧ e.on = i) → YieldsIf P ops S oi v a → S w →
      wpAnyM lim P md ops Q S fuel (listed.setIfInBounds i true) (a.put oi.dst v) w → wpAnyM lim P md ops Q S (fuel + 1) listed a w := by
  intro fuel
  induction fuel with
  | zero =>
    intro listed a w _ hr _ hy hS H
    refine ⟨fun h => (by rw [h] at hr; cases hr), fun j hj => ?_⟩
    by_cases e : j = i
    · subst e; exact hy.wpOp hi hS ⟨fun _ => hS, H⟩
    · have h1 := ready_mono hj e
      rw [H.1] at h1
      cases h1
  | succ fuel ih =>
    intro listed a w hfree hr hm hy hS H
    refine ⟨fun h => (by rw [h] at hr; cases hr), fun j hj => ?_⟩
    by_cases e : j = i
    · subst e; exact hy.wpOp hi hS ⟨fun _ => hS, H⟩
    · have hn := H.2 j (ready_mono hj e)
      obtain ⟨hju, oj, hoj, hall⟩ := mem_ready.1 hj
      have hnot : ∀ f ∈ oj.after, Region.binds md f = true → f.on ≠ i := fun f hf hb he => by
        have g1 := hall f hf hb
        have g0 := (mem_ready.1 hr).1
        rw [he] at g1
        by_cases hl : i < listed.size
        · simp [hl] at g0 g1; rw [g0] at g1; cases g1
        · simp [Array.getElem?_eq_none (Nat.le_of_not_lt hl)] at g1
      have hp := wpOp_putIf hoj (hfree j oj hoj e hju hnot) (fun cs b => hsel i oi cs b hi) (fun cs b => hsel j oj cs b hoj) hQ hy hn
      have hir : i ∈ Region.ready md ops (listed.setIfInBounds j true) := ready_mono hr (fun h => e h.symm)
      have hfr : ∀ k ok, ops[k]? = some ok → k ≠ i → (listed.setIfInBounds j true).getD k true = false → (∀ f ∈ ok.after, Region.binds md f = true → f.on ≠ i) → oi.apart ops ok = true := fun k ok hk hki hun hno => by
        refine hfree k ok hk hki ?_ hno
        by_cases hjk : j = k
        · subst hjk; exact hju
        · rw [getD_set_ne true hjk] at hun; exact hun
      refine wpOp_mono (fun a' w' h => ?_) hp
      obtain ⟨m, om, h1, h2, h3, f, hf, hb, he⟩ := hm
      have hjm : j ≠ m := fun h0 => by
        subst h0
        rw [hoj] at h1
        obtain rfl := Option.some.inj h1
        exact hnot f hf hb he
      have hSw : S w' := h.2.1 ⟨m, h2.1, by rw [Array.getElem?_setIfInBounds_ne hjm, Array.getElem?_setIfInBounds_ne (Ne.symm h3)]; exact h2.2⟩
      refine ⟨fun _ => hSw, ih _ a' w' hfr hir ⟨m, om, h1, ⟨h2.1, by rw [Array.getElem?_setIfInBounds_ne hjm]; exact h2.2⟩, h3, f, hf, hb, he⟩ h.1 hSw ?_⟩
      rw [Array.setIfInBounds_comm _ _ e]
      exact h.2.2
theorem waitedM_spec {listed : Array Bool} {i : Nat} (h : waitedM lim md ops listed i = true) : ∃ m om, ops[m]? = some om ∧ (m < lim ∧ listed[m]? = some false) ∧ m ≠ i ∧ ∃ e ∈ om.after, Region.binds md e = true ∧ e.on = i := by
  unfold waitedM at h
  obtain ⟨m, _, h⟩ := List.any_eq_true.1 h
  simp only [Bool.and_eq_true, beq_iff_eq, decide_eq_true_eq] at h
  obtain ⟨h1, h2, h3⟩ := h
  cases hm : ops[m]? with
  | none => rw [hm] at h3; cases h3
  | some om =>
    rw [hm] at h3
    obtain ⟨k, hk, he⟩ := Array.any_eq_true.1 h3
    simp only [Bool.and_eq_true, decide_eq_true_eq] at he
    exact ⟨m, om, hm, ⟨h1.2, h1.1⟩, h2, _, Array.getElem_mem hk, he⟩
theorem wpAnyM_take (i : Nat) {oi : Oper} {v : Value} {fuel : Nat} {listed : Array Bool} {a : Act} {w : World} (hi : ops[i]? = some oi)
    (hs : Region.noSelect ops = true) (hf : Region.free md ops listed i = true) (hr : (Region.ready md ops listed).contains i = true) (hw : waitedM lim md ops listed i = true)
    (hQ : ∀ c a w, Q (.panic c) (a.put oi.dst v) w → Q (.panic c) a w) (hy : YieldsIf P ops S oi v a) (hS : S w)
    (h : wpAnyM lim P md ops Q S fuel (listed.setIfInBounds i true) (a.put oi.dst v) w) : wpAnyM lim P md ops Q S (fuel + 1) listed a w :=
  wpAnyM_first hi (Region.noSelect_spec hs) hQ fuel listed a w (Region.free_spec hi hf) (by simpa using hr) (waitedM_spec hw) hy hS h
/-- One alone may come up. -/
theorem wpAnyM_one (i : Nat) {o : Oper} {fuel : Nat} {listed : Array Bool} {a : Act} {w : World} (hr : Region.ready md ops listed = [i]) (ho : ops[i]? = some o)
    (h : ∀ K' : Act → World → Prop, Shut (∀ a w, (RemM lim (listed.setIfInBounds i true) → S w) → wpAnyM lim P md ops Q S fuel (listed.setIfInBounds i true) a w → K' a w) → if Region.wanted o (yielded ops a.tmps) = true then Oper.wp P o a w K' Q else K' (a.put o.dst undef) w) : wpAnyM lim P md ops Q S (fuel + 1) listed a w :=
  ⟨fun h0 => (by rw [hr] at h0; cases h0), fun j hj => by
    rw [hr] at hj
    obtain rfl := List.mem_singleton.1 hj
    exact wpOp_step ho fun K' hK => h K' fun a w hS hW => hK a w ⟨hS, hW⟩⟩
theorem wpAnyM_done {listed : Array Bool} {a : Act} {w : World} (hr : Region.ready md ops listed = []) (h : Q .normal a w) : ∀ fuel, wpAnyM lim P md ops Q S fuel listed a w
  | 0 => ⟨hr, h⟩
  | _ + 1 => ⟨fun _ => h, by rw [hr]; simp⟩
theorem wp_region_M (lim : Nat) (S : World → Prop) {id : Nat} {a : Act} {w : World} (hm : P.follows .mixedOrders = true) (h : wpAnyM lim P .any ops Q S ops.size (Array.replicate ops.size false) a w.drew) : (Code.region id ops true).wp P Q a w :=
  wp_region_any hm (wpAny_of_M _ _ _ _ h)
/-- All ahead of the place have come up. -/
def allUpM (lim : Nat) (listed : Array Bool) : Bool := (List.range lim).all fun k => listed.getD k true
theorem not_remM {listed : Array Bool} (h : allUpM lim listed = true) : ¬ RemM lim listed := by
  rintro ⟨k, hk, hf⟩
  unfold allUpM at h
  have h1 := List.all_eq_true.1 h k (List.mem_range.2 hk)
  rw [Array.getD_eq_getD_getElem?, hf] at h1
  cases h1
end
end Go.Sd
end
