/-
  Texts of this claim joined: laws for its walks, contracts of the functions that the law reaches.
-/
import Derived.Test.YtcilgihmaaobeaaDoorFnSyncM1
import Derived.Test.YtcilgihmaaobeaaDoorFnSyncM2
import Derived.Test.YtcilgihmaaobeaaDoorRows
import Derived.IntWalk
import Derived.Laws.IdiomStrings
import Derived.Laws.Cover1
import Derived.Maps.OwnSet
set_option linter.unusedVariables false
set_option linter.unusedSimpArgs false
section
namespace Go.Sd
open Go.RowKit Go.Deep
/-- A slice of bytes. -/
abbrev BytR : World → Value → List Int → Prop := SlOf (ValR (Value.int .u8))
theorem BytR.frame : Framed BytR := SlOf.frame fun _ _ _ _ h _ => h
theorem BytR.cellsB {w : World} {v : Value} {xs : List Int} (h : BytR w v xs) : ∃ a c, v = .slice a xs.length c ∧ (0 < xs.length → ∃ b o, a = some ⟨b, o, none⟩ ∧ b < w.heap.size ∧ ∀ i, i < xs.length → w.cell? ⟨b, o + i, none⟩ = some (.int .u8 (xs.getD i 0))) := by
  obtain ⟨a, c, rfl, -, -, hx⟩ := h.shape
  refine ⟨a, c, rfl, fun h0 => ?_⟩
  obtain ⟨b, o, rfl, hb, hc⟩ := hx h0
  refine ⟨b, o, rfl, hb, fun i hi => ?_⟩
  obtain ⟨u, hu, hux⟩ := hc i _ (List.getElem?_eq_getElem hi)
  rw [hu, show u = .int .u8 xs[i] from hux]
  simp [List.getD, hi]
end Go.Sd
namespace Go.Proofs.YtcilgihmaaobeaaDoor
open Go.RowKit Go.Deep Go.Sd
set_option linter.unusedSimpArgs false
theorem i64_and255 (n : Int) : bits .and .i64 n 255 = n % 256 := by
  have h1 : (BitVec.ofInt 64 255).toNat = 2 ^ 8 - 1 := by decide
  have key : (BitVec.ofInt 64 n &&& BitVec.ofInt 64 255).toNat = (n % ((2 ^ 64 : Nat) : Int)).toNat % 2 ^ 8 := by
    rw [BitVec.toNat_and, BitVec.toNat_ofInt, h1, Nat.and_two_pow_sub_one_eq_mod]
  show IntKind.i64.wrap ((BitVec.ofInt 64 n &&& BitVec.ofInt 64 255).toNat : Nat) = n % 256
  rw [key, IntKind.wrap_i64]
  omega
set_option maxHeartbeats 1000000 in
set_option maxRecDepth 100000 in
theorem l1New_c {w : World} {vc : Value} {xs : List Int} (h : BytR w vc xs) :
    Calls Tryd.prog 27 #[vc] w fun e w' => e = .returned (.pointer (some ⟨w.heap.size, 0, none⟩)) ∧ (∃ hh : Int, Sep w.heap.size w' [Res.box w.heap.size [vc, .int .i64 0, .int .i64 hh]]) ∧ Below w.heap.size w w' := by
  have hlen := h.len
  obtain ⟨a, c, rfl, hcell⟩ := h.cellsB
  obtain ⟨n, hn⟩ : ∃ n, n = xs.length := ⟨_, rfl⟩
  rw [← hn] at hcell hlen ⊢
  clear h hn
  obtain ⟨M, hM⟩ : ∃ M, M = min n 4000 := ⟨_, rfl⟩
  have hM1 : M ≤ n := by omega
  have hM2 : M ≤ 4000 := by omega
  have hM3 : M = n ∨ M = 4000 := by omega
  clear hM
  go_enter Tryd.func27, Tryd.ntmps27
  go_wp2
  go_loopg [3, 4] M (fun g v i wr => ∃ (k : Nat) (H : Int), v = .int .i64 H ∧ i = .int .i64 k ∧ k + g = M ∧ wr = w)
  case atStart => exact ⟨0, _, rfl, rfl, by omega, rfl⟩
  case round =>
    obtain ⟨k, H, rfl, rfl, hk, rfl⟩ := hrel
    by_cases hkM : k < M
    · obtain ⟨g, rfl⟩ : ∃ x, gk = x + 1 := ⟨gk - 1, by omega⟩
      have h1 : (k : Int) < (n : Int) := by omega
      have h2 : (k : Int) < 4000 := by omega
      obtain ⟨b, o, rfl, hb, hc⟩ := hcell (by omega)
      have gx := hc k (by omega)
      clear hc hcell
      go_wp2
      go_roundg g
      case measure => omega
      case rel => exact ⟨k + 1, _, rfl, by go_num, by omega, rfl⟩
    · have hend : ¬ ((k : Int) < (n : Int)) ∨ ((k : Int) < (n : Int) ∧ ¬ ((k : Int) < 4000)) := by omega
      have hs := Lib.hid ((Sep.nil wr.heap.size wr).boxNew (Nat.le_refl _) [.slice a n c, .int .i64 0, .int .i64 H] 69)
      have hb := Lib.hid ((Below.refl wr.heap.size wr).alloc (Nat.le_refl _) (.cells #[.slice a n c, .int .i64 0, .int .i64 H] 69))
      clear hcell
      rcases hend with h1 | ⟨h1, h2⟩
      · go_wp2
        go_ret
        exact ⟨rfl, ⟨H, hs.out⟩, hb.out⟩
      · go_wp2
        go_ret
        exact ⟨rfl, ⟨H, hs.out⟩, hb.out⟩
/-- The cursor: its block apart from other own things. -/
def Cur (lo : Nat) (w : World) (cb : Nat) (K : Value) (n : Nat) (rs : List Res) : Prop := ∃ (i : Nat) (h : Int), i ≤ n ∧ Sep lo w (Res.box cb [K, .int .i64 i, .int .i64 h] :: rs)
/-- A call that draws a number. -/
def DrawsN (lo : Nat) (w : World) (cb : Nat) (K : Value) (n : Nat) (rs : List Res) (B : Nat) (e : Ending) (w' : World) : Prop := ∃ x : Nat, e = .returned (.int .i64 x) ∧ x < B ∧ Cur lo w' cb K n rs ∧ Below lo w w' ∧ Off [cb] w w'
set_option maxHeartbeats 1000000 in
set_option maxRecDepth 100000 in
theorem l1Byte_c {lo : Nat} {w : World} {cb : Nat} {K : Value} {xs : List Int} {rs : List Res} (hK : ∀ w', Below lo w w' → BytR w' K xs) (hc : Cur lo w cb K xs.length rs) (hlo : lo ≤ w.heap.size) :
    Calls Tryd.prog 60 #[.pointer (some ⟨cb, 0, none⟩)] w (DrawsN lo w cb K xs.length rs 256) := by
  obtain ⟨i, h, hi, hs⟩ := hc
  have hlen := (hK w (Below.refl _ _)).len
  obtain ⟨hlb, mb, hcb⟩ := hs.headBox
  have c0 := (hcb 0 _ rfl).1
  have c1 := (hcb 1 _ rfl).1
  have c2 := (hcb 2 _ rfl).1
  have f2 := (hcb 2 _ rfl).2
  obtain ⟨a, c, rfl, -⟩ := (hK w (Below.refl _ _)).cellsB
  have HS := Lib.hid hs
  have HK := Lib.hid hK
  clear hs hcb hK
  go_enter Tryd.func60, Tryd.ntmps60
  go_wp2
  obtain ⟨H, hH⟩ : ∃ H : Int, H = wrap64 (wrap64 (h * 6364136223846793005) + 1442695040888963407) := ⟨_, rfl⟩
  rw [← hH]
  clear hH
  have hs1 := HS.out.boxStore hlo (j := 2) rfl (.int .i64 H)
  have hb1 := Lib.hid ((Below.refl lo w).setCell (p := ⟨cb, 2, none⟩) hlb (.int .i64 H))
  have ho1 := Lib.hid (Off.setCell (F := [cb]) (w := w) (p := ⟨cb, 2, none⟩) (by simp) (.int .i64 H))
  obtain ⟨w1, e1⟩ : ∃ x, x = w.setCell ⟨cb, 2, none⟩ (.int .i64 H) := ⟨_, rfl⟩
  rw [← e1] at hs1 hb1 ho1 ⊢
  obtain ⟨-, mb1, hcb⟩ := hs1.headBox
  have g0 : w1.cell? ⟨cb, 0, none⟩ = some (.slice a xs.length c) := (hcb 0 _ rfl).1
  have g1 : w1.cell? ⟨cb, 1, none⟩ = some (.int .i64 i) := (hcb 1 _ rfl).1
  have g2 : w1.cell? ⟨cb, 2, none⟩ = some (.int .i64 H) := (hcb 2 _ rfl).1
  have k1 : w1.frozen? ⟨cb, 1, none⟩ = false := (hcb 1 _ rfl).2
  have HS1 := Lib.hid (show Sep lo w1 (Res.box cb [.slice a xs.length c, .int .i64 i, .int .i64 H] :: rs) from hs1)
  have hlo1 : lo ≤ w1.heap.size := Nat.le_trans hlo hb1.out.size
  have HK1 := Lib.hid (HK.out w1 hb1.out)
  clear hs1 hcb c0 c1 c2 f2 e1 HS mb
  go_quiet (fail)
  go_wp2
  rw [i64_and255]
  generalize bits BinOp.xor IntKind.i64 (H / 8589934592) (H / 35184372088832) = X
  obtain ⟨Y, hY, hY2⟩ : ∃ Y : Nat, X % 256 = (Y : Int) ∧ Y < 256 := ⟨(X % 256).toNat, by omega, by omega⟩
  rw [hY]
  clear hY
  have hlo2 := hlo1
  by_cases hin : i < xs.length
  · have h1 : (i : Int) < (xs.length : Int) := by omega
    obtain ⟨a', c', hv, hcell⟩ := HK1.out.cellsB
    simp only [Value.slice.injEq] at hv
    obtain ⟨rfl, -, rfl⟩ := hv
    obtain ⟨b, o, rfl, hb, hcx⟩ := hcell (by omega)
    have gx := hcx i hin
    generalize xs.getD i 0 = x at gx
    clear hcx hcell
    go_quiet (fail)
    go_wp2
    go_quiet (fail)
    go_wp2
    rw [i64_and255]
    generalize wrap64 ((Y : Int) + wrap64 x) = Z0
    obtain ⟨Z, hZ, hZ2⟩ : ∃ Z : Nat, Z0 % 256 = (Z : Int) ∧ Z < 256 := ⟨(Z0 % 256).toNat, by omega, by omega⟩
    rw [hZ]
    have hd := fun N => below_drewN (Below.refl lo w1) N
    have hst := fun N => (HS1.out.below (below_drewN (Below.refl w1.heap.size w1) N) (Nat.le_refl _)).boxStore (by simpa using hlo1) (j := 1) rfl (.int .i64 ((i : Int) + 1))
    go_ret
    exact ⟨Z, rfl, hZ2, ⟨i + 1, H, by omega, hst _⟩, (hb1.out.trans (hd _)).setCell (p := ⟨cb, 1, none⟩) hlb _, (ho1.out.trans (Off.of_below (below_drewN (Below.refl w1.heap.size w1) _))).trans (Off.setCell (p := ⟨cb, 1, none⟩) (by simp) _)⟩
  · have h1 : ¬ ((i : Int) < (xs.length : Int)) := by omega
    go_quiet (fail)
    go_wp2
    go_ret
    exact ⟨Y, rfl, hY2, ⟨i, H, hi, HS1.out.below (below_drewN (Below.refl w1.heap.size w1) _) (Nat.le_refl _)⟩, hb1.out.trans (below_drewN (Below.refl lo w1) _), ho1.out.trans (Off.of_below (below_drewN (Below.refl w1.heap.size w1) _))⟩
set_option maxHeartbeats 1000000 in
set_option maxRecDepth 100000 in
theorem l1Below_c {lo : Nat} {w : World} {cb : Nat} {K : Value} {xs : List Int} {rs : List Res} {N : Nat} (hK : ∀ w', Below lo w w' → BytR w' K xs) (hc : Cur lo w cb K xs.length rs) (hlo : lo ≤ w.heap.size) (hN : 1 ≤ N) (hN2 : N ≤ 256) :
    Calls Tryd.prog 34 #[.pointer (some ⟨cb, 0, none⟩), .int .i64 N] w (DrawsN lo w cb K xs.length rs N) := by
  have HB := Lib.hid (l1Byte_c hK hc hlo)
  have h0 : ¬ ((N : Int) ≤ 0) := by omega
  have h1 : (N : Int) ≤ 256 := by omega
  have h2 : (0 : Int) < (N : Int) := by omega
  have h3 : ¬ ((N : Int) = 0) := by omega
  clear hK hc
  go_enter Tryd.func34, Tryd.ntmps34
  go_wp2_with fail
  (with_reducible refine HB.out.mono ?_)
  rintro e w1 ⟨x, rfl, hx, hc, hb, ho⟩
  have HO := Lib.hid ho
  clear ho
  have HC := Lib.hid hc
  have HBl := Lib.hid hb
  have hmod : (x : Int) % (N : Int) = ((x % N : Nat) : Int) := by omega
  have hlt : x % N < N := Nat.mod_lt _ (by omega)
  clear hc hb HB
  go_wp2
  go_ret
  exact ⟨x % N, by rw [show ((x % N : Nat) : Int) = (x : Int) % (N : Int) from hmod.symm]; rfl, hlt, HC.out, HBl.out, HO.out⟩
set_option maxHeartbeats 1000000 in
set_option maxRecDepth 100000 in
theorem l1Once_c {lo : Nat} {w : World} {cb : Nat} {K : Value} {xs : List Int} {rs : List Res} {N : Nat} (hK : ∀ w', Below lo w w' → BytR w' K xs) (hc : Cur lo w cb K xs.length rs) (hlo : lo ≤ w.heap.size) (hN : 1 ≤ N) (hN2 : N ≤ 256) :
    Calls Tryd.prog 36 #[.pointer (some ⟨cb, 0, none⟩), .int .i64 N] w fun e w' => ∃ b : Bool, e = .returned (.bool b) ∧ Cur lo w' cb K xs.length rs ∧ Below lo w w' ∧ Off [cb] w w' := by
  have HB := Lib.hid (l1Below_c hK hc hlo hN hN2)
  clear hK hc
  go_enter Tryd.func36, Tryd.ntmps36
  go_wp2_with fail
  (with_reducible refine HB.out.mono ?_)
  rintro e w1 ⟨x, rfl, hx, hc, hb, ho⟩
  have HO := Lib.hid ho
  clear ho
  have HC := Lib.hid hc
  have HBl := Lib.hid hb
  clear hc hb HB
  go_wp2
  go_ret
  exact ⟨_, rfl, HC.out, HBl.out, HO.out⟩
theorem Cur.perm {lo : Nat} {w : World} {cb : Nat} {K : Value} {n : Nat} {rs ss : List Res} (h : Cur lo w cb K n rs) (hp : rs.Perm ss) : Cur lo w cb K n ss := by
  obtain ⟨i, x, hi, hs⟩ := h
  exact ⟨i, x, hi, hs.perm (hp.cons _)⟩
theorem Cur.rest {lo : Nat} {w : World} {cb : Nat} {K : Value} {n : Nat} {r : Res} {rs : List Res} (h : Cur lo w cb K n (r :: rs)) : Cur lo w cb K n rs := by
  obtain ⟨i, x, hi, hs⟩ := h
  exact ⟨i, x, hi, hs.swap.tail⟩
theorem Cur.out {lo : Nat} {w : World} {cb : Nat} {K : Value} {n : Nat} {rs : List Res} (h : Cur lo w cb K n rs) : Sep lo w rs := by
  obtain ⟨i, x, hi, hs⟩ := h
  exact hs.tail
/-- What is made besides. -/
theorem Cur.new {α : Type} {R : OwnRel α} (hR : Held R) {lo : Nat} {w w' : World} {cb : Nat} {K : Value} {n : Nat} {rs : List Res} (h : Cur lo w cb K n rs) (hb : Below w.heap.size w w') (hlo : lo ≤ w.heap.size) {v : Value} {x : α} (hn : New R w.heap.size w' v x) : Cur lo w' cb K n (Res.of R hR v x :: rs) := by
  obtain ⟨i, z, hi, hs⟩ := h
  exact ⟨i, z, hi, (hs.new hR hb hlo hn).swap⟩
theorem Cur.box {lo : Nat} {w : World} {cb : Nat} {K : Value} {n : Nat} {rs : List Res} (h : Cur lo w cb K n rs) (hlo : lo ≤ w.heap.size) (vs : List Value) (ty : TypeId) : Cur lo (w.alloc (.cells vs.toArray ty)) cb K n (Res.box w.heap.size vs :: rs) := by
  obtain ⟨i, z, hi, hs⟩ := h
  exact ⟨i, z, hi, (hs.boxNew hlo vs ty).swap⟩
theorem Cur.below {lo : Nat} {w w' : World} {cb : Nat} {K : Value} {n : Nat} {rs : List Res} (h : Cur lo w cb K n rs) (hb : Below w.heap.size w w') : Cur lo w' cb K n rs := by
  obtain ⟨i, z, hi, hs⟩ := h
  exact ⟨i, z, hi, hs.below hb (Nat.le_refl _)⟩
set_option maxHeartbeats 1000000 in
set_option maxRecDepth 100000 in
theorem l1PickInt_c {lo : Nat} {w : World} {cb bl : Nat} {K : Value} {xs : List Int} {rs : List Res} {ls : List Int} {c : Nat} (hK : ∀ w', Below lo w w' → BytR w' K xs) (hc : Cur lo w cb K xs.length (Res.box bl (ls.map (Value.int .i64)) :: rs)) (hlo : lo ≤ w.heap.size) (hN : 1 ≤ ls.length) (hN2 : ls.length ≤ 256) :
    Calls Tryd.prog 69 #[.pointer (some ⟨cb, 0, none⟩), .slice (some ⟨bl, 0, none⟩) ls.length c] w fun e w' => ∃ x : Int, e = .returned (.int .i64 x) ∧ x ∈ ls ∧ Cur lo w' cb K xs.length (Res.box bl (ls.map (Value.int .i64)) :: rs) ∧ Below lo w w' ∧ Off [cb] w w' := by
  have HB := Lib.hid (l1Below_c hK hc hlo hN hN2)
  obtain ⟨N, hNe⟩ : ∃ N, N = ls.length := ⟨_, rfl⟩
  have HNe := Lib.hid hNe
  rw [← hNe] at HB ⊢
  clear hK hc hN hN2 hNe
  go_enter Tryd.func69, Tryd.ntmps69
  go_wp2_with fail
  (with_reducible refine HB.out.mono ?_)
  rintro e w1 ⟨x, rfl, hx, hc, hb, ho⟩
  have HO := Lib.hid ho
  clear ho
  have hcell := (hc.out.headBox).2.2 x (.int .i64 (ls[x]'(by have := HNe.out; omega))) (by rw [List.getElem?_map, List.getElem?_eq_getElem (by have := HNe.out; omega)]; rfl)
  have g0 := hcell.1
  have Hm := Lib.hid (List.getElem_mem (l := ls) (n := x) (by have := HNe.out; omega))
  generalize ls[x]'(by have := HNe.out; omega) = y at g0 Hm
  have hxi : (x : Int) < (N : Int) := by omega
  have HC := Lib.hid hc
  have HBl := Lib.hid hb
  clear hc hb HB hcell
  go_wp2
  go_ret
  exact ⟨y, rfl, Hm.out, HC.out, HBl.out, HO.out⟩
set_option maxHeartbeats 1000000 in
set_option maxRecDepth 100000 in
theorem l1Pick_c {lo : Nat} {w : World} {cb bl : Nat} {K : Value} {xs : List Int} {rs : List Res} {ls : List ByteArray} {c : Nat} (hK : ∀ w', Below lo w w' → BytR w' K xs) (hc : Cur lo w cb K xs.length (Res.box bl (ls.map Value.string) :: rs)) (hlo : lo ≤ w.heap.size) (hN : 1 ≤ ls.length) (hN2 : ls.length ≤ 256) :
    Calls Tryd.prog 67 #[.pointer (some ⟨cb, 0, none⟩), .slice (some ⟨bl, 0, none⟩) ls.length c] w fun e w' => ∃ x : ByteArray, e = .returned (.string x) ∧ x ∈ ls ∧ Cur lo w' cb K xs.length (Res.box bl (ls.map Value.string) :: rs) ∧ Below lo w w' ∧ Off [cb] w w' := by
  have HB := Lib.hid (l1Below_c hK hc hlo hN hN2)
  obtain ⟨N, hNe⟩ : ∃ N, N = ls.length := ⟨_, rfl⟩
  have HNe := Lib.hid hNe
  rw [← hNe] at HB ⊢
  clear hK hc hN hN2 hNe
  go_enter Tryd.func67, Tryd.ntmps67
  go_wp2_with fail
  (with_reducible refine HB.out.mono ?_)
  rintro e w1 ⟨x, rfl, hx, hc, hb, ho⟩
  have HO := Lib.hid ho
  clear ho
  have hcell := (hc.out.headBox).2.2 x (.string (ls[x]'(by have := HNe.out; omega))) (by rw [List.getElem?_map, List.getElem?_eq_getElem (by have := HNe.out; omega)]; rfl)
  have g0 := hcell.1
  have Hm := Lib.hid (List.getElem_mem (l := ls) (n := x) (by have := HNe.out; omega))
  generalize ls[x]'(by have := HNe.out; omega) = y at g0 Hm
  have hxi : (x : Int) < (N : Int) := by omega
  have HC := Lib.hid hc
  have HBl := Lib.hid hb
  clear hc hb HB hcell
  go_wp2
  go_ret
  exact ⟨y, rfl, Hm.out, HC.out, HBl.out, HO.out⟩
theorem l1Below_i {lo : Nat} {w : World} {cb : Nat} {K : Value} {xs : List Int} {rs : List Res} {z : Int} (hK : ∀ w', Below lo w w' → BytR w' K xs) (hc : Cur lo w cb K xs.length rs) (hlo : lo ≤ w.heap.size) (hN : 1 ≤ z) (hN2 : z ≤ 256) :
    Calls Tryd.prog 34 #[.pointer (some ⟨cb, 0, none⟩), .int .i64 z] w (DrawsN lo w cb K xs.length rs z.toNat) := by
  obtain ⟨N, rfl⟩ := Int.eq_ofNat_of_zero_le (show 0 ≤ z by omega)
  exact l1Below_c hK hc hlo (by omega) (by omega)
theorem l1Once_i {lo : Nat} {w : World} {cb : Nat} {K : Value} {xs : List Int} {rs : List Res} {z : Int} (hK : ∀ w', Below lo w w' → BytR w' K xs) (hc : Cur lo w cb K xs.length rs) (hlo : lo ≤ w.heap.size) (hN : 1 ≤ z) (hN2 : z ≤ 256) :
    Calls Tryd.prog 36 #[.pointer (some ⟨cb, 0, none⟩), .int .i64 z] w fun e w' => ∃ b : Bool, e = .returned (.bool b) ∧ Cur lo w' cb K xs.length rs ∧ Below lo w w' ∧ Off [cb] w w' := by
  obtain ⟨N, rfl⟩ := Int.eq_ofNat_of_zero_le (show 0 ≤ z by omega)
  exact l1Once_c hK hc hlo (by omega) (by omega)
end Go.Proofs.YtcilgihmaaobeaaDoor
end

section
namespace Go.Proofs.YtcilgihmaaobeaaDoor
open Go.RowKit Go.Deep Go.Sd

def letB (k : Int) : List UInt8 → Bool
  | [] => true
  | c :: l => if 97 ≤ c.toNat ∧ (c.toNat : Int) - 97 < k then letB k l else false
def wordM (k : Int) (s : ByteArray) : Bool := decide (1 ≤ k ∧ k ≤ 3) && (decide (s.size ≤ 16) && letB k s.data.toList)
theorem str_len (s : ByteArray) : s.data.toList.length = s.size := by show s.data.toList.length = s.data.size; exact Array.length_toList
theorem str_drop (s : ByteArray) (k : Nat) (h : k < s.size) : s.data.toList.drop k = s[k] :: s.data.toList.drop (k + 1) := by
  have h1 : k < s.data.toList.length := by rw [str_len]; exact h
  rw [List.drop_eq_getElem_cons h1]
  rfl
theorem str_end (s : ByteArray) (k : Nat) (h : ¬ k < s.size) : s.data.toList.drop k = [] := List.drop_eq_nil_of_le (by rw [str_len]; omega)
theorem byte_lt (c : UInt8) : c.toNat < 256 := c.toNat_lt

theorem isLetters_w (k : Int) (w : World) : Calls Tryd.prog 62 #[.int .i64 k] w fun e w' => e = .returned (.bool (decide (1 ≤ k ∧ k ≤ 3))) ∧ w = w' := by
  by_cases h1 : 1 ≤ k
  · by_cases h2 : k ≤ 3
    · have H := Lib.hid (show decide (1 ≤ k ∧ k ≤ 3) = true from decide_eq_true ⟨h1, h2⟩)
      generalize decide (1 ≤ k ∧ k ≤ 3) = T at H ⊢
      go_enter Tryd.func62, Tryd.ntmps62
      go_wp2
      go_ret
      exact ⟨by rw [H.out]; rfl, rfl⟩
    · have H := Lib.hid (show decide (1 ≤ k ∧ k ≤ 3) = false from decide_eq_false (by omega))
      generalize decide (1 ≤ k ∧ k ≤ 3) = T at H ⊢
      go_enter Tryd.func62, Tryd.ntmps62
      go_wp2
      go_ret
      exact ⟨by rw [H.out]; rfl, rfl⟩
  · have H := Lib.hid (show decide (1 ≤ k ∧ k ≤ 3) = false from decide_eq_false (by omega))
    generalize decide (1 ≤ k ∧ k ≤ 3) = T at H ⊢
    go_enter Tryd.func62, Tryd.ntmps62
    go_wp2
    go_ret
    exact ⟨by rw [H.out]; rfl, rfl⟩
set_option maxHeartbeats 1000000 in
theorem areLetters_c (k : Int) (s : ByteArray) (w : World) (hs : s.size ≤ maxLen) :
    Calls Tryd.prog 63 #[.int .i64 k, .string s] w fun e w' => e = .returned (.bool (letB k s.data.toList)) ∧ w = w' := by
  unfold maxLen at hs
  have H0 := Lib.hid (show letB k s.data.toList = letB k (s.data.toList.drop 0) from rfl)
  generalize letB k s.data.toList = T at H0 ⊢
  go_enter Tryd.func63, Tryd.ntmps63
  go_wp2
  go_loopg [8] (s.size) (fun g i wr => ∃ (j : Nat), i = .int .i64 j ∧ j + g = s.size ∧ Hid (T = letB k (s.data.toList.drop j)) ∧ w = wr)
  case atStart => exact ⟨0, rfl, by omega, H0, rfl⟩
  case round =>
    obtain ⟨j, rfl, hj, HK, rfl⟩ := hrel
    by_cases hlt : j < s.size
    · have HK1 := Lib.hid (show T = if 97 ≤ s[j].toNat ∧ (s[j].toNat : Int) - 97 < k then letB k (s.data.toList.drop (j + 1)) else false from by rw [HK.out, str_drop s j hlt]; rfl)
      have hc := byte_lt s[j]
      clear HK H0
      by_cases h1 : 97 ≤ s[j].toNat
      · by_cases h2 : (s[j].toNat : Int) - 97 < k
        · have HK2 := Lib.hid (show T = letB k (s.data.toList.drop (j + 1)) from by rw [HK1.out, if_pos ⟨h1, h2⟩])
          clear HK1
          go_wp2
          go_roundg (s.size - (j + 1))
          case measure => omega
          case rel => exact ⟨j + 1, by go_num, by omega, HK2, rfl⟩
        · have HK2 := Lib.hid (show T = false from by rw [HK1.out, if_neg (fun h => h2 h.2)])
          clear HK1
          go_wp2
          go_ret
          exact ⟨by rw [HK2.out]; rfl, rfl⟩
      · have HK2 := Lib.hid (show T = false from by rw [HK1.out, if_neg (fun h => h1 h.1)])
        clear HK1
        go_wp2
        go_ret
        exact ⟨by rw [HK2.out]; rfl, rfl⟩
    · have HF := Lib.hid (show T = true from by rw [HK.out, str_end s j hlt]; rfl)
      clear HK H0
      go_wp2
      go_ret
      exact ⟨by rw [HF.out]; rfl, rfl⟩
set_option maxHeartbeats 1000000 in
theorem impl_IsWord_c (k : Int) (s : ByteArray) (w : World) (hs : s.size ≤ maxLen) :
    Calls Tryd.prog 43 #[.int .i64 k, .string s] w fun e w' => e = .returned (.bool (wordM k s)) ∧ w = w' := by
  have Ha := Lib.hid (fun w => areLetters_c k s w hs)
  have Hl := Lib.hid (fun w => isLetters_w k w)
  unfold maxLen at hs
  have H0 := Lib.hid (show wordM k s = (decide (1 ≤ k ∧ k ≤ 3) && (decide (s.size ≤ 16) && letB k s.data.toList)) from rfl)
  generalize wordM k s = T at H0 ⊢
  generalize letB k s.data.toList = lb at H0 Ha
  generalize decide (1 ≤ k ∧ k ≤ 3) = kb at H0 Hl
  go_enter Tryd.func43, Tryd.ntmps43
  cases kb with
  | false =>
    go_wp2_with fail
    refine (Hl.out _).mono ?_
    rintro e w' ⟨rfl, rfl⟩
    go_wp2
    go_ret
    exact ⟨by rw [H0.out]; rfl, rfl⟩
  | true =>
    by_cases h16 : s.size ≤ 16
    · have H1 := Lib.hid (show T = lb from by rw [H0.out, decide_eq_true h16]; rfl)
      go_wp2_with fail
      refine (Hl.out _).mono ?_
      rintro e w' ⟨rfl, rfl⟩
      go_wp2_with fail
      refine (Ha.out _).mono ?_
      rintro e w' ⟨rfl, rfl⟩
      go_wp2
      go_ret
      exact ⟨by rw [H1.out]; rfl, rfl⟩
    · have H1 := Lib.hid (show T = false from by rw [H0.out, decide_eq_false h16]; rfl)
      go_wp2_with fail
      refine (Hl.out _).mono ?_
      rintro e w' ⟨rfl, rfl⟩
      go_wp2
      go_ret
      exact ⟨by rw [H1.out]; rfl, rfl⟩
set_option maxHeartbeats 1000000 in
theorem spec_IsWord_c (k : Int) (s : ByteArray) (w : World) (hs : s.size ≤ maxLen) :
    Calls Tryd.prog 24 #[.int .i64 k, .string s] w fun e w' => e = .returned (.bool (wordM k s)) ∧ w = w' := by
  unfold maxLen at hs
  have Hl := Lib.hid (fun w => (show Calls Tryd.prog 41 #[.int .i64 k, .int .i64 1, .int .i64 3] w fun e w' => e = .returned (.bool (decide (1 ≤ k ∧ k ≤ 3))) ∧ w = w' from by rw [Bool.decide_and]; exact l1In_c k 1 3 w))
  have H0 := Lib.hid (show wordM k s = (letB k (s.data.toList.drop 0) && (decide (1 ≤ k ∧ k ≤ 3) && decide (s.size ≤ 16))) from by
    show (decide (1 ≤ k ∧ k ≤ 3) && (decide (s.size ≤ 16) && letB k s.data.toList)) = (letB k s.data.toList && (decide (1 ≤ k ∧ k ≤ 3) && decide (s.size ≤ 16)))
    cases letB k s.data.toList <;> simp)
  generalize wordM k s = T at H0 ⊢
  generalize decide (1 ≤ k ∧ k ≤ 3) = kb at H0 Hl
  go_enter Tryd.func24, Tryd.ntmps24
  go_wp2
  go_loopg [5] (s.size) (fun g i wr => ∃ (j : Nat), i = .int .i64 j ∧ j + g = s.size ∧ Hid (T = (letB k (s.data.toList.drop j) && (kb && decide (s.size ≤ 16)))) ∧ w = wr)
  case atStart => exact ⟨0, rfl, by omega, H0, rfl⟩
  case round =>
    obtain ⟨j, rfl, hj, HK, rfl⟩ := hrel
    by_cases hlt : j < s.size
    · have HK1 := Lib.hid (show T = ((if 97 ≤ s[j].toNat ∧ (s[j].toNat : Int) - 97 < k then letB k (s.data.toList.drop (j + 1)) else false) && (kb && decide (s.size ≤ 16))) from by rw [HK.out, str_drop s j hlt]; rfl)
      have hc := byte_lt s[j]
      clear HK H0
      by_cases h1 : 97 ≤ s[j].toNat
      · by_cases h2 : (s[j].toNat : Int) - 97 < k
        · have HK2 := Lib.hid (show T = (letB k (s.data.toList.drop (j + 1)) && (kb && decide (s.size ≤ 16))) from by rw [HK1.out, if_pos ⟨h1, h2⟩])
          clear HK1
          go_wp2
          go_roundg (s.size - (j + 1))
          case measure => omega
          case rel => exact ⟨j + 1, by go_num, by omega, HK2, rfl⟩
        · have HK2 := Lib.hid (show T = false from by rw [HK1.out, if_neg (fun h => h2 h.2)]; rfl)
          clear HK1
          go_wp2
          go_ret
          exact ⟨by rw [HK2.out]; rfl, rfl⟩
      · have HK2 := Lib.hid (show T = false from by rw [HK1.out, if_neg (fun h => h1 h.1)]; rfl)
        clear HK1
        go_wp2
        go_ret
        exact ⟨by rw [HK2.out]; rfl, rfl⟩
    · have HF := Lib.hid (show T = (kb && decide (s.size ≤ 16)) from by rw [HK.out, str_end s j hlt]; rfl)
      clear HK H0
      cases kb with
      | false =>
        go_wp2_with fail
        refine (Hl.out _).mono ?_
        rintro e w' ⟨rfl, rfl⟩
        go_wp2
        go_ret
        exact ⟨by rw [HF.out]; rfl, rfl⟩
      | true =>
        by_cases h16 : s.size ≤ 16
        · have HG := Lib.hid (show T = true from by rw [HF.out, decide_eq_true h16]; rfl)
          have d16 : decide ((s.size : Int) ≤ 16) = true := decide_eq_true (by omega)
          go_wp2_with fail
          refine (Hl.out _).mono ?_
          rintro e w' ⟨rfl, rfl⟩
          go_wp2
          go_ret
          exact ⟨by rw [HG.out]; rfl, rfl⟩
        · have HG := Lib.hid (show T = false from by rw [HF.out, decide_eq_false h16]; rfl)
          have d16 : decide ((s.size : Int) ≤ 16) = false := decide_eq_false (by omega)
          go_wp2_with fail
          refine (Hl.out _).mono ?_
          rintro e w' ⟨rfl, rfl⟩
          go_wp2
          go_ret
          exact ⟨by rw [HG.out]; rfl, rfl⟩
end Go.Proofs.YtcilgihmaaobeaaDoor
end

section
namespace Go.Proofs.YtcilgihmaaobeaaDoor
open Go.RowKit Go.Deep Go.Sd
set_option linter.unusedSimpArgs false
theorem slVal_kept {α : Type} {f : α → Value} (hf : ∀ x, (f x).oneCell' = true) : Kept (OValR f) := ⟨fun _ _ _ _ _ h _ => h, fun _ _ _ _ h b hb => by rw [h.2] at hb; simp at hb, fun _ _ _ _ h => by rw [h.1]; exact hf _⟩
theorem infoTx : (Tryd.prog.info? 9).map (fun i => (i.zero, i.size, i.bytes)) = some (some (.string ⟨#[]⟩), 1, 16) := by kernel_rfl
abbrev OTxt : OwnRel (List ByteArray) := OwnOf 9 (OValR Value.string)
abbrev TxtR : World → Value → List ByteArray → Prop := SlOf (ValR Value.string)
theorem New.txt {lo : Nat} {w : World} {v : Value} {xs : List ByteArray} (h : New OTxt lo w v xs) : TxtR w v xs := by obtain ⟨F, hF, _⟩ := h; exact OwnOf.reads (fun _ _ _ _ h => h.1) hF
def splitL (s : ByteArray) (c : Nat) : Nat → Nat → Nat → List ByteArray
  | 0, _, _ => []
  | g + 1, f, i => if h : i < s.size then (if s[i].toNat = c then s.extract f i :: splitL s c g (i + 1) (i + 1) else splitL s c g f (i + 1)) else s.extract f i :: splitL s c g (i + 1) (i + 1)
def splitB (s : ByteArray) (c : Nat) : List ByteArray := splitL s c (s.size + 1) 0 0
set_option maxHeartbeats 1000000 in
set_option maxRecDepth 100000 in
theorem SplitByte_c {w : World} {s : ByteArray} {c : Nat} (hs : s.size ≤ 1000) (hc : c < 256) :
    Calls Tryd.prog 90 #[.string s, .int .u8 c] w (Makes OTxt w (splitB s c)) := by
  have H0 := Lib.hid (show ([] : List ByteArray) ++ splitL s c (s.size + 1) 0 0 = splitB s c from rfl)
  generalize splitB s c = R at H0 ⊢
  have HN0 := Lib.hid (New.empty (e := 9) (R := OValR Value.string) w (Nat.le_refl w.heap.size))
  have HB0 := Lib.hid ((Below.refl w.heap.size w).alloc (Nat.le_refl _) (.cells #[] 9))
  go_enter Tryd.func90, Tryd.ntmps90
  go_wp2
  go_loopg [5, 6, 7] (s.size + 1) (fun g v fv iv wr => ∃ (f i : Nat) (L : List ByteArray), fv = .int .i64 f ∧ iv = .int .i64 i ∧ i + g = s.size + 1 ∧ f ≤ i ∧ L.length ≤ i ∧ Hid (L ++ splitL s c g f i = R) ∧ Hid (New OTxt w.heap.size wr v L) ∧ Hid (Below w.heap.size w wr))
  case atStart => exact ⟨0, 0, [], rfl, rfl, by omega, by omega, by simp, H0, HN0, HB0⟩
  case round =>
    clear H0 HN0 HB0
    obtain ⟨f, i, L, rfl, rfl, hi, hf, hL, HR, Hn, Hb⟩ := hrel
    obtain ⟨wk, rfl⟩ : ∃ x, x = wr := ⟨_, rfl⟩
    have hle := Hb.out.size
    obtain ⟨oa, oc, rfl, -⟩ := (New.txt Hn.out).shape
    by_cases hg : 0 < gk
    · obtain ⟨g, hgk⟩ : ∃ g, gk = g + 1 := ⟨gk - 1, by omega⟩
      subst hgk
      have hii : (i : Int) ≤ (s.size : Int) := by omega
      by_cases his : i < s.size
      · have hne : ((i : Int) == (s.size : Int)) = false := by simp; omega
        have hsi : (i : Int) < (s.size : Int) := by omega
        by_cases hcc : s[i].toNat = c
        · have t1 : ((s[i].toNat : Int) == (c : Int)) = true := by simp [hcc]
          have HR2 := Lib.hid (show (L ++ [s.extract f i]) ++ splitL s c g (i + 1) (i + 1) = R from by have h := HR.out; rw [splitL, dif_pos his, if_pos hcc] at h; rw [List.append_assoc]; exact h)
          clear HR hcc
          go_wp2_with (at_builtin; refine wpl_push (w0 := wk) (lo := w.heap.size) (y := s.extract f i) (slVal_kept fun _ => rfl) rfl (.tmp 26) (.tmp 31) 48 rfl 9 (.string ⟨#[]⟩) 16 Tryd.underlying48 infoTx rfl Hn.out hle ((Below.refl _ _).alloc (Nat.le_refl _) _) ⟨[], ⟨rfl, rfl⟩, by simp [Fresh]⟩ (bb := wk.heap.size) (c := 1) (by simp) rfl rfl (by omega) (by omega) ?_; intro v3 w3 hn3 _ _ hb3; have Hn3 := Lib.hid hn3; have Hb3 := Lib.hid hb3; clear hn3 hb3)
          go_roundg g
          case measure => omega
          case rel => exact ⟨i + 1, i + 1, _, by go_num, by go_num, by omega, by omega, by simp; omega, HR2, Hn3, Lib.hid (Hb.out.trans Hb3.out)⟩
        · have t1 : ((s[i].toNat : Int) == (c : Int)) = false := by simp; omega
          have HR2 := Lib.hid (show L ++ splitL s c g f (i + 1) = R from by have h := HR.out; rw [splitL, dif_pos his, if_neg hcc] at h; exact h)
          clear HR hcc
          go_wp2
          go_roundg g
          case measure => omega
          case rel => exact ⟨f, i + 1, L, rfl, by go_num, by omega, by omega, by omega, HR2, Hn, Hb⟩
      · have hie : i = s.size := by omega
        have heq : ((i : Int) == (s.size : Int)) = true := by simp [hie]
        have HR2 := Lib.hid (show (L ++ [s.extract f i]) ++ splitL s c g (i + 1) (i + 1) = R from by have h := HR.out; rw [splitL, dif_neg his] at h; rw [List.append_assoc]; exact h)
        clear HR hie
        go_wp2_with (at_builtin; refine wpl_push (w0 := wk) (lo := w.heap.size) (y := s.extract f i) (slVal_kept fun _ => rfl) rfl (.tmp 26) (.tmp 31) 48 rfl 9 (.string ⟨#[]⟩) 16 Tryd.underlying48 infoTx rfl Hn.out hle ((Below.refl _ _).alloc (Nat.le_refl _) _) ⟨[], ⟨rfl, rfl⟩, by simp [Fresh]⟩ (bb := wk.heap.size) (c := 1) (by simp) rfl rfl (by omega) (by omega) ?_; intro v3 w3 hn3 _ _ hb3; have Hn3 := Lib.hid hn3; have Hb3 := Lib.hid hb3; clear hn3 hb3)
        go_roundg g
        case measure => omega
        case rel => exact ⟨i + 1, i + 1, _, by go_num, by go_num, by omega, by omega, by simp; omega, HR2, Hn3, Lib.hid (Hb.out.trans Hb3.out)⟩
    · obtain rfl : gk = 0 := by omega
      have hii : ¬ ((i : Int) ≤ (s.size : Int)) := by omega
      have HF := Lib.hid (show L = R from by have h := HR.out; rw [splitL, List.append_nil] at h; exact h)
      clear HR
      go_wp2
      go_ret
      exact ⟨_, rfl, by rw [← HF.out]; exact Hn.out, Hb.out⟩
end Go.Proofs.YtcilgihmaaobeaaDoor
end

section
namespace Go.Proofs.YtcilgihmaaobeaaDoor
open Go.RowKit Go.Deep Go.Sd
set_option linter.unusedSimpArgs false
theorem bs_size (a b : ByteArray) : (a ++ b).size = a.size + b.size := by simp
def fmtL : Nat → Nat → ByteArray → ByteArray
  | 0, _, u => u
  | g + 1, m, u => if m = 0 then u else fmtL g (m / 10) ((⟨#[48 + UInt8.ofNat (m % 10)]⟩ : ByteArray) ++ u)
def fmtN (m : Nat) : ByteArray := if m = 0 then ⟨#[48]⟩ else fmtL 18 m ⟨#[]⟩
set_option maxHeartbeats 2000000 in
set_option maxRecDepth 100000 in
theorem FormatInt_c {w : World} {m : Nat} (hm : m < 1000000000000000000) :
    Calls Tryd.prog 100 #[.int .i64 m] w fun e w' => e = .returned (.string (fmtN m)) ∧ Below w.heap.size w w' := by
  by_cases h0 : m = 0
  · subst h0
    have HF := Lib.hid (show fmtN 0 = ⟨#[48]⟩ from rfl)
    go_enter Tryd.func100, Tryd.ntmps100
    go_wp2
    go_ret
    exact ⟨by rw [HF.out]; rfl, Below.refl _ _⟩
  have HF := Lib.hid (show fmtN m = fmtL 18 m ⟨#[]⟩ from by unfold fmtN; rw [if_neg h0])
  generalize fmtN m = T at HF ⊢
  have e0 : ((m : Int) == 0) = false := by simp; omega
  have e1 : ¬ ((m : Int) < 0) := by omega
  have d1 : decide ((m : Int) < 0) = false := decide_eq_false (by omega)
  have HP0 := Lib.hid (show m < 10 ^ 18 from hm)
  have HZ0 := Lib.hid (show (⟨#[]⟩ : ByteArray).size + 18 = 18 from rfl)
  clear h0 hm
  go_enter Tryd.func100, Tryd.ntmps100
  go_wp2
  go_loopg [0, 4, 5] 18 (fun g nv tv rv wr => ∃ (m : Nat) (u : ByteArray), nv = .int .i64 m ∧ tv = .string u ∧ u.size ≤ 18 ∧ Hid (u.size + g = 18) ∧ Hid (m < 10 ^ g) ∧ Hid (T = fmtL g m u) ∧ Hid (Below w.heap.size w wr))
  case atStart => exact ⟨m, ⟨#[]⟩, rfl, rfl, by decide, HZ0, HP0, HF, Lib.hid (Below.refl _ _)⟩
  case round =>
    clear HF HP0 HZ0 e0 e1 d1
    obtain ⟨m, u, rfl, rfl, hu, HZ, HP, HT, HB⟩ := hrel
    obtain ⟨wk, rfl⟩ : ∃ x, x = wr := ⟨_, rfl⟩
    by_cases hz : m = 0
    · have t0 : ((m : Int) != 0) = false := by simp [hz]
      have HF := Lib.hid (show T = u from by rw [HT.out]; cases gk with | zero => rfl | succ g => (unfold fmtL; rw [if_pos hz]))
      clear HT HP HZ hz
      go_wp2
      go_ret
      exact ⟨by rw [HF.out]; rfl, HB.out⟩
    · cases gk with
      | zero => exact absurd HP.out (by simp; omega)
      | succ g =>
        have t0 : ((m : Int) != 0) = true := by simp [hz]
        have HT2 := Lib.hid (show T = fmtL g (m / 10) ((⟨#[48 + UInt8.ofNat (m % 10)]⟩ : ByteArray) ++ u) from by rw [HT.out]; exact if_neg hz)
        have hr : m % 10 < 10 := Nat.mod_lt _ (by omega)
        have hq : m / 10 ≤ m := Nat.div_le_self _ _
        have HP2 := Lib.hid (show m / 10 < 10 ^ g from by have h := HP.out; rw [Nat.pow_succ] at h; omega)
        have hm1 : (m : Int) % 10 = ((m % 10 : Nat) : Int) := by omega
        have hm2 : (m : Int) / 10 = ((m / 10 : Nat) : Int) := by omega
        have hm0' : (0 : Int) ≤ (m : Int) := by omega
        have hmb : m < 1000000000000000000 := by
          have h := HP.out
          have hz := HZ.out
          have h2 : 10 ^ (g + 1) ≤ 10 ^ 18 := Nat.pow_le_pow_right (by decide) (by omega)
          omega
        generalize m % 10 = r at HT2 hr hm1
        generalize m / 10 = q at HT2 hq HP2 hm2
        have hu8 : IntKind.u8.wrap (48 + (r : Int)) = 48 + (r : Int) := IntWalk.u8_in _ (by omega)
        have hcv : (convert 22 9 (.slice (some ⟨wk.heap.size, 0, none⟩) 1 1)).run Tryd.prog (wk.alloc (.cells #[.int .u8 (48 + (r : Int))] 5)) = .ok (.string ⟨#[48 + UInt8.ofNat r]⟩) (wk.alloc (.cells #[.int .u8 (48 + (r : Int))] 5)) := by
          have h := run_convert_bytes_back (P := Tryd.prog) (wk.alloc (.cells #[.int .u8 (48 + (r : Int))] 5)) 22 9 5 ⟨wk.heap.size, 0, none⟩ 1 [48 + UInt8.ofNat r] Tryd.underlying22 Tryd.underlying5 Tryd.underlying9 (fun j hj => by
            have hj0 : j = 0 := by simpa using hj
            subst hj0
            have e4 : (48 + UInt8.ofNat r).toNat = 48 + r := by simp; omega
            have e2 : (⟨wk.heap.size, 0, none⟩ : Addr).add 0 = ⟨wk.heap.size, 0, none⟩ := by unfold Addr.add; split <;> simp_all
            rw [e2, World.cell?_alloc_at _ _ _ 0 rfl]
            simp only [List.getElem_cons_zero, e4]
            rfl)
          exact h
        have hs1 : (⟨#[48 + UInt8.ofNat r]⟩ : ByteArray).size = 1 := rfl
        have hsz : ¬ (9223372036854775807 < 1 + u.size) := by omega
        have hwq : IntKind.i64.wrap (q : Int) = (q : Int) := IntWalk.i64_in _ (by omega)
        have hwr : IntKind.i64.wrap (r : Int) = (r : Int) := IntWalk.i64_in _ (by omega)
        have hr0 : ¬ ((r : Int) < 0) := by omega
        have dr : decide ((r : Int) < 0) = false := decide_eq_false (by omega)
        have hw48 : IntKind.i64.wrap (48 + (r : Int)) = 48 + (r : Int) := IntWalk.i64_in _ (by omega)
        have hsz2 := Lib.hid (show ((⟨#[48 + UInt8.ofNat r]⟩ : ByteArray) ++ u).size + g = 18 from by have := HZ.out; rw [bs_size, hs1]; omega)
        have hz1 := HB.out.size
        have HB2 := Lib.hid (HB.out.alloc hz1 (.cells #[.int .u8 (48 + (r : Int))] 5))
        obtain ⟨u2, hu2⟩ : ∃ x, x = (⟨#[48 + UInt8.ofNat r]⟩ : ByteArray) ++ u := ⟨_, rfl⟩
        rw [← hu2] at HT2 hsz2
        have hu2s := hu2.symm
        have hu2z : u2.size ≤ 18 := by have := hsz2.out; omega
        clear HT HP HB hu2 hmb hz HZ
        go_wp2
        go_roundg g
        case measure => omega
        case rel => exact ⟨q, u2, rfl, rfl, hu2z, hsz2, HP2, HT2, HB2⟩
end Go.Proofs.YtcilgihmaaobeaaDoor
end

section
namespace Go.Proofs.YtcilgihmaaobeaaDoor
open Go.RowKit Go.Deep Go.Sd
set_option linter.unusedSimpArgs false
theorem fmtN_dig : ∀ d, d ≤ 9 → fmtN d = ⟨#[UInt8.ofNat (48 + d)]⟩ := by decide
theorem dig_size {d : Nat} (h : d ≤ 9) : (fmtN d).size = 1 := by rw [fmtN_dig d h]; rfl
theorem dig_at {d : Nat} (h : d ≤ 9) (h0 : 0 < (fmtN d).size) : (fmtN d)[0].toNat = 48 + d := by
  have key : ∀ (s : ByteArray) (h0 : 0 < s.size), s = ⟨#[UInt8.ofNat (48 + d)]⟩ → s[0].toNat = 48 + d := by
    rintro s h0 rfl
    show (UInt8.ofNat (48 + d)).toNat = 48 + d
    simp
    omega
  exact key _ h0 (fmtN_dig d h)
set_option maxHeartbeats 2000000 in
set_option maxRecDepth 100000 in
theorem l1Read_one {w : World} {d : Nat} {s : ByteArray} (h9 : d ≤ 9) (hz : s.size = 1) (hb : ∀ h : 0 < s.size, s[0].toNat = 48 + d) (hf : fmtN d = s) :
    Calls Tryd.prog 96 #[.string s, .int .i64 12] w fun e w' => e = .returned (.tuple #[.int .i64 d, .bool true]) ∧ Below w.heap.size w w' := by
  have HFm := Lib.hid (fun w1 => FormatInt_c (w := w1) (m := d) (by omega))
  rw [hf] at HFm
  have h0 : 0 < s.size := by omega
  have hb1 := hb h0
  have hb45 : ((48 + (d : Int)) == 45) = false := by simp; omega
  have dlt : decide (48 + (d : Int) < 48) = false := decide_eq_false (by omega)
  have dgt : decide ((57 : Int) < 48 + (d : Int)) = false := decide_eq_false (by omega)
  clear hf hb
  go_enter Tryd.func96, Tryd.ntmps96
  go_wp2
  go_loopg [8, 9] 1 (fun g nv iv wr => ((g = 1 ∧ nv = .int .i64 0 ∧ iv = .int .i64 0) ∨ (g = 0 ∧ nv = .int .i64 d ∧ iv = .int .i64 1)) ∧ wr = w)
  case atStart => exact ⟨Or.inl ⟨rfl, rfl, rfl⟩, rfl⟩
  case round =>
    obtain ⟨h | h, rfl⟩ := hrel
    · obtain ⟨rfl, rfl, rfl⟩ := h
      go_wp2
      go_roundg 0
      case measure => omega
      case rel => exact ⟨Or.inr ⟨rfl, by go_num, by go_num⟩, rfl⟩
    · obtain ⟨rfl, rfl, rfl⟩ := h
      go_wp2_with fail
      (with_reducible refine (HFm.out _).mono ?_)
      rintro e w2 ⟨rfl, hb2⟩
      have HB := Lib.hid hb2
      clear hb2 HFm
      go_wp2
      go_ret2
      exact ⟨rfl, HB.out⟩
theorem ParseInt_dig {w : World} {d : Nat} (h9 : d ≤ 9) :
    Calls Tryd.prog 91 #[.string (fmtN d)] w fun e w' => e = .returned (.tuple #[.int .i64 d, .bool true]) ∧ Below w.heap.size w w' := by
  have H := Lib.hid (l1Read_one (w := w) h9 (dig_size h9) (dig_at h9) rfl)
  generalize fmtN d = s at *
  go_enter Tryd.func91, Tryd.ntmps91
  go_wp2_with fail
  (with_reducible refine H.out.mono ?_)
  rintro e w2 ⟨rfl, hb2⟩
  have HB := Lib.hid hb2
  clear hb2 H
  go_wp2
  go_ret2
  exact ⟨rfl, HB.out⟩
def intsN (l : List Nat) : List Int := l.map Int.ofNat
def tabN' (m : List (List Nat)) : List (List Int) := m.map intsN
/-- The text is that of a matrix of numbers of one digit. -/
def Texts (t : ByteArray) (m : List (List Nat)) : Prop := t.size ≤ 100 ∧ (splitB t 47).map (fun r => splitB r 44) = m.map (fun l => l.map fmtN) ∧ (∀ r, r ∈ splitB t 47 → r.size ≤ 100) ∧ (∀ l, l ∈ m → l.length ≤ 9 ∧ ∀ x, x ∈ l → x ≤ 9) ∧ m.length ≤ 9 ∧ isMat (tabN' m) = true
end Go.Proofs.YtcilgihmaaobeaaDoor
end

section
namespace Go.Proofs.YtcilgihmaaobeaaDoor
open Go.RowKit Go.Deep Go.Sd
set_option linter.unusedSimpArgs false
set_option maxHeartbeats 1000000 in
set_option maxRecDepth 100000 in
theorem l1PickP_c {lo : Nat} {w : World} {cb bl : Nat} {K : Value} {xs : List Int} {rs : List Res} {ls : List ByteArray} {N c : Nat} (hK : ∀ w', Below lo w w' → BytR w' K xs) (hc : Cur lo w cb K xs.length (Res.box bl (ls.map Value.string) :: rs)) (hlo : lo ≤ w.heap.size) (hN : 1 ≤ N) (hNl : N ≤ ls.length) (hN2 : ls.length ≤ 256) :
    Calls Tryd.prog 67 #[.pointer (some ⟨cb, 0, none⟩), .slice (some ⟨bl, 0, none⟩) N c] w fun e w' => ∃ x : ByteArray, e = .returned (.string x) ∧ x ∈ ls ∧ Cur lo w' cb K xs.length (Res.box bl (ls.map Value.string) :: rs) ∧ Below lo w w' ∧ Off [cb] w w' := by
  have HB := Lib.hid (l1Below_c (N := N) hK hc hlo hN (by omega))
  have HNe := Lib.hid hNl
  have hN3 : N ≤ 256 := by omega
  clear hK hc hNl hN2
  go_enter Tryd.func67, Tryd.ntmps67
  go_wp2_with fail
  (with_reducible refine HB.out.mono ?_)
  rintro e w1 ⟨x, rfl, hx, hc, hb, ho⟩
  have HO := Lib.hid ho
  clear ho
  have hcell := (hc.out.headBox).2.2 x (.string (ls[x]'(by have := HNe.out; omega))) (by rw [List.getElem?_map, List.getElem?_eq_getElem (by have := HNe.out; omega)]; rfl)
  have g0 := hcell.1
  have Hm := Lib.hid (List.getElem_mem (l := ls) (n := x) (by have := HNe.out; omega))
  generalize ls[x]'(by have := HNe.out; omega) = y at g0 Hm
  have hxi : (x : Int) < (N : Int) := by omega
  have HC := Lib.hid hc
  have HBl := Lib.hid hb
  clear hc hb HB hcell
  go_wp2
  go_ret
  exact ⟨y, rfl, Hm.out, HC.out, HBl.out, HO.out⟩
/-- The three letters. -/
def abc3 : List ByteArray := [⟨#[97]⟩, ⟨#[98]⟩, ⟨#[99]⟩]
theorem abc3_size {x : ByteArray} (h : x ∈ abc3) : x.size = 1 := by
  simp only [abc3, List.mem_cons, List.not_mem_nil, or_false] at h
  rcases h with rfl | rfl | rfl <;> rfl
set_option maxHeartbeats 1000000 in
set_option maxRecDepth 100000 in
theorem l2Draw_c {lo : Nat} {w : World} {cb : Nat} {K : Value} {xs : List Int} {rs : List Res} {kk most : Nat} (hK : ∀ w', Below lo w w' → BytR w' K xs) (hc : Cur lo w cb K xs.length rs) (hlo : lo ≤ w.heap.size) (h1 : 1 ≤ kk) (h3 : kk ≤ 3) (hm : most ≤ 20) :
    Calls Tryd.prog 52 #[.pointer (some ⟨cb, 0, none⟩), .int .i64 kk, .int .i64 most] w fun e w' => ∃ s : ByteArray, e = .returned (.string s) ∧ s.size ≤ most ∧ Cur lo w' cb K xs.length rs ∧ Below lo w w' ∧ Off [cb] w w' := by
  have HK := Lib.hid hK
  have HB := Lib.hid (show Calls Tryd.prog 34 #[.pointer (some ⟨cb, 0, none⟩), .int .i64 ((most : Int) + 1)] w _ from l1Below_c (N := most + 1) hK hc hlo (by omega) (by omega))
  clear hK hc
  go_enter Tryd.func52, Tryd.ntmps52
  go_wp2_with fail
  (with_reducible refine HB.out.mono ?_)
  rintro e w1 ⟨x, rfl, hx, hc, hb, ho⟩
  have HC1 := Lib.hid hc
  have HB1 := Lib.hid hb
  have HO1 := Lib.hid ho
  have HX := Lib.hid (show (⟨#[]⟩ : ByteArray).size + x ≤ most from by have : (⟨#[]⟩ : ByteArray).size = 0 := rfl; omega)
  have hx2 : x ≤ 20 := by omega
  clear hc hb ho HB hx
  go_wp2
  go_loopg [7, 8] x (fun g sv nv wr => ∃ (u : ByteArray), sv = .string u ∧ nv = .int .i64 (g : Nat) ∧ g ≤ 20 ∧ Hid (u.size + g ≤ most) ∧ Hid (Cur lo wr cb K xs.length rs) ∧ Hid (Below lo w wr) ∧ Hid (Off [cb] w wr))
  case atStart => exact ⟨⟨#[]⟩, rfl, rfl, hx2, HX, HC1, HB1, HO1⟩
  case round =>
    clear HX HC1 HB1 HO1 hx2
    obtain ⟨u, rfl, rfl, hg, HU, HC, HB, HO⟩ := hrel
    obtain ⟨wk, rfl⟩ : ∃ x, x = wr := ⟨_, rfl⟩
    cases gk with
    | zero =>
      go_wp2
      go_ret
      exact ⟨u, rfl, by have := HU.out; omega, HC.out, HB.out, HO.out⟩
    | succ g =>
      have hg0 : (0 : Int) < ((g + 1 : Nat) : Int) := by omega
      have hzk : lo ≤ wk.heap.size := Nat.le_trans hlo HB.out.size
      have hus : u.size ≤ 20 := by have := HU.out; omega
      have hcx := Lib.hid (HC.out.box hzk (abc3.map Value.string) 9)
      obtain ⟨w2, e2⟩ : ∃ x, x = wk.alloc (.cells #[.string ⟨#[97]⟩, .string ⟨#[98]⟩, .string ⟨#[99]⟩] 9) := ⟨_, rfl⟩
      have HC2 := Lib.hid (show Cur lo w2 cb K xs.length (Res.box wk.heap.size (abc3.map Value.string) :: rs) from by rw [e2]; exact hcx.out)
      have hb2 : Below wk.heap.size wk w2 := by rw [e2]; exact (Below.refl _ _).alloc (Nat.le_refl _) _
      have HB2 := Lib.hid (HB.out.trans (hb2.mono hzk))
      have HO2 := Lib.hid (HO.out.trans (Off.of_below hb2))
      have hz2 : lo ≤ w2.heap.size := Nat.le_trans hzk hb2.size
      have HP := Lib.hid (l1PickP_c (N := kk) (c := 3) (ls := abc3) (fun w' hb => HK.out w' (HB2.out.trans hb)) HC2.out hz2 h1 h3 (by decide))
      have e2s := e2.symm
      have hk3 : (kk : Int) ≤ 3 := by omega
      have hk0 : (0 : Int) ≤ (kk : Int) := by omega
      clear hcx hb2 e2 HC
      go_wp2_with fail
      (with_reducible refine HP.out.mono ?_)
      rintro e w3 ⟨y, rfl, hy, hc, hb, ho⟩
      have hys := abc3_size hy
      have HC3 := Lib.hid hc.rest
      have HB3 := Lib.hid (HB2.out.trans hb)
      have HO3 := Lib.hid (HO2.out.trans ho)
      have HU3 := Lib.hid (show (u ++ y).size + g ≤ most from by have := HU.out; rw [bs_size, hys]; omega)
      have hy1 : y.size ≤ 1 := by omega
      clear hy hys hc hb ho e2s HP HC2 HO2 HU HB HO HB2
      go_wp2
      go_roundg g
      case measure => omega
      case rel => exact ⟨u ++ y, rfl, by go_num, by omega, HU3, HC3, HB3, HO3⟩
end Go.Proofs.YtcilgihmaaobeaaDoor
end

section
namespace Go.Sd
open Go.RowKit Go.Deep Go.Maps

/-- How keys of type k are written and read, and elements of type e. -/
structure MapK (P : Program) (k e : TypeId) {κ β : Type} (dom : κ → Prop) (kv : κ → Value) (kf : κ → Lit) (ev : β → Value) (ed : β → DataW Unit) : Prop where
  law : Keyed P k
  key : ∀ x, dom x → keyOf P k (kv x) = some (kf x)
  inj : ∀ x y, dom x → dom y → kf x = kf y → x = y
  val : ∀ y, plainElem (H := Unit) P e (ev y) = some (ed y, [])
  inv : ∀ y v ps, plainElem (H := Unit) P e v = some (ed y, ps) → v = ev y
  lit : ∀ x, dom x → WideAt.IsKeyLit (kf x)

/-- Block b is a map of at most n entries that holds g. -/
def MapAt (P : Program) (k e : TypeId) {κ β : Type} (dom : κ → Prop) (kf : κ → Lit) (ed : β → DataW Unit) (w : World) (b n : Nat) (g : κ → Option β) : Prop :=
  ∃ D, w.ownsMap P k (plainElem (H := Unit) P e) b n D ∧ ∀ x, dom x → match g x with
    | none => Maps.has D (kf x) = false
    | some y => Maps.has D (kf x) = true ∧ ∀ z, D.atKey (kf x) z = ed y

section
variable {P : Program} {k e : TypeId} {κ β : Type} {dom : κ → Prop} {kv : κ → Value} {kf : κ → Lit} {ev : β → Value} {ed : β → DataW Unit}

def Res.map (P : Program) (k e : TypeId) {κ β : Type} (dom : κ → Prop) (kf : κ → Lit) (ed : β → DataW Unit) (b n : Nat) (g : κ → Option β) : Res :=
  ⟨fun w F => F = [b] ∧ MapAt P k e dom kf ed w b n g,
   fun w w' F h hk => by
    obtain ⟨rfl, D, ⟨es, clock, hb, r⟩, hg⟩ := h
    exact ⟨rfl, D, ⟨es, clock, (hk b (by simp)).trans hb, r⟩, hg⟩,
   fun w F h c hc => by
    obtain ⟨rfl, D, ho, _⟩ := h
    simp at hc
    subst hc
    exact ho.lt⟩

theorem Sep.mapNew {lo : Nat} {w : World} {rs : List Res} (h : Sep lo w rs) (hlo : lo ≤ w.heap.size) (P : Program) (k e : TypeId) {κ β : Type} (dom : κ → Prop) (kf : κ → Lit) (ed : β → DataW Unit) :
    Sep lo (w.alloc (.map #[] 0)) (Res.map P k e dom kf ed w.heap.size 0 (fun _ => none) :: rs) :=
  h.cons ((Below.refl _ _).alloc (Nat.le_refl _) _) hlo (r := Res.map P k e dom kf ed w.heap.size 0 (fun _ => none)) (G := [w.heap.size]) ⟨rfl, .map [], World.ownsMap_made _ _ _ _, fun _ _ => rfl⟩ (by simp [Fresh])

theorem Sep.mapLook (M : MapK P k e dom kv kf ev ed) {lo : Nat} {w : World} {rs : List Res} {b n : Nat} {g : κ → Option β} (h : Sep lo w (Res.map P k e dom kf ed b n g :: rs)) {t : TypeId} (ht : P.underlying t = some (.map k e)) {z : Value} (hz : (zeroValue e).run P w = .ok z w) {zd : DataW Unit} (hzd : plainElem P e z = some (zd, [])) (hzi : ∀ v ps, plainElem (H := Unit) P e v = some (zd, ps) → v = z) (x : κ) (hx : dom x) :
    (Instr.lookup t (.map (some b)) (kv x) false).run P w = .ok (match g x with | some y => ev y | none => z) w := by
  obtain ⟨G, ⟨rfl, D, ho, hg⟩, _⟩ := h.head
  obtain ⟨v, ps, hr, hv⟩ := ho.lookup M.law ht hz hzd (M.key x hx)
  have h1 := hg x hx
  rw [hr]
  cases hgx : g x with
  | none =>
    rw [hgx] at h1
    rw [Maps.atKey_of_not_has h1] at hv
    rw [hzi v ps hv]
  | some y =>
    rw [hgx] at h1
    rw [h1.2 zd] at hv
    rw [M.inv y v ps hv]
open Classical in
theorem Sep.mapStore (M : MapK P k e dom kv kf ev ed) {lo : Nat} {w : World} {rs : List Res} {b n : Nat} {g : κ → Option β} (h : Sep lo w (Res.map P k e dom kf ed b n g :: rs)) (hlo : lo ≤ w.heap.size) {t : TypeId} (ht : P.underlying t = some (.map k e)) (hn : n < maxLen) (x : κ) (hx : dom x) (y : β) :
    ∃ w', (Instr.mapUpdate t (.map (some b)) (kv x) (ev y)).run P w = .ok () w' ∧ Sep lo w' (Res.map P k e dom kf ed b (n + 1) (fun x' => if x' = x then some y else g x') :: rs) ∧ Below lo w w' ∧ ∀ p : Addr, p.block < w.heap.size → p.block ≠ b → w'.cell? p = w.cell? p := by
  obtain ⟨G, ⟨rfl, D, ho, hg⟩, hf, hK⟩ := h.head
  obtain ⟨w', hr, ho', hgr⟩ := ho.update M.law ht hn (M.key x hx) (M.val y)
  have hD := ho.isMap
  refine ⟨w', hr, hK w' (Res.map P k e dom kf ed b (n + 1) (fun x' => if x' = x then some y else g x')) [b] ⟨rfl, _, ho', fun x' hx' => ?_⟩ (by simp) (fun _ h => Or.inl h) hlo fun c hlt hc => hgr.block c hlt fun e2 => hc (by cases e2; simp), (Below.refl lo w).grown hgr hlo fun c hc => hf.2 c (by cases hc; simp), fun p hp hpb => by simp only [World.cell?, hgr.block p.block hp fun e2 => hpb (by cases e2; rfl)]⟩
  by_cases e : x' = x
  · subst e
    simp only [if_true]
    exact ⟨Maps.has_put_same hD (M.lit x' hx') _, fun z => Maps.atKey_put_same hD (M.lit x' hx') _ z⟩
  · simp only [e, if_false]
    have hne : kf x' ≠ kf x := fun e2 => e (M.inj x' x hx' hx e2)
    have h1 := hg x' hx'
    cases hgx : g x' with
    | none =>
      rw [hgx] at h1
      simp only [Maps.has_put_other hne]
      exact h1
    | some y' =>
      rw [hgx] at h1
      simp only [Maps.has_put_other hne, Maps.atKey_put_other hne]
      exact h1
end
section
variable {P : Program} {w : World} {ops : Array Oper} {rest : List Oper} {o : Oper} {a : Act} {Q : Exit → Act → World → Prop}
end
/-- Sets of states, told by numbers, as keys; bools. -/
def domS (s : Nat) : Prop := s < 9223372036854775808
theorem wf_i64 {s : Nat} (h : domS s) : (Lit.int .i64 (s : Int)).wf = true := WalkArith.wf_i64 (by unfold domS at h; omega)
theorem boolElem_inv {P : Program} {e : TypeId} (he : P.underlying e = some .bool) {y : Bool} {v : Value} {ps : List MemPlace} (h : plainElem (H := Unit) P e v = some (.lit (.bool y), ps)) : v = .bool y := by
  unfold plainElem at h
  rw [he] at h
  cases v <;> simp at h
  rw [h.1]
theorem mapK_bool {P : Program} {k e : TypeId} (hk : P.underlying k = some (.int .i64)) (he : P.underlying e = some .bool) : MapK P k e domS (fun s : Nat => .int .i64 (s : Int)) (fun s => .int .i64 (s : Int)) (fun y : Bool => .bool y) (fun y => .lit (.bool y)) where
  law := int_keyed hk
  key := fun x hx => keyOf_int_mk hk (wf_i64 hx)
  inj := fun x y _ _ h => by simp at h; omega
  val := fun y => plainElem_bool he y
  inv := fun y v ps h => by
    unfold plainElem at h
    rw [he] at h
    cases v <;> simp at h
    rw [h.1]
  lit := fun x _ => by simp [WideAt.IsKeyLit]
end Go.Sd
end

section
namespace Go.Sd
open Go.RowKit Go.Deep

abbrev OwnCells (α : Type) := World → List Value → α → List Nat → Prop
structure KeptC {α : Type} (sz : Nat) (R : OwnCells α) : Prop where
  keep : ∀ w w' u x F, R w u x F → (∀ b, b ∈ F → w'.heap[b]? = w.heap[b]?) → R w' u x F
  lt : ∀ w u x F, R w u x F → ∀ b, b ∈ F → b < w.heap.size
  one : ∀ w u x F, R w u x F → ∀ y, y ∈ u → y.oneCell' = true
  len : ∀ w u x F, R w u x F → u.length = sz
def OwnG {α : Type} (e : TypeId) (sz : Nat) (R : OwnCells α) : OwnRel (List α) := fun w v xs F =>
  ∃ (us : List (List Value)) (Fs : List (List Nat)), w.ownsRow 0 e sz v xs.length us.flatten ∧ us.length = xs.length ∧ Fs.length = xs.length ∧ (∀ u, u ∈ us → u.length = sz) ∧
    (∀ (i : Nat) (u : List Value) (x : α) (G : List Nat), us[i]? = some u → xs[i]? = some x → Fs[i]? = some G → R w u x G) ∧ F = v.ownBlock.toList ++ Fs.flatten
theorem flatten_at {sz : Nat} : ∀ {us : List (List Value)}, (∀ u, u ∈ us → u.length = sz) → ∀ {i j : Nat} {u : List Value} {y : Value}, us[i]? = some u → u[j]? = some y → us.flatten[i * sz + j]? = some y
  | [], _, i, j, u, y, h, _ => by simp at h
  | a :: us, hl, 0, j, u, y, h, hy => by
    simp at h
    subst h
    have hj := (List.getElem?_eq_some_iff.1 hy).1
    rw [List.flatten_cons, Nat.zero_mul, Nat.zero_add, List.getElem?_append_left hj]
    exact hy
  | a :: us, hl, i + 1, j, u, y, h, hy => by
    have h2 : us[i]? = some u := by simpa using h
    have ih := flatten_at (fun u hu => hl u (List.mem_cons_of_mem _ hu)) h2 hy
    have ha : a.length = sz := hl a (by simp)
    have e : (i + 1) * sz + j = a.length + (i * sz + j) := by rw [ha, Nat.add_mul]; omega
    rw [List.flatten_cons, e, List.getElem?_append_right (by omega), Nat.add_sub_cancel_left]
    exact ih
section
variable {α : Type} {e : TypeId} {sz : Nat} {R : OwnCells α}
theorem OwnG.held (hR : KeptC sz R) : Held (OwnG e sz R) := by
  refine ⟨?_, ?_⟩
  · rintro w w' v xs F ⟨us, Fs, ho, hl, hf, hs, hr, rfl⟩ hk
    refine ⟨us, Fs, ownsRow_keep ho fun b hb => hk b (by simp [hb]), hl, hf, hs, fun i u x G hu hx hG => hR.keep _ _ _ _ _ (hr i u x G hu hx hG) fun b hb => hk b ?_, rfl⟩
    exact List.mem_append_right _ (List.mem_flatten_of_mem (List.mem_of_getElem? hG) hb)
  · rintro w v xs F ⟨us, Fs, ho, hl, hf, hs, hr, rfl⟩ b hb
    rcases List.mem_append.1 hb with hb | hb
    · simp at hb
      exact (ho.lt b hb).2
    · obtain ⟨G, hG, hb⟩ := List.mem_flatten.1 hb
      obtain ⟨i, hi⟩ := List.getElem?_of_mem hG
      have hi1 : i < Fs.length := (List.getElem?_eq_some_iff.1 hi).1
      exact hR.lt _ _ _ _ (hr i us[i] xs[i] G (List.getElem?_eq_getElem (by omega)) (List.getElem?_eq_getElem (by omega)) hi) b hb
theorem OwnG.slice {w : World} {v : Value} {xs : List α} {F : List Nat} (h : OwnG e sz R w v xs F) : ∃ a c, v = .slice a xs.length c := by
  obtain ⟨us, Fs, ho, _⟩ := h
  rcases ho.2 with ⟨rfl, h0⟩ | ⟨g, cap, cur, rfl, _⟩
  · exact ⟨none, 0, by rw [h0]⟩
  · exact ⟨_, _, rfl⟩
/-- Where the elements lie. -/
theorem OwnG.at {w : World} {v : Value} {xs : List α} {F : List Nat} (h : OwnG e sz R w v xs F) {i : Nat} {x : α} (hx : xs[i]? = some x) :
    ∃ g c u G, v = .slice (some ⟨g, 0, none⟩) xs.length c ∧ g < w.heap.size ∧ R w u x G ∧ (∀ b, b ∈ G → b ∈ F) ∧ g ∈ F ∧ ∀ j y, u[j]? = some y → w.cell? ⟨g, i * sz + j, none⟩ = some y := by
  obtain ⟨us, Fs, ho, hl, hf, hs, hr, rfl⟩ := h
  have hi := (List.getElem?_eq_some_iff.1 hx).1
  have hui : us[i]? = some us[i] := List.getElem?_eq_getElem (by omega)
  have hFi : Fs[i]? = some Fs[i] := List.getElem?_eq_getElem (by omega)
  have hh := ho
  rcases ho.2 with ⟨rfl, h1⟩ | ⟨g, cap, cur, rfl, _⟩
  · omega
  · refine ⟨g, cap, us[i], Fs[i], rfl, (hh.lt g rfl).2, hr i _ x _ hui hx hFi, fun b hb => List.mem_append_right _ (List.mem_flatten_of_mem (List.mem_of_getElem? hFi) hb), by simp [Value.ownBlock], fun j y hy => ?_⟩
    have := hh.cells (g := g) rfl _ _ (flatten_at hs hui hy)
    have e2 : (⟨g, 0, none⟩ : Addr).add (i * sz + j) = ⟨g, i * sz + j, none⟩ := by unfold Addr.add; split <;> simp_all
    rw [e2] at this
    exact this
/-- A slice literal of one element without blocks of its own. -/
theorem New.oneG' (w : World) (u : List Value) (x : α) (hu : u.length = sz) (hR : ∀ w', R w' u x []) : New (OwnG e sz R) w.heap.size (w.alloc (.cells u.toArray e)) (.slice (some ⟨w.heap.size, 0, none⟩) 1 1) [x] :=
  ⟨[w.heap.size], ⟨[u], [[]], ⟨by simp [hu], .inr ⟨w.heap.size, 1, u.toArray, rfl, Nat.zero_le _, heap_alloc_new w _, Nat.le_refl _, by simp [maxLen], by simp [hu], by simp; exact List.take_of_length_le (by omega)⟩⟩, rfl, rfl, by simp [hu], fun i u' x' G' hu' hx' hG' => by
    cases i with
    | zero => simp at hu' hx' hG'; subst hu' hx' hG'; exact hR _
    | succ i => simp at hu', by simp [Value.ownBlock]⟩, by simp [Fresh]⟩
section
variable {P : Program} {lo : Nat} {w : World} {v : Value} {rs : List Res}
/-- append of an element that has been laid since, with blocks made since. -/
theorem Sep.pushC (hR : KeptC sz R) (h0 : 0 < sz) (t ty : TypeId) (z : Value) (bytes : Nat) (ht : P.underlying t = some (.slice e)) (hinfo : (P.info? e).map (fun i => (i.zero, i.size, i.bytes)) = some (some z, sz, bytes)) (hz1 : z.cells.size = sz)
    {xs : List α} {hh : Held (OwnG e sz R)} (h : Sep lo w (Res.of (OwnG e sz R) hh v xs :: rs)) (hlo : lo ≤ w.heap.size) {w1 : World} (hb : Below w.heap.size w w1) {u : List Value} {y : α} {K : List Nat} (hK : R w1 u y K) (hKf : Fresh w.heap.size K) {bb : Nat} (c : Nat) (hcell : ∀ j x, u[j]? = some x → w1.cell? ⟨bb, j, none⟩ = some x) (hbytes : (xs.length + 1) * bytes ≤ 140737488355328) (h63 : xs.length + 1 ≤ 9223372036854775807) :
    ∃ v' w', (Builtin.append_ #[t, t] ty #[v, .slice (some ⟨bb, 0, none⟩) 1 c]).run P w1 = .ok v' w' ∧ Sep lo w' (Res.of (OwnG e sz R) hh v' (xs ++ [y]) :: rs) ∧ Below lo w w' := by
  obtain ⟨i, hi, hzz⟩ := Option.map_eq_some_iff.1 hinfo
  simp only [Prod.mk.injEq] at hzz
  obtain ⟨hz, hsz, hby⟩ := hzz
  obtain ⟨G, hG, hf, hKK⟩ := h.head
  have hG1 : OwnG e sz R w v xs G := hG
  have hltG := hh.lt _ _ _ _ hG1
  obtain ⟨us, Fs, how, hl, hfl, hs, hr, eG⟩ := hG1
  have how1 : w1.ownsRow 0 e sz v xs.length us.flatten := ownsRow_keep how fun b hb2 => hb.block b (how.lt b hb2).2
  have hzw := hb.size
  have hul := hR.len _ _ _ _ hK
  obtain ⟨v', w', hrun, how', hg, _, hat⟩ := run_append_own_at (P := P) w1 0 t ty e i z sz bytes ht hi hz hsz hby hz1 h0 v xs.length us.flatten how1 ⟨bb, 0, none⟩ 1 c u (by rw [hul]; omega)
    (by
      intro j u' hj
      have := hcell j u' hj
      have e2 : (⟨bb, 0, none⟩ : Addr).add j = ⟨bb, j, none⟩ := by unfold Addr.add; split <;> simp_all
      rw [e2]
      exact this)
    (fun u' hu' => hR.one _ _ _ _ hK u' hu') h63 hbytes (Nat.zero_le _)
  have hvG : ∀ k, v.ownBlock = some k → k ∈ G := fun k hk => by rw [eG]; simp [hk]
  have hkeep : ∀ b, b < w.heap.size → b ∉ G → w'.heap[b]? = w.heap[b]? := fun b hlt hn => (hg.block b (by omega) fun e2 => hn (hvG b e2.symm)).trans (hb.block b hlt)
  have hnd : (v.ownBlock.toList ++ Fs.flatten).Nodup := eG ▸ hf.1
  have hnd' := List.nodup_append.1 hnd
  have hnv : ∀ k, v.ownBlock = some k → k ∉ Fs.flatten := fun k hk hm => hnd'.2.2 k (by simp [hk]) k hm rfl
  have hKlt := hR.lt _ _ _ _ hK
  have hFG : ∀ b, b ∈ Fs.flatten → b ∈ G := fun b hb2 => by rw [eG]; exact List.mem_append_right _ hb2
  have hat' : ∀ k, v'.ownBlock = some k → v.ownBlock = some k ∨ w1.heap.size ≤ k := by
    intro k hk
    rcases hat with hat | hat
    · rw [hat] at hk; exact Or.inl hk
    · rw [hat] at hk; simp at hk; exact Or.inr (by omega)
  refine ⟨v', w', hrun, hKK w' (Res.of (OwnG e sz R) hh v' (xs ++ [y])) (v'.ownBlock.toList ++ (Fs ++ [K]).flatten) ⟨us ++ [u], Fs ++ [K], by simpa using how', by simp [hl], by simp [hfl], ?_, ?_, rfl⟩ ?_ ?_ hlo hkeep, (hb.mono hlo).grown hg (by omega) fun k hk => hf.2 k (hvG k hk)⟩
  · intro u' hu'
    rcases List.mem_append.1 hu' with h1 | h1
    · exact hs u' h1
    · simp at h1; subst h1; exact hul
  · intro j u' x' G' hu' hx' hG'
    by_cases hj : j < xs.length
    · rw [List.getElem?_append_left (by omega)] at hu' hx' hG'
      refine hR.keep _ _ _ _ _ (hr j u' x' G' hu' hx' hG') fun b hb' => ?_
      have hm : b ∈ Fs.flatten := List.mem_flatten_of_mem (List.mem_of_getElem? hG') hb'
      exact (hg.block b (by have := hltG b (hFG b hm); omega) (fun e2 => hnv b e2.symm hm)).trans (hb.block b (hltG b (hFG b hm)))
    · have hj2 : j = xs.length := by
        have := (List.getElem?_eq_some_iff.1 hx').1
        simp at this; omega
      subst hj2
      rw [List.getElem?_append_right (by omega)] at hu' hx' hG'
      simp [hl, hfl] at hu' hx' hG'
      subst hu' hx' hG'
      exact hR.keep _ _ _ _ _ hK fun b hb' => hg.block b (hKlt b hb') fun e2 => by
        have h1 := hltG b (hvG b e2.symm)
        have h2 := hKf.2 b hb'
        omega
  · simp only [List.flatten_append, List.flatten_cons, List.flatten_nil, List.append_nil]
    refine List.nodup_append.2 ⟨by cases v'.ownBlock <;> simp, List.nodup_append.2 ⟨hnd'.2.1, hKf.1, ?_⟩, ?_⟩
    · intro p hp q hq e2
      subst e2
      have h1 := hltG p (hFG p hp)
      have h2 := hKf.2 p hq
      omega
    · intro p hp q hq e2
      subst e2
      simp at hp
      rcases hat' p hp with hk | hk
      · rcases List.mem_append.1 hq with hq | hq
        · exact hnv p hk hq
        · have h1 := hltG p (hvG p hk)
          have h2 := hKf.2 p hq
          omega
      · rcases List.mem_append.1 hq with hq | hq
        · have := hltG p (hFG p hq); omega
        · have := hKlt p hq; omega
  · intro b hb'
    rcases List.mem_append.1 hb' with hb' | hb'
    · simp at hb'
      rcases hat' b hb' with hk | hk
      · exact Or.inl (hvG b hk)
      · exact Or.inr (by omega)
    · simp at hb'
      rcases hb' with ⟨H, hH, hb'⟩ | hb'
      · exact Or.inl (hFG b (List.mem_flatten_of_mem hH hb'))
      · exact Or.inr (hKf.2 b hb')
end
end
/-- append of a whole slice of plain values to an own one, as a run. -/
theorem vals_run {P : Program} {w : World} {α : Type} {f : α → Value} (hf : ∀ x, (f x).oneCell' = true) (t ty : TypeId)
    (e : TypeId) (z : Value) (bytes : Nat) (ht : P.underlying t = some (.slice e)) (hinfo : (P.info? e).map (fun i => (i.zero, i.size, i.bytes)) = some (some z, 1, bytes)) (hz1 : z.cells = #[z])
    {lo : Nat} {v : Value} {ys : List α} (h0 : New (OwnOf e (OValR f)) lo w v ys) (hlo : lo ≤ w.heap.size)
    {v2 : Value} {xs : List α} (h2 : SlOf (ValR f) w v2 xs)
    (hbytes : (ys.length + xs.length) * bytes ≤ 140737488355328) (h63 : ys.length + xs.length ≤ 9223372036854775807) :
    ∃ v' w', (Builtin.append_ #[t, t] ty #[v, v2]).run P w = .ok v' w' ∧ New (OwnOf e (OValR f)) lo w' v' (ys ++ xs) ∧ Below lo w w' := by
  obtain ⟨i, hi, hzz⟩ := Option.map_eq_some_iff.1 hinfo
  simp only [Prod.mk.injEq] at hzz
  obtain ⟨hz, hsz, hby⟩ := hzz
  have h0' := h0
  obtain ⟨F, ⟨us, Fs, how, hl, hr, rfl⟩, hnd, hge⟩ := h0
  have hul : us.length = ys.length := by simpa using how.1
  have hvlt : ∀ k, v.ownBlock = some k → lo ≤ k ∧ k < w.heap.size := fun k hk => ⟨hge k (by simp [hk]), (how.lt k hk).2⟩
  obtain ⟨vs, hsl, hvl, hvr⟩ := h2
  have hvs : vs = xs.map f := by
    apply List.ext_getElem?
    intro j
    by_cases hj : j < xs.length
    · rw [List.getElem?_map, List.getElem?_eq_getElem hj, List.getElem?_eq_getElem (by omega)]
      exact congrArg some (hvr j _ _ (List.getElem?_eq_getElem (by omega)) (List.getElem?_eq_getElem hj))
    · rw [List.getElem?_eq_none (by omega), List.getElem?_eq_none (by simp; omega)]
  subst hvs
  obtain ⟨_, ad, c, hv2, _, _, hn, hcells⟩ := hsl
  simp only [List.length_map] at hv2
  have key : ∀ (ad : Addr), (∀ (j : Nat) (u : Value), (xs.map f)[j]? = some u → w.cell? (ad.add j) = some u) → v2 = .slice (some ad) xs.length c → ∃ v' w', (Builtin.append_ #[t, t] ty #[v, v2]).run P w = .ok v' w' ∧ New (OwnOf e (OValR f)) lo w' v' (ys ++ xs) ∧ Below lo w w' := by
    intro ad had hv2'
    obtain ⟨v', w', hrun, how', hg, _, hat⟩ := run_append_own_at (P := P) w 0 t ty e i z 1 bytes ht hi hz hsz hby (by rw [hz1]; rfl) (by decide) v ys.length us how ad xs.length c (xs.map f) (by simp) had
      (by
        intro u hu
        obtain ⟨y, _, rfl⟩ := List.mem_map.1 hu
        exact hf y) h63 hbytes (Nat.zero_le _)
    have hFs : ∀ G, G ∈ Fs → G = [] := fun G hG => by
      obtain ⟨j, hj⟩ := List.getElem?_of_mem hG
      have hj1 : j < Fs.length := (List.getElem?_eq_some_iff.1 hj).1
      exact (hr j us[j] ys[j] G (List.getElem?_eq_getElem (by omega)) (List.getElem?_eq_getElem (by omega)) hj).2
    have hfl : (Fs ++ List.replicate xs.length []).flatten = [] := by
      rw [List.flatten_eq_nil_iff]
      intro G hG
      rcases List.mem_append.1 hG with hG | hG
      · exact hFs G hG
      · exact (List.mem_replicate.1 hG).2
    refine ⟨v', w', by rw [hv2']; exact hrun, ⟨_, ⟨us ++ xs.map f, Fs ++ List.replicate xs.length [], by simpa using how', by simp [hl], ?_, rfl⟩, ?_, ?_⟩, Below.of_grown hg hlo fun k hk => (hvlt k hk).1⟩
    · intro j u' x' G' hu' hx' hG'
      by_cases hj : j < ys.length
      · rw [List.getElem?_append_left (by omega)] at hu' hx' hG'
        exact hr j u' x' G' hu' hx' hG'
      · rw [List.getElem?_append_right (by omega)] at hu' hx' hG'
        rw [hul, List.getElem?_map, hx'] at hu'
        simp at hu'
        exact ⟨hu'.symm, (List.mem_replicate.1 (List.mem_of_getElem? hG')).2⟩
    · rw [hfl]
      cases v'.ownBlock <;> simp
    · intro b hb
      rw [hfl] at hb
      simp at hb
      rcases hat with hat | hat
      · rw [hat] at hb; exact (hvlt b hb).1
      · rw [hat] at hb; simp at hb; omega
  rcases hcells with hnil | ⟨b, o', rfl, _, hc⟩
  · have hx0 : xs = [] := by simpa using hnil
    subst hx0
    cases ad with
    | some ad => exact key ad (by simp) hv2
    | none =>
      have hc0 := hn rfl
      subst hc0
      refine ⟨v, w, ?_, by simpa using h0', Below.refl _ _⟩
      rw [hv2]
      exact run_append_owned_none (P := P) w 0 t ty e i 1 ht hi v ys.length us how
  · exact key ⟨b, o', none⟩ (fun j u hu => by
      have e2 : (⟨b, o', none⟩ : Addr).add j = ⟨b, o' + j, none⟩ := by unfold Addr.add; split <;> simp_all
      rw [e2]
      exact hc j u hu) hv2
end Go.Sd
end

section
namespace Go.Proofs.YtcilgihmaaobeaaDoor
open Go.RowKit Go.Deep Go.Sd

/-- Lists of different numbers below a bound are no longer than the bound. -/
theorem nodup_below : ∀ (n : Nat) (l : List Nat), l.Nodup → (∀ x, x ∈ l → x < n) → l.length ≤ n
  | 0, [], _, _ => by simp
  | 0, x :: l, _, h => absurd (h x (by simp)) (by omega)
  | n + 1, l, hn, h => by
    have h1 : (l.filter (fun x => decide (x ≠ n))).length ≤ n := nodup_below n _ (hn.filter _) fun x hx => by
      have h2 := List.mem_filter.1 hx
      have := h x h2.1
      have h3 : x ≠ n := by simpa using h2.2
      omega
    have h2 : l.length ≤ (l.filter (fun x => decide (x ≠ n))).length + 1 := by
      clear h h1
      induction l with
      | nil => simp
      | cons a t ih =>
        have hn' := List.nodup_cons.1 hn
        by_cases e : a = n
        · subst e
          have : t.filter (fun x => decide (x ≠ a)) = t := List.filter_eq_self.2 fun x hx => by
            simp
            exact fun e => hn'.1 (e ▸ hx)
          rw [List.filter_cons, if_neg (by simp), this]
          simp
        · rw [List.filter_cons, if_pos (by simpa using e)]
          have := ih hn'.2
          simp only [List.length_cons]
          omega
    omega

abbrev P2 := Nat × Nat
section
variable {A B : List Arc3} {L : Nat} {p0 : P2} {ps : List P2} {k x : Nat}
theorem stepN_zero (xs : List Arc3) (x : Int) : stepN xs 0 x = 0 := by
  have : ∀ (ys : List Arc3) (o : Nat), stepL 0 x ys o = o := by
    intro ys
    induction ys with
    | nil => intro o; rfl
    | cons a ys ih => intro o; unfold stepL; rw [ih]; simp [hit]
  exact this xs 0
end
end Go.Proofs.YtcilgihmaaobeaaDoor
end
