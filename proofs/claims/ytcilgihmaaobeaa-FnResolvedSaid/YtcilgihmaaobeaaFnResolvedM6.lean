/-
  Texts of this claim joined: laws for its walks, contracts of the functions that the law reaches.
-/
import Derived.Test.YtcilgihmaaobeaaFnResolvedM1
import Derived.Test.YtcilgihmaaobeaaFnResolvedM2
import Derived.Test.YtcilgihmaaobeaaFnResolvedM5
import Derived.Test.YtcilgihmaaobeaaFnResolvedM3
import Derived.Test.YtcilgihmaaobeaaRows
import Derived.Laws.IdiomStrings
import Derived.IntWalk
import Derived.Laws.Cover1
import Derived.Lib.Index
import Derived.Lib.IndexMore
import Derived.Deep.RegionHeld3
import Derived.Deep.DeepCutAuto
import Derived.BigQuiet
import Derived.Laws.DeepStrings4
set_option linter.unusedVariables false
set_option linter.unusedSimpArgs false
section
namespace Go.Sd
open Go.RowKit Go.Deep
/-- A slice of bytes. -/
abbrev BytR : World → Value → List Int → Prop := SlOf (ValR (Value.int .u8))
theorem BytR.frame : Framed BytR := SlOf.frame fun _ _ _ _ h _ => h
theorem BytR.cellsB {w : World} {v : Value} {xs : List Int} (h : BytR w v xs) : ∃ a c, v = .slice a xs.length c ∧ (0 < xs.length → ∃ b o, a = some ⟨b, o, none⟩ ∧ b < w.heap.size ∧ ∀ i, i < xs.length → w.cell? ⟨b, o + i, none⟩ = some (.int .u8 (xs.getD i 0))) := by
  obtain ⟨a, c, rfl, -, -, hx⟩ := h.shape
  refine ⟨a, c, rfl, fun h0 => ?_⟩
  obtain ⟨b, o, rfl, hb, hc⟩ := hx h0
  refine ⟨b, o, rfl, hb, fun i hi => ?_⟩
  obtain ⟨u, hu, hux⟩ := hc i _ (List.getElem?_eq_getElem hi)
  rw [hu, show u = .int .u8 xs[i] from hux]
  simp [List.getD, hi]
end Go.Sd
namespace Go.Proofs.Ytcilgihmaaobeaa
open Go.RowKit Go.Deep Go.Sd
set_option linter.unusedSimpArgs false
theorem i64_and255 (n : Int) : bits .and .i64 n 255 = n % 256 := by
  have h1 : (BitVec.ofInt 64 255).toNat = 2 ^ 8 - 1 := by decide
  have key : (BitVec.ofInt 64 n &&& BitVec.ofInt 64 255).toNat = (n % ((2 ^ 64 : Nat) : Int)).toNat % 2 ^ 8 := by
    rw [BitVec.toNat_and, BitVec.toNat_ofInt, h1, Nat.and_two_pow_sub_one_eq_mod]
  show IntKind.i64.wrap ((BitVec.ofInt 64 n &&& BitVec.ofInt 64 255).toNat : Nat) = n % 256
  rw [key, IntKind.wrap_i64]
  omega
set_option maxHeartbeats 1000000 in
set_option maxRecDepth 100000 in
theorem l1New_c {w : World} {vc : Value} {xs : List Int} (h : BytR w vc xs) :
    Calls Try.prog 36 #[vc] w fun e w' => e = .returned (.pointer (some ⟨w.heap.size, 0, none⟩)) ∧ (∃ hh : Int, Sep w.heap.size w' [Res.box w.heap.size [vc, .int .i64 0, .int .i64 hh]]) ∧ Below w.heap.size w w' := by
  have hlen := h.len
  obtain ⟨a, c, rfl, hcell⟩ := h.cellsB
  obtain ⟨n, hn⟩ : ∃ n, n = xs.length := ⟨_, rfl⟩
  rw [← hn] at hcell hlen ⊢
  clear h hn
  obtain ⟨M, hM⟩ : ∃ M, M = min n 4000 := ⟨_, rfl⟩
  have hM1 : M ≤ n := by omega
  have hM2 : M ≤ 4000 := by omega
  have hM3 : M = n ∨ M = 4000 := by omega
  clear hM
  go_enter Try.func36, Try.ntmps36
  go_wp2
  go_loopg [3, 4] M (fun g v i wr => ∃ (k : Nat) (H : Int), v = .int .i64 H ∧ i = .int .i64 k ∧ k + g = M ∧ wr = w)
  case atStart => exact ⟨0, _, rfl, rfl, by omega, rfl⟩
  case round =>
    obtain ⟨k, H, rfl, rfl, hk, rfl⟩ := hrel
    by_cases hkM : k < M
    · obtain ⟨g, rfl⟩ : ∃ x, gk = x + 1 := ⟨gk - 1, by omega⟩
      have h1 : (k : Int) < (n : Int) := by omega
      have h2 : (k : Int) < 4000 := by omega
      obtain ⟨b, o, rfl, hb, hc⟩ := hcell (by omega)
      have gx := hc k (by omega)
      clear hc hcell
      go_wp2
      go_roundg g
      case measure => omega
      case rel => exact ⟨k + 1, _, rfl, by go_num, by omega, rfl⟩
    · have hend : ¬ ((k : Int) < (n : Int)) ∨ ((k : Int) < (n : Int) ∧ ¬ ((k : Int) < 4000)) := by omega
      have hs := Lib.hid ((Sep.nil wr.heap.size wr).boxNew (Nat.le_refl _) [.slice a n c, .int .i64 0, .int .i64 H] 96)
      have hb := Lib.hid ((Below.refl wr.heap.size wr).alloc (Nat.le_refl _) (.cells #[.slice a n c, .int .i64 0, .int .i64 H] 96))
      clear hcell
      rcases hend with h1 | ⟨h1, h2⟩
      · go_wp2
        go_ret
        exact ⟨rfl, ⟨H, hs.out⟩, hb.out⟩
      · go_wp2
        go_ret
        exact ⟨rfl, ⟨H, hs.out⟩, hb.out⟩
/-- The cursor: its block apart from other own things. -/
def Cur (lo : Nat) (w : World) (cb : Nat) (K : Value) (n : Nat) (rs : List Res) : Prop := ∃ (i : Nat) (h : Int), i ≤ n ∧ Sep lo w (Res.box cb [K, .int .i64 i, .int .i64 h] :: rs)
/-- A call that draws a number. -/
def DrawsN (lo : Nat) (w : World) (cb : Nat) (K : Value) (n : Nat) (rs : List Res) (B : Nat) (e : Ending) (w' : World) : Prop := ∃ x : Nat, e = .returned (.int .i64 x) ∧ x < B ∧ Cur lo w' cb K n rs ∧ Below lo w w' ∧ Off [cb] w w'
set_option maxHeartbeats 1000000 in
set_option maxRecDepth 100000 in
theorem l1Byte_c {lo : Nat} {w : World} {cb : Nat} {K : Value} {xs : List Int} {rs : List Res} (hK : ∀ w', Below lo w w' → BytR w' K xs) (hc : Cur lo w cb K xs.length rs) (hlo : lo ≤ w.heap.size) :
    Calls Try.prog 81 #[.pointer (some ⟨cb, 0, none⟩)] w (DrawsN lo w cb K xs.length rs 256) := by
  obtain ⟨i, h, hi, hs⟩ := hc
  have hlen := (hK w (Below.refl _ _)).len
  obtain ⟨hlb, mb, hcb⟩ := hs.headBox
  have c0 := (hcb 0 _ rfl).1
  have c1 := (hcb 1 _ rfl).1
  have c2 := (hcb 2 _ rfl).1
  have f2 := (hcb 2 _ rfl).2
  obtain ⟨a, c, rfl, -⟩ := (hK w (Below.refl _ _)).cellsB
  have HS := Lib.hid hs
  have HK := Lib.hid hK
  clear hs hcb hK
  go_enter Try.func81, Try.ntmps81
  go_wp2
  obtain ⟨H, hH⟩ : ∃ H : Int, H = wrap64 (wrap64 (h * 6364136223846793005) + 1442695040888963407) := ⟨_, rfl⟩
  rw [← hH]
  clear hH
  have hs1 := HS.out.boxStore hlo (j := 2) rfl (.int .i64 H)
  have hb1 := Lib.hid ((Below.refl lo w).setCell (p := ⟨cb, 2, none⟩) hlb (.int .i64 H))
  have ho1 := Lib.hid (Off.setCell (F := [cb]) (w := w) (p := ⟨cb, 2, none⟩) (by simp) (.int .i64 H))
  obtain ⟨w1, e1⟩ : ∃ x, x = w.setCell ⟨cb, 2, none⟩ (.int .i64 H) := ⟨_, rfl⟩
  rw [← e1] at hs1 hb1 ho1 ⊢
  obtain ⟨-, mb1, hcb⟩ := hs1.headBox
  have g0 : w1.cell? ⟨cb, 0, none⟩ = some (.slice a xs.length c) := (hcb 0 _ rfl).1
  have g1 : w1.cell? ⟨cb, 1, none⟩ = some (.int .i64 i) := (hcb 1 _ rfl).1
  have g2 : w1.cell? ⟨cb, 2, none⟩ = some (.int .i64 H) := (hcb 2 _ rfl).1
  have k1 : w1.frozen? ⟨cb, 1, none⟩ = false := (hcb 1 _ rfl).2
  have HS1 := Lib.hid (show Sep lo w1 (Res.box cb [.slice a xs.length c, .int .i64 i, .int .i64 H] :: rs) from hs1)
  have hlo1 : lo ≤ w1.heap.size := Nat.le_trans hlo hb1.out.size
  have HK1 := Lib.hid (HK.out w1 hb1.out)
  clear hs1 hcb c0 c1 c2 f2 e1 HS mb
  go_quiet (fail)
  go_wp2
  rw [i64_and255]
  generalize bits BinOp.xor IntKind.i64 (H / 8589934592) (H / 35184372088832) = X
  obtain ⟨Y, hY, hY2⟩ : ∃ Y : Nat, X % 256 = (Y : Int) ∧ Y < 256 := ⟨(X % 256).toNat, by omega, by omega⟩
  rw [hY]
  clear hY
  have hlo2 := hlo1
  by_cases hin : i < xs.length
  · have h1 : (i : Int) < (xs.length : Int) := by omega
    obtain ⟨a', c', hv, hcell⟩ := HK1.out.cellsB
    simp only [Value.slice.injEq] at hv
    obtain ⟨rfl, -, rfl⟩ := hv
    obtain ⟨b, o, rfl, hb, hcx⟩ := hcell (by omega)
    have gx := hcx i hin
    generalize xs.getD i 0 = x at gx
    clear hcx hcell
    go_quiet (fail)
    go_wp2
    go_quiet (fail)
    go_wp2
    rw [i64_and255]
    generalize wrap64 ((Y : Int) + wrap64 x) = Z0
    obtain ⟨Z, hZ, hZ2⟩ : ∃ Z : Nat, Z0 % 256 = (Z : Int) ∧ Z < 256 := ⟨(Z0 % 256).toNat, by omega, by omega⟩
    rw [hZ]
    have hd := fun N => below_drewN (Below.refl lo w1) N
    have hst := fun N => (HS1.out.below (below_drewN (Below.refl w1.heap.size w1) N) (Nat.le_refl _)).boxStore (by simpa using hlo1) (j := 1) rfl (.int .i64 ((i : Int) + 1))
    go_ret
    exact ⟨Z, rfl, hZ2, ⟨i + 1, H, by omega, hst _⟩, (hb1.out.trans (hd _)).setCell (p := ⟨cb, 1, none⟩) hlb _, (ho1.out.trans (Off.of_below (below_drewN (Below.refl w1.heap.size w1) _))).trans (Off.setCell (p := ⟨cb, 1, none⟩) (by simp) _)⟩
  · have h1 : ¬ ((i : Int) < (xs.length : Int)) := by omega
    go_quiet (fail)
    go_wp2
    go_ret
    exact ⟨Y, rfl, hY2, ⟨i, H, hi, HS1.out.below (below_drewN (Below.refl w1.heap.size w1) _) (Nat.le_refl _)⟩, hb1.out.trans (below_drewN (Below.refl lo w1) _), ho1.out.trans (Off.of_below (below_drewN (Below.refl w1.heap.size w1) _))⟩
set_option maxHeartbeats 1000000 in
set_option maxRecDepth 100000 in
theorem l1Below_c {lo : Nat} {w : World} {cb : Nat} {K : Value} {xs : List Int} {rs : List Res} {N : Nat} (hK : ∀ w', Below lo w w' → BytR w' K xs) (hc : Cur lo w cb K xs.length rs) (hlo : lo ≤ w.heap.size) (hN : 1 ≤ N) (hN2 : N ≤ 256) :
    Calls Try.prog 46 #[.pointer (some ⟨cb, 0, none⟩), .int .i64 N] w (DrawsN lo w cb K xs.length rs N) := by
  have HB := Lib.hid (l1Byte_c hK hc hlo)
  have h0 : ¬ ((N : Int) ≤ 0) := by omega
  have h1 : (N : Int) ≤ 256 := by omega
  have h2 : (0 : Int) < (N : Int) := by omega
  have h3 : ¬ ((N : Int) = 0) := by omega
  clear hK hc
  go_enter Try.func46, Try.ntmps46
  go_wp2_with fail
  (with_reducible refine HB.out.mono ?_)
  rintro e w1 ⟨x, rfl, hx, hc, hb, ho⟩
  have HO := Lib.hid ho
  clear ho
  have HC := Lib.hid hc
  have HBl := Lib.hid hb
  have hmod : (x : Int) % (N : Int) = ((x % N : Nat) : Int) := by omega
  have hlt : x % N < N := Nat.mod_lt _ (by omega)
  clear hc hb HB
  go_wp2
  go_ret
  exact ⟨x % N, by rw [show ((x % N : Nat) : Int) = (x : Int) % (N : Int) from hmod.symm]; rfl, hlt, HC.out, HBl.out, HO.out⟩
set_option maxHeartbeats 1000000 in
set_option maxRecDepth 100000 in
theorem l1Once_c {lo : Nat} {w : World} {cb : Nat} {K : Value} {xs : List Int} {rs : List Res} {N : Nat} (hK : ∀ w', Below lo w w' → BytR w' K xs) (hc : Cur lo w cb K xs.length rs) (hlo : lo ≤ w.heap.size) (hN : 1 ≤ N) (hN2 : N ≤ 256) :
    Calls Try.prog 45 #[.pointer (some ⟨cb, 0, none⟩), .int .i64 N] w fun e w' => ∃ b : Bool, e = .returned (.bool b) ∧ Cur lo w' cb K xs.length rs ∧ Below lo w w' ∧ Off [cb] w w' := by
  have HB := Lib.hid (l1Below_c hK hc hlo hN hN2)
  clear hK hc
  go_enter Try.func45, Try.ntmps45
  go_wp2_with fail
  (with_reducible refine HB.out.mono ?_)
  rintro e w1 ⟨x, rfl, hx, hc, hb, ho⟩
  have HO := Lib.hid ho
  clear ho
  have HC := Lib.hid hc
  have HBl := Lib.hid hb
  clear hc hb HB
  go_wp2
  go_ret
  exact ⟨_, rfl, HC.out, HBl.out, HO.out⟩
theorem Cur.perm {lo : Nat} {w : World} {cb : Nat} {K : Value} {n : Nat} {rs ss : List Res} (h : Cur lo w cb K n rs) (hp : rs.Perm ss) : Cur lo w cb K n ss := by
  obtain ⟨i, x, hi, hs⟩ := h
  exact ⟨i, x, hi, hs.perm (hp.cons _)⟩
theorem Cur.rest {lo : Nat} {w : World} {cb : Nat} {K : Value} {n : Nat} {r : Res} {rs : List Res} (h : Cur lo w cb K n (r :: rs)) : Cur lo w cb K n rs := by
  obtain ⟨i, x, hi, hs⟩ := h
  exact ⟨i, x, hi, hs.swap.tail⟩
theorem Cur.out {lo : Nat} {w : World} {cb : Nat} {K : Value} {n : Nat} {rs : List Res} (h : Cur lo w cb K n rs) : Sep lo w rs := by
  obtain ⟨i, x, hi, hs⟩ := h
  exact hs.tail
/-- What is made besides. -/
theorem Cur.new {α : Type} {R : OwnRel α} (hR : Held R) {lo : Nat} {w w' : World} {cb : Nat} {K : Value} {n : Nat} {rs : List Res} (h : Cur lo w cb K n rs) (hb : Below w.heap.size w w') (hlo : lo ≤ w.heap.size) {v : Value} {x : α} (hn : New R w.heap.size w' v x) : Cur lo w' cb K n (Res.of R hR v x :: rs) := by
  obtain ⟨i, z, hi, hs⟩ := h
  exact ⟨i, z, hi, (hs.new hR hb hlo hn).swap⟩
theorem Cur.box {lo : Nat} {w : World} {cb : Nat} {K : Value} {n : Nat} {rs : List Res} (h : Cur lo w cb K n rs) (hlo : lo ≤ w.heap.size) (vs : List Value) (ty : TypeId) : Cur lo (w.alloc (.cells vs.toArray ty)) cb K n (Res.box w.heap.size vs :: rs) := by
  obtain ⟨i, z, hi, hs⟩ := h
  exact ⟨i, z, hi, (hs.boxNew hlo vs ty).swap⟩
theorem Cur.below {lo : Nat} {w w' : World} {cb : Nat} {K : Value} {n : Nat} {rs : List Res} (h : Cur lo w cb K n rs) (hb : Below w.heap.size w w') : Cur lo w' cb K n rs := by
  obtain ⟨i, z, hi, hs⟩ := h
  exact ⟨i, z, hi, hs.below hb (Nat.le_refl _)⟩
set_option maxHeartbeats 1000000 in
set_option maxRecDepth 100000 in
theorem l1PickInt_c {lo : Nat} {w : World} {cb bl : Nat} {K : Value} {xs : List Int} {rs : List Res} {ls : List Int} {c : Nat} (hK : ∀ w', Below lo w w' → BytR w' K xs) (hc : Cur lo w cb K xs.length (Res.box bl (ls.map (Value.int .i64)) :: rs)) (hlo : lo ≤ w.heap.size) (hN : 1 ≤ ls.length) (hN2 : ls.length ≤ 256) :
    Calls Try.prog 77 #[.pointer (some ⟨cb, 0, none⟩), .slice (some ⟨bl, 0, none⟩) ls.length c] w fun e w' => ∃ x : Int, e = .returned (.int .i64 x) ∧ x ∈ ls ∧ Cur lo w' cb K xs.length (Res.box bl (ls.map (Value.int .i64)) :: rs) ∧ Below lo w w' ∧ Off [cb] w w' := by
  have HB := Lib.hid (l1Below_c hK hc hlo hN hN2)
  obtain ⟨N, hNe⟩ : ∃ N, N = ls.length := ⟨_, rfl⟩
  have HNe := Lib.hid hNe
  rw [← hNe] at HB ⊢
  clear hK hc hN hN2 hNe
  go_enter Try.func77, Try.ntmps77
  go_wp2_with fail
  (with_reducible refine HB.out.mono ?_)
  rintro e w1 ⟨x, rfl, hx, hc, hb, ho⟩
  have HO := Lib.hid ho
  clear ho
  have hcell := (hc.out.headBox).2.2 x (.int .i64 (ls[x]'(by have := HNe.out; omega))) (by rw [List.getElem?_map, List.getElem?_eq_getElem (by have := HNe.out; omega)]; rfl)
  have g0 := hcell.1
  have Hm := Lib.hid (List.getElem_mem (l := ls) (n := x) (by have := HNe.out; omega))
  generalize ls[x]'(by have := HNe.out; omega) = y at g0 Hm
  have hxi : (x : Int) < (N : Int) := by omega
  have HC := Lib.hid hc
  have HBl := Lib.hid hb
  clear hc hb HB hcell
  go_wp2
  go_ret
  exact ⟨y, rfl, Hm.out, HC.out, HBl.out, HO.out⟩
set_option maxHeartbeats 1000000 in
set_option maxRecDepth 100000 in
theorem l1Pick_c {lo : Nat} {w : World} {cb bl : Nat} {K : Value} {xs : List Int} {rs : List Res} {ls : List ByteArray} {c : Nat} (hK : ∀ w', Below lo w w' → BytR w' K xs) (hc : Cur lo w cb K xs.length (Res.box bl (ls.map Value.string) :: rs)) (hlo : lo ≤ w.heap.size) (hN : 1 ≤ ls.length) (hN2 : ls.length ≤ 256) :
    Calls Try.prog 122 #[.pointer (some ⟨cb, 0, none⟩), .slice (some ⟨bl, 0, none⟩) ls.length c] w fun e w' => ∃ x : ByteArray, e = .returned (.string x) ∧ x ∈ ls ∧ Cur lo w' cb K xs.length (Res.box bl (ls.map Value.string) :: rs) ∧ Below lo w w' ∧ Off [cb] w w' := by
  have HB := Lib.hid (l1Below_c hK hc hlo hN hN2)
  obtain ⟨N, hNe⟩ : ∃ N, N = ls.length := ⟨_, rfl⟩
  have HNe := Lib.hid hNe
  rw [← hNe] at HB ⊢
  clear hK hc hN hN2 hNe
  go_enter Try.func122, Try.ntmps122
  go_wp2_with fail
  (with_reducible refine HB.out.mono ?_)
  rintro e w1 ⟨x, rfl, hx, hc, hb, ho⟩
  have HO := Lib.hid ho
  clear ho
  have hcell := (hc.out.headBox).2.2 x (.string (ls[x]'(by have := HNe.out; omega))) (by rw [List.getElem?_map, List.getElem?_eq_getElem (by have := HNe.out; omega)]; rfl)
  have g0 := hcell.1
  have Hm := Lib.hid (List.getElem_mem (l := ls) (n := x) (by have := HNe.out; omega))
  generalize ls[x]'(by have := HNe.out; omega) = y at g0 Hm
  have hxi : (x : Int) < (N : Int) := by omega
  have HC := Lib.hid hc
  have HBl := Lib.hid hb
  clear hc hb HB hcell
  go_wp2
  go_ret
  exact ⟨y, rfl, Hm.out, HC.out, HBl.out, HO.out⟩
theorem l1Below_i {lo : Nat} {w : World} {cb : Nat} {K : Value} {xs : List Int} {rs : List Res} {z : Int} (hK : ∀ w', Below lo w w' → BytR w' K xs) (hc : Cur lo w cb K xs.length rs) (hlo : lo ≤ w.heap.size) (hN : 1 ≤ z) (hN2 : z ≤ 256) :
    Calls Try.prog 46 #[.pointer (some ⟨cb, 0, none⟩), .int .i64 z] w (DrawsN lo w cb K xs.length rs z.toNat) := by
  obtain ⟨N, rfl⟩ := Int.eq_ofNat_of_zero_le (show 0 ≤ z by omega)
  exact l1Below_c hK hc hlo (by omega) (by omega)
theorem l1Once_i {lo : Nat} {w : World} {cb : Nat} {K : Value} {xs : List Int} {rs : List Res} {z : Int} (hK : ∀ w', Below lo w w' → BytR w' K xs) (hc : Cur lo w cb K xs.length rs) (hlo : lo ≤ w.heap.size) (hN : 1 ≤ z) (hN2 : z ≤ 256) :
    Calls Try.prog 45 #[.pointer (some ⟨cb, 0, none⟩), .int .i64 z] w fun e w' => ∃ b : Bool, e = .returned (.bool b) ∧ Cur lo w' cb K xs.length rs ∧ Below lo w w' ∧ Off [cb] w w' := by
  obtain ⟨N, rfl⟩ := Int.eq_ofNat_of_zero_le (show 0 ≤ z by omega)
  exact l1Once_c hK hc hlo (by omega) (by omega)
end Go.Proofs.Ytcilgihmaaobeaa
end

section
namespace Go.Proofs.Ytcilgihmaaobeaa
open Go.RowKit Go.Deep Go.Sd
set_option linter.unusedSimpArgs false
theorem slVal_kept {α : Type} {f : α → Value} (hf : ∀ x, (f x).oneCell' = true) : Kept (OValR f) := ⟨fun _ _ _ _ _ h _ => h, fun _ _ _ _ h b hb => by rw [h.2] at hb; simp at hb, fun _ _ _ _ h => by rw [h.1]; exact hf _⟩
theorem infoTx : (Try.prog.info? 9).map (fun i => (i.zero, i.size, i.bytes)) = some (some (.string ⟨#[]⟩), 1, 16) := by kernel_rfl
abbrev OTxt : OwnRel (List ByteArray) := OwnOf 9 (OValR Value.string)
abbrev TxtR : World → Value → List ByteArray → Prop := SlOf (ValR Value.string)
theorem New.txt {lo : Nat} {w : World} {v : Value} {xs : List ByteArray} (h : New OTxt lo w v xs) : TxtR w v xs := by obtain ⟨F, hF, _⟩ := h; exact OwnOf.reads (fun _ _ _ _ h => h.1) hF
def splitL (s : ByteArray) (c : Nat) : Nat → Nat → Nat → List ByteArray
  | 0, _, _ => []
  | g + 1, f, i => if h : i < s.size then (if s[i].toNat = c then s.extract f i :: splitL s c g (i + 1) (i + 1) else splitL s c g f (i + 1)) else s.extract f i :: splitL s c g (i + 1) (i + 1)
def splitB (s : ByteArray) (c : Nat) : List ByteArray := splitL s c (s.size + 1) 0 0
set_option maxHeartbeats 1000000 in
set_option maxRecDepth 100000 in
theorem SplitByte_c {w : World} {s : ByteArray} {c : Nat} (hs : s.size ≤ 1000) (hc : c < 256) :
    Calls Try.prog 138 #[.string s, .int .u8 c] w (Makes OTxt w (splitB s c)) := by
  have H0 := Lib.hid (show ([] : List ByteArray) ++ splitL s c (s.size + 1) 0 0 = splitB s c from rfl)
  generalize splitB s c = R at H0 ⊢
  have HN0 := Lib.hid (New.empty (e := 9) (R := OValR Value.string) w (Nat.le_refl w.heap.size))
  have HB0 := Lib.hid ((Below.refl w.heap.size w).alloc (Nat.le_refl _) (.cells #[] 9))
  go_enter Try.func138, Try.ntmps138
  go_wp2
  go_loopg [5, 6, 7] (s.size + 1) (fun g v fv iv wr => ∃ (f i : Nat) (L : List ByteArray), fv = .int .i64 f ∧ iv = .int .i64 i ∧ i + g = s.size + 1 ∧ f ≤ i ∧ L.length ≤ i ∧ Hid (L ++ splitL s c g f i = R) ∧ Hid (New OTxt w.heap.size wr v L) ∧ Hid (Below w.heap.size w wr))
  case atStart => exact ⟨0, 0, [], rfl, rfl, by omega, by omega, by simp, H0, HN0, HB0⟩
  case round =>
    clear H0 HN0 HB0
    obtain ⟨f, i, L, rfl, rfl, hi, hf, hL, HR, Hn, Hb⟩ := hrel
    obtain ⟨wk, rfl⟩ : ∃ x, x = wr := ⟨_, rfl⟩
    have hle := Hb.out.size
    obtain ⟨oa, oc, rfl, -⟩ := (New.txt Hn.out).shape
    by_cases hg : 0 < gk
    · obtain ⟨g, hgk⟩ : ∃ g, gk = g + 1 := ⟨gk - 1, by omega⟩
      subst hgk
      have hii : (i : Int) ≤ (s.size : Int) := by omega
      by_cases his : i < s.size
      · have hne : ((i : Int) == (s.size : Int)) = false := by simp; omega
        have hsi : (i : Int) < (s.size : Int) := by omega
        by_cases hcc : s[i].toNat = c
        · have t1 : ((s[i].toNat : Int) == (c : Int)) = true := by simp [hcc]
          have HR2 := Lib.hid (show (L ++ [s.extract f i]) ++ splitL s c g (i + 1) (i + 1) = R from by have h := HR.out; rw [splitL, dif_pos his, if_pos hcc] at h; rw [List.append_assoc]; exact h)
          clear HR hcc
          go_wp2_with (at_builtin; refine wpl_push (w0 := wk) (lo := w.heap.size) (y := s.extract f i) (slVal_kept fun _ => rfl) rfl (.tmp 26) (.tmp 31) 36 rfl 9 (.string ⟨#[]⟩) 16 Try.underlying36 infoTx rfl Hn.out hle ((Below.refl _ _).alloc (Nat.le_refl _) _) ⟨[], ⟨rfl, rfl⟩, by simp [Fresh]⟩ (bb := wk.heap.size) (c := 1) (by simp) rfl rfl (by omega) (by omega) ?_; intro v3 w3 hn3 _ _ hb3; have Hn3 := Lib.hid hn3; have Hb3 := Lib.hid hb3; clear hn3 hb3)
          go_roundg g
          case measure => omega
          case rel => exact ⟨i + 1, i + 1, _, by go_num, by go_num, by omega, by omega, by simp; omega, HR2, Hn3, Lib.hid (Hb.out.trans Hb3.out)⟩
        · have t1 : ((s[i].toNat : Int) == (c : Int)) = false := by simp; omega
          have HR2 := Lib.hid (show L ++ splitL s c g f (i + 1) = R from by have h := HR.out; rw [splitL, dif_pos his, if_neg hcc] at h; exact h)
          clear HR hcc
          go_wp2
          go_roundg g
          case measure => omega
          case rel => exact ⟨f, i + 1, L, rfl, by go_num, by omega, by omega, by omega, HR2, Hn, Hb⟩
      · have hie : i = s.size := by omega
        have heq : ((i : Int) == (s.size : Int)) = true := by simp [hie]
        have HR2 := Lib.hid (show (L ++ [s.extract f i]) ++ splitL s c g (i + 1) (i + 1) = R from by have h := HR.out; rw [splitL, dif_neg his] at h; rw [List.append_assoc]; exact h)
        clear HR hie
        go_wp2_with (at_builtin; refine wpl_push (w0 := wk) (lo := w.heap.size) (y := s.extract f i) (slVal_kept fun _ => rfl) rfl (.tmp 26) (.tmp 31) 36 rfl 9 (.string ⟨#[]⟩) 16 Try.underlying36 infoTx rfl Hn.out hle ((Below.refl _ _).alloc (Nat.le_refl _) _) ⟨[], ⟨rfl, rfl⟩, by simp [Fresh]⟩ (bb := wk.heap.size) (c := 1) (by simp) rfl rfl (by omega) (by omega) ?_; intro v3 w3 hn3 _ _ hb3; have Hn3 := Lib.hid hn3; have Hb3 := Lib.hid hb3; clear hn3 hb3)
        go_roundg g
        case measure => omega
        case rel => exact ⟨i + 1, i + 1, _, by go_num, by go_num, by omega, by omega, by simp; omega, HR2, Hn3, Lib.hid (Hb.out.trans Hb3.out)⟩
    · obtain rfl : gk = 0 := by omega
      have hii : ¬ ((i : Int) ≤ (s.size : Int)) := by omega
      have HF := Lib.hid (show L = R from by have h := HR.out; rw [splitL, List.append_nil] at h; exact h)
      clear HR
      go_wp2
      go_ret
      exact ⟨_, rfl, by rw [← HF.out]; exact Hn.out, Hb.out⟩
end Go.Proofs.Ytcilgihmaaobeaa
end

section
namespace Go.Proofs.Ytcilgihmaaobeaa
open Go.RowKit Go.Deep Go.Sd
set_option linter.unusedSimpArgs false
theorem bs_size (a b : ByteArray) : (a ++ b).size = a.size + b.size := by simp
def fmtL : Nat → Nat → ByteArray → ByteArray
  | 0, _, u => u
  | g + 1, m, u => if m = 0 then u else fmtL g (m / 10) ((⟨#[48 + UInt8.ofNat (m % 10)]⟩ : ByteArray) ++ u)
def fmtN (m : Nat) : ByteArray := if m = 0 then ⟨#[48]⟩ else fmtL 18 m ⟨#[]⟩
set_option maxHeartbeats 2000000 in
set_option maxRecDepth 100000 in
theorem FormatInt_c {w : World} {m : Nat} (hm : m < 1000000000000000000) :
    Calls Try.prog 147 #[.int .i64 m] w fun e w' => e = .returned (.string (fmtN m)) ∧ Below w.heap.size w w' := by
  by_cases h0 : m = 0
  · subst h0
    have HF := Lib.hid (show fmtN 0 = ⟨#[48]⟩ from rfl)
    go_enter Try.func147, Try.ntmps147
    go_wp2
    go_ret
    exact ⟨by rw [HF.out]; rfl, Below.refl _ _⟩
  have HF := Lib.hid (show fmtN m = fmtL 18 m ⟨#[]⟩ from by unfold fmtN; rw [if_neg h0])
  generalize fmtN m = T at HF ⊢
  have e0 : ((m : Int) == 0) = false := by simp; omega
  have e1 : ¬ ((m : Int) < 0) := by omega
  have d1 : decide ((m : Int) < 0) = false := decide_eq_false (by omega)
  have HP0 := Lib.hid (show m < 10 ^ 18 from hm)
  have HZ0 := Lib.hid (show (⟨#[]⟩ : ByteArray).size + 18 = 18 from rfl)
  clear h0 hm
  go_enter Try.func147, Try.ntmps147
  go_wp2
  go_loopg [0, 4, 5] 18 (fun g nv tv rv wr => ∃ (m : Nat) (u : ByteArray), nv = .int .i64 m ∧ tv = .string u ∧ u.size ≤ 18 ∧ Hid (u.size + g = 18) ∧ Hid (m < 10 ^ g) ∧ Hid (T = fmtL g m u) ∧ Hid (Below w.heap.size w wr))
  case atStart => exact ⟨m, ⟨#[]⟩, rfl, rfl, by decide, HZ0, HP0, HF, Lib.hid (Below.refl _ _)⟩
  case round =>
    clear HF HP0 HZ0 e0 e1 d1
    obtain ⟨m, u, rfl, rfl, hu, HZ, HP, HT, HB⟩ := hrel
    obtain ⟨wk, rfl⟩ : ∃ x, x = wr := ⟨_, rfl⟩
    by_cases hz : m = 0
    · have t0 : ((m : Int) != 0) = false := by simp [hz]
      have HF := Lib.hid (show T = u from by rw [HT.out]; cases gk with | zero => rfl | succ g => (unfold fmtL; rw [if_pos hz]))
      clear HT HP HZ hz
      go_wp2
      go_ret
      exact ⟨by rw [HF.out]; rfl, HB.out⟩
    · cases gk with
      | zero => exact absurd HP.out (by simp; omega)
      | succ g =>
        have t0 : ((m : Int) != 0) = true := by simp [hz]
        have HT2 := Lib.hid (show T = fmtL g (m / 10) ((⟨#[48 + UInt8.ofNat (m % 10)]⟩ : ByteArray) ++ u) from by rw [HT.out]; exact if_neg hz)
        have hr : m % 10 < 10 := Nat.mod_lt _ (by omega)
        have hq : m / 10 ≤ m := Nat.div_le_self _ _
        have HP2 := Lib.hid (show m / 10 < 10 ^ g from by have h := HP.out; rw [Nat.pow_succ] at h; omega)
        have hm1 : (m : Int) % 10 = ((m % 10 : Nat) : Int) := by omega
        have hm2 : (m : Int) / 10 = ((m / 10 : Nat) : Int) := by omega
        have hm0' : (0 : Int) ≤ (m : Int) := by omega
        have hmb : m < 1000000000000000000 := by
          have h := HP.out
          have hz := HZ.out
          have h2 : 10 ^ (g + 1) ≤ 10 ^ 18 := Nat.pow_le_pow_right (by decide) (by omega)
          omega
        generalize m % 10 = r at HT2 hr hm1
        generalize m / 10 = q at HT2 hq HP2 hm2
        have hu8 : IntKind.u8.wrap (48 + (r : Int)) = 48 + (r : Int) := IntWalk.u8_in _ (by omega)
        have hcv : (convert 22 9 (.slice (some ⟨wk.heap.size, 0, none⟩) 1 1)).run Try.prog (wk.alloc (.cells #[.int .u8 (48 + (r : Int))] 5)) = .ok (.string ⟨#[48 + UInt8.ofNat r]⟩) (wk.alloc (.cells #[.int .u8 (48 + (r : Int))] 5)) := by
          have h := run_convert_bytes_back (P := Try.prog) (wk.alloc (.cells #[.int .u8 (48 + (r : Int))] 5)) 22 9 5 ⟨wk.heap.size, 0, none⟩ 1 [48 + UInt8.ofNat r] Try.underlying22 Try.underlying5 Try.underlying9 (fun j hj => by
            have hj0 : j = 0 := by simpa using hj
            subst hj0
            have e4 : (48 + UInt8.ofNat r).toNat = 48 + r := by simp; omega
            have e2 : (⟨wk.heap.size, 0, none⟩ : Addr).add 0 = ⟨wk.heap.size, 0, none⟩ := by unfold Addr.add; split <;> simp_all
            rw [e2, World.cell?_alloc_at _ _ _ 0 rfl]
            simp only [List.getElem_cons_zero, e4]
            rfl)
          exact h
        have hs1 : (⟨#[48 + UInt8.ofNat r]⟩ : ByteArray).size = 1 := rfl
        have hsz : ¬ (9223372036854775807 < 1 + u.size) := by omega
        have hwq : IntKind.i64.wrap (q : Int) = (q : Int) := IntWalk.i64_in _ (by omega)
        have hwr : IntKind.i64.wrap (r : Int) = (r : Int) := IntWalk.i64_in _ (by omega)
        have hr0 : ¬ ((r : Int) < 0) := by omega
        have dr : decide ((r : Int) < 0) = false := decide_eq_false (by omega)
        have hw48 : IntKind.i64.wrap (48 + (r : Int)) = 48 + (r : Int) := IntWalk.i64_in _ (by omega)
        have hsz2 := Lib.hid (show ((⟨#[48 + UInt8.ofNat r]⟩ : ByteArray) ++ u).size + g = 18 from by have := HZ.out; rw [bs_size, hs1]; omega)
        have hz1 := HB.out.size
        have HB2 := Lib.hid (HB.out.alloc hz1 (.cells #[.int .u8 (48 + (r : Int))] 5))
        obtain ⟨u2, hu2⟩ : ∃ x, x = (⟨#[48 + UInt8.ofNat r]⟩ : ByteArray) ++ u := ⟨_, rfl⟩
        rw [← hu2] at HT2 hsz2
        have hu2s := hu2.symm
        have hu2z : u2.size ≤ 18 := by have := hsz2.out; omega
        clear HT HP HB hu2 hmb hz HZ
        go_wp2
        go_roundg g
        case measure => omega
        case rel => exact ⟨q, u2, rfl, rfl, hu2z, hsz2, HP2, HT2, HB2⟩
end Go.Proofs.Ytcilgihmaaobeaa
end

section
namespace Go.Proofs.Ytcilgihmaaobeaa
open Go.RowKit Go.Deep Go.Sd
set_option linter.unusedSimpArgs false
theorem fmtN_dig : ∀ d, d ≤ 9 → fmtN d = ⟨#[UInt8.ofNat (48 + d)]⟩ := by decide
theorem dig_size {d : Nat} (h : d ≤ 9) : (fmtN d).size = 1 := by rw [fmtN_dig d h]; rfl
theorem dig_at {d : Nat} (h : d ≤ 9) (h0 : 0 < (fmtN d).size) : (fmtN d)[0].toNat = 48 + d := by
  have key : ∀ (s : ByteArray) (h0 : 0 < s.size), s = ⟨#[UInt8.ofNat (48 + d)]⟩ → s[0].toNat = 48 + d := by
    rintro s h0 rfl
    show (UInt8.ofNat (48 + d)).toNat = 48 + d
    simp
    omega
  exact key _ h0 (fmtN_dig d h)
set_option maxHeartbeats 2000000 in
set_option maxRecDepth 100000 in
theorem l1Read_one {w : World} {d : Nat} {s : ByteArray} (h9 : d ≤ 9) (hz : s.size = 1) (hb : ∀ h : 0 < s.size, s[0].toNat = 48 + d) (hf : fmtN d = s) :
    Calls Try.prog 142 #[.string s, .int .i64 12] w fun e w' => e = .returned (.tuple #[.int .i64 d, .bool true]) ∧ Below w.heap.size w w' := by
  have HFm := Lib.hid (fun w1 => FormatInt_c (w := w1) (m := d) (by omega))
  rw [hf] at HFm
  have h0 : 0 < s.size := by omega
  have hb1 := hb h0
  have hb45 : ((48 + (d : Int)) == 45) = false := by simp; omega
  have dlt : decide (48 + (d : Int) < 48) = false := decide_eq_false (by omega)
  have dgt : decide ((57 : Int) < 48 + (d : Int)) = false := decide_eq_false (by omega)
  clear hf hb
  go_enter Try.func142, Try.ntmps142
  go_wp2
  go_loopg [8, 9] 1 (fun g nv iv wr => ((g = 1 ∧ nv = .int .i64 0 ∧ iv = .int .i64 0) ∨ (g = 0 ∧ nv = .int .i64 d ∧ iv = .int .i64 1)) ∧ wr = w)
  case atStart => exact ⟨Or.inl ⟨rfl, rfl, rfl⟩, rfl⟩
  case round =>
    obtain ⟨h | h, rfl⟩ := hrel
    · obtain ⟨rfl, rfl, rfl⟩ := h
      go_wp2
      go_roundg 0
      case measure => omega
      case rel => exact ⟨Or.inr ⟨rfl, by go_num, by go_num⟩, rfl⟩
    · obtain ⟨rfl, rfl, rfl⟩ := h
      go_wp2_with fail
      (with_reducible refine (HFm.out _).mono ?_)
      rintro e w2 ⟨rfl, hb2⟩
      have HB := Lib.hid hb2
      clear hb2 HFm
      go_wp2
      go_ret2
      exact ⟨rfl, HB.out⟩
theorem ParseInt_dig {w : World} {d : Nat} (h9 : d ≤ 9) :
    Calls Try.prog 139 #[.string (fmtN d)] w fun e w' => e = .returned (.tuple #[.int .i64 d, .bool true]) ∧ Below w.heap.size w w' := by
  have H := Lib.hid (l1Read_one (w := w) h9 (dig_size h9) (dig_at h9) rfl)
  generalize fmtN d = s at *
  go_enter Try.func139, Try.ntmps139
  go_wp2_with fail
  (with_reducible refine H.out.mono ?_)
  rintro e w2 ⟨rfl, hb2⟩
  have HB := Lib.hid hb2
  clear hb2 H
  go_wp2
  go_ret2
  exact ⟨rfl, HB.out⟩
end Go.Proofs.Ytcilgihmaaobeaa
end

section
namespace Go.Proofs.Ytcilgihmaaobeaa
open Go.RowKit Go.Deep Go.Sd
set_option linter.unusedSimpArgs false
set_option maxHeartbeats 1000000 in
set_option maxRecDepth 100000 in
theorem l1PickP_c {lo : Nat} {w : World} {cb bl : Nat} {K : Value} {xs : List Int} {rs : List Res} {ls : List ByteArray} {N c : Nat} (hK : ∀ w', Below lo w w' → BytR w' K xs) (hc : Cur lo w cb K xs.length (Res.box bl (ls.map Value.string) :: rs)) (hlo : lo ≤ w.heap.size) (hN : 1 ≤ N) (hNl : N ≤ ls.length) (hN2 : ls.length ≤ 256) :
    Calls Try.prog 122 #[.pointer (some ⟨cb, 0, none⟩), .slice (some ⟨bl, 0, none⟩) N c] w fun e w' => ∃ x : ByteArray, e = .returned (.string x) ∧ x ∈ ls ∧ Cur lo w' cb K xs.length (Res.box bl (ls.map Value.string) :: rs) ∧ Below lo w w' ∧ Off [cb] w w' := by
  have HB := Lib.hid (l1Below_c (N := N) hK hc hlo hN (by omega))
  have HNe := Lib.hid hNl
  have hN3 : N ≤ 256 := by omega
  clear hK hc hNl hN2
  go_enter Try.func122, Try.ntmps122
  go_wp2_with fail
  (with_reducible refine HB.out.mono ?_)
  rintro e w1 ⟨x, rfl, hx, hc, hb, ho⟩
  have HO := Lib.hid ho
  clear ho
  have hcell := (hc.out.headBox).2.2 x (.string (ls[x]'(by have := HNe.out; omega))) (by rw [List.getElem?_map, List.getElem?_eq_getElem (by have := HNe.out; omega)]; rfl)
  have g0 := hcell.1
  have Hm := Lib.hid (List.getElem_mem (l := ls) (n := x) (by have := HNe.out; omega))
  generalize ls[x]'(by have := HNe.out; omega) = y at g0 Hm
  have hxi : (x : Int) < (N : Int) := by omega
  have HC := Lib.hid hc
  have HBl := Lib.hid hb
  clear hc hb HB hcell
  go_wp2
  go_ret
  exact ⟨y, rfl, Hm.out, HC.out, HBl.out, HO.out⟩
/-- The three letters. -/
def abc3 : List ByteArray := [⟨#[97]⟩, ⟨#[98]⟩, ⟨#[99]⟩]
theorem abc3_size {x : ByteArray} (h : x ∈ abc3) : x.size = 1 := by
  simp only [abc3, List.mem_cons, List.not_mem_nil, or_false] at h
  rcases h with rfl | rfl | rfl <;> rfl
set_option maxHeartbeats 1000000 in
set_option maxRecDepth 100000 in
theorem l2Draw_c {lo : Nat} {w : World} {cb : Nat} {K : Value} {xs : List Int} {rs : List Res} {kk most : Nat} (hK : ∀ w', Below lo w w' → BytR w' K xs) (hc : Cur lo w cb K xs.length rs) (hlo : lo ≤ w.heap.size) (h1 : 1 ≤ kk) (h3 : kk ≤ 3) (hm : most ≤ 20) :
    Calls Try.prog 123 #[.pointer (some ⟨cb, 0, none⟩), .int .i64 kk, .int .i64 most] w fun e w' => ∃ s : ByteArray, e = .returned (.string s) ∧ s.size ≤ most ∧ Cur lo w' cb K xs.length rs ∧ Below lo w w' ∧ Off [cb] w w' := by
  have HK := Lib.hid hK
  have HB := Lib.hid (show Calls Try.prog 46 #[.pointer (some ⟨cb, 0, none⟩), .int .i64 ((most : Int) + 1)] w _ from l1Below_c (N := most + 1) hK hc hlo (by omega) (by omega))
  clear hK hc
  go_enter Try.func123, Try.ntmps123
  go_wp2_with fail
  (with_reducible refine HB.out.mono ?_)
  rintro e w1 ⟨x, rfl, hx, hc, hb, ho⟩
  have HC1 := Lib.hid hc
  have HB1 := Lib.hid hb
  have HO1 := Lib.hid ho
  have HX := Lib.hid (show (⟨#[]⟩ : ByteArray).size + x ≤ most from by have : (⟨#[]⟩ : ByteArray).size = 0 := rfl; omega)
  have hx2 : x ≤ 20 := by omega
  clear hc hb ho HB hx
  go_wp2
  go_loopg [7, 8] x (fun g sv nv wr => ∃ (u : ByteArray), sv = .string u ∧ nv = .int .i64 (g : Nat) ∧ g ≤ 20 ∧ Hid (u.size + g ≤ most) ∧ Hid (Cur lo wr cb K xs.length rs) ∧ Hid (Below lo w wr) ∧ Hid (Off [cb] w wr))
  case atStart => exact ⟨⟨#[]⟩, rfl, rfl, hx2, HX, HC1, HB1, HO1⟩
  case round =>
    clear HX HC1 HB1 HO1 hx2
    obtain ⟨u, rfl, rfl, hg, HU, HC, HB, HO⟩ := hrel
    obtain ⟨wk, rfl⟩ : ∃ x, x = wr := ⟨_, rfl⟩
    cases gk with
    | zero =>
      go_wp2
      go_ret
      exact ⟨u, rfl, by have := HU.out; omega, HC.out, HB.out, HO.out⟩
    | succ g =>
      have hg0 : (0 : Int) < ((g + 1 : Nat) : Int) := by omega
      have hzk : lo ≤ wk.heap.size := Nat.le_trans hlo HB.out.size
      have hus : u.size ≤ 20 := by have := HU.out; omega
      have hcx := Lib.hid (HC.out.box hzk (abc3.map Value.string) 9)
      obtain ⟨w2, e2⟩ : ∃ x, x = wk.alloc (.cells #[.string ⟨#[97]⟩, .string ⟨#[98]⟩, .string ⟨#[99]⟩] 9) := ⟨_, rfl⟩
      have HC2 := Lib.hid (show Cur lo w2 cb K xs.length (Res.box wk.heap.size (abc3.map Value.string) :: rs) from by rw [e2]; exact hcx.out)
      have hb2 : Below wk.heap.size wk w2 := by rw [e2]; exact (Below.refl _ _).alloc (Nat.le_refl _) _
      have HB2 := Lib.hid (HB.out.trans (hb2.mono hzk))
      have HO2 := Lib.hid (HO.out.trans (Off.of_below hb2))
      have hz2 : lo ≤ w2.heap.size := Nat.le_trans hzk hb2.size
      have HP := Lib.hid (l1PickP_c (N := kk) (c := 3) (ls := abc3) (fun w' hb => HK.out w' (HB2.out.trans hb)) HC2.out hz2 h1 h3 (by decide))
      have e2s := e2.symm
      have hk3 : (kk : Int) ≤ 3 := by omega
      have hk0 : (0 : Int) ≤ (kk : Int) := by omega
      clear hcx hb2 e2 HC
      go_wp2_with fail
      (with_reducible refine HP.out.mono ?_)
      rintro e w3 ⟨y, rfl, hy, hc, hb, ho⟩
      have hys := abc3_size hy
      have HC3 := Lib.hid hc.rest
      have HB3 := Lib.hid (HB2.out.trans hb)
      have HO3 := Lib.hid (HO2.out.trans ho)
      have HU3 := Lib.hid (show (u ++ y).size + g ≤ most from by have := HU.out; rw [bs_size, hys]; omega)
      have hy1 : y.size ≤ 1 := by omega
      clear hy hys hc hb ho e2s HP HC2 HO2 HU HB HO HB2
      go_wp2
      go_roundg g
      case measure => omega
      case rel => exact ⟨u ++ y, rfl, by go_num, by omega, HU3, HC3, HB3, HO3⟩
end Go.Proofs.Ytcilgihmaaobeaa
end

section
namespace Go.Proofs.Ytcilgihmaaobeaa
open Go.RowKit Go.Deep Go.Sd
abbrev Sh := Int × List ByteArray
/-- A slice of texts. -/
abbrev TsR : World → Value → List ByteArray → Prop := SlOf (ValR Value.string)
theorem TsR.frame : Framed TsR := SlOf.frame (fun _ _ _ _ h _ => h)
/-- Does a text occur in another? -/
def occB (w f : ByteArray) : Bool := Lib.contains w.data.toList f.data.toList
/-- Does a text begin at a place of another? -/
def occI (w f : ByteArray) (i : Nat) : Prop := i + f.size ≤ w.size ∧ w.extract i (i + f.size) = f
def avoM (F : List ByteArray) (w : ByteArray) : Bool := F.all fun f => !occB w f
theorem size_list (s : ByteArray) : s.data.toList.length = s.size := by show s.data.toList.length = s.data.size; exact Array.length_toList
theorem extract_list (w : ByteArray) (i j : Nat) : (w.extract i j).data.toList = (w.data.toList.drop i).take (j - i) := by
  simp [List.take_drop]
theorem occI_iff (w f : ByteArray) (i : Nat) (h : i + f.size ≤ w.size) : w.extract i (i + f.size) = f ↔ Lib.occAt w.data.toList f.data.toList i = true := by
  rw [Lib.occAt_iff_take _ _ _ (by rw [size_list, size_list]; exact h), beq_iff_eq, size_list]
  constructor
  · intro e
    have := congrArg (fun b : ByteArray => b.data.toList) e
    simp only [extract_list] at this
    rw [show i + f.size - i = f.size by omega] at this
    exact this
  · intro e
    apply ByteArray.ext
    apply Array.toList_inj.1
    rw [extract_list, show i + f.size - i = f.size by omega]
    exact e
theorem occB_iff (w f : ByteArray) : occB w f = true ↔ ∃ i, occI w f i := by
  unfold occB Lib.contains
  rw [decide_eq_true_eq]
  constructor
  · intro h
    rcases Lib.index_spec w.data.toList f.data.toList with ⟨h1, -⟩ | ⟨i, h1, h2, h3, -⟩
    · omega
    · have hr := Lib.index_room _ _ h
      rw [size_list, size_list] at hr
      have hle : i + f.size ≤ w.size := by omega
      exact ⟨i, hle, (occI_iff w f i hle).2 h3⟩
  · rintro ⟨i, h1, h2⟩
    have h3 := (occI_iff w f i h1).1 h2
    rcases Lib.index_spec w.data.toList f.data.toList with ⟨-, h4⟩ | ⟨j, h4, -⟩
    · have := h4 i (by rw [size_list]; omega)
      rw [this] at h3
      cases h3
    · omega
theorem occB_no {w f : ByteArray} (h : ∀ i, ¬ occI w f i) : occB w f = false := by
  cases e : occB w f with
  | false => rfl
  | true =>
    obtain ⟨i, hi⟩ := (occB_iff w f).1 e
    exact absurd hi (h i)
/-- A shift in memory. -/
def ShR (w : World) (v : Value) (s : Sh) : Prop := ∃ va, v = .agg #[.int .i64 s.1, va] ∧ TsR w va s.2
theorem ShR.frame : Framed ShR := fun _ _ _ _ ⟨va, e, h⟩ hb => ⟨va, e, TsR.frame _ _ _ _ h hb⟩
theorem toList_data (s : ByteArray) : s.toList = s.data.toList := ByteArray.toList_eq s
theorem bytes_ext {a b : ByteArray} (h : a.toList = b.toList) : a = b := by
  rw [toList_data, toList_data] at h
  exact ByteArray.ext (Array.toList_inj.1 h)
/-- Is a text among some? -/
def hasB (F : List ByteArray) (s : ByteArray) : Bool := F.any fun f => f.toList == s.toList
theorem hasB_iff (F : List ByteArray) (s : ByteArray) : hasB F s = true ↔ s ∈ F := by
  unfold hasB
  rw [List.any_eq_true]
  constructor
  · rintro ⟨f, hf, he⟩
    rw [beq_iff_eq] at he
    rw [← bytes_ext he]
    exact hf
  · intro h
    exact ⟨s, h, by simp⟩
theorem hasB_yes {F : List ByteArray} {s : ByteArray} (h : s ∈ F) : hasB F s = true := (hasB_iff F s).2 h
theorem hasB_no {F : List ByteArray} {s : ByteArray} (h : ∀ (k : Nat) (f : ByteArray), F[k]? = some f → f ≠ s) : hasB F s = false := by
  cases e : hasB F s with
  | false => rfl
  | true =>
    obtain ⟨k, hk⟩ := List.getElem?_of_mem ((hasB_iff F s).1 e)
    exact absurd rfl (h k s hk)
end Go.Proofs.Ytcilgihmaaobeaa
end

section
namespace Go.Proofs.Ytcilgihmaaobeaa
open Go.RowKit Go.Deep Go.Sd
set_option linter.unusedSimpArgs false
/-- A shift of the call's own. -/
def OSh : OwnRel Sh := fun w v z F => ∃ va, v = .agg #[.int .i64 z.1, va] ∧ OStrs w va z.2 F
theorem OSh.held : Held OSh :=
  ⟨fun w w' v x F ⟨va, e, h⟩ hk => ⟨va, e, OStrs.held.keep _ _ _ _ _ h hk⟩, fun w v x F ⟨_, _, h⟩ b hb => OStrs.held.lt _ _ _ _ h b hb⟩
theorem OSh.reads {w : World} {v : Value} {z : Sh} {F : List Nat} (h : OSh w v z F) : ShR w v z := by
  obtain ⟨va, e, h⟩ := h
  exact ⟨va, e, OwnOf.reads (fun _ _ _ _ h => h.1) h⟩
theorem New.sh {lo : Nat} {w : World} {v : Value} {z : Sh} (h : New OSh lo w v z) : ShR w v z := by obtain ⟨F, h, _⟩ := h; exact h.reads
end Go.Proofs.Ytcilgihmaaobeaa
end

section
namespace Go.Proofs.Ytcilgihmaaobeaa
open Go.RowKit Go.Deep Go.Sd
set_option linter.unusedSimpArgs false
set_option maxHeartbeats 1000000 in
set_option maxRecDepth 100000 in
theorem OccursIn_c {w : World} (s f : ByteArray) (hs : s.size ≤ 1000) (hf : f.size ≤ 1048576) :
    Calls Try.prog 103 #[.string s, .string f] w fun e w' => e = .returned (.bool (occB s f)) ∧ w = w' := by
  have HT := Lib.hid (fun i (h : occI s f i) => (occB_iff s f).2 ⟨i, h⟩)
  have HF := Lib.hid (fun (h : ∀ i, ¬ occI s f i) => occB_no h)
  generalize occB s f = T at HT HF ⊢
  go_enter Try.func103, Try.ntmps103
  go_wp2
  go_loopg [5] (s.size + 1) (fun g i wr => ∃ (j : Nat), i = .int .i64 j ∧ j + g = s.size + 1 ∧ Hid (∀ k, k < j → ¬ occI s f k) ∧ w = wr)
  case atStart => exact ⟨0, rfl, by omega, Lib.hid (fun k hk => absurd hk (Nat.not_lt_zero _)), rfl⟩
  case round =>
    obtain ⟨j, rfl, hj, HK, rfl⟩ := hrel
    by_cases h1 : j + f.size ≤ s.size
    · have h1i : (j : Int) + (f.size : Int) ≤ (s.size : Int) := by omega
      obtain ⟨g, rfl⟩ : ∃ x, gk = x + 1 := ⟨gk - 1, by omega⟩
      have hj1 : (0 : Int) ≤ (j : Int) := by omega
      have hj2 : (j : Int) ≤ (j : Int) + (f.size : Int) := by omega
      have hj3 : (0 : Int) ≤ (j : Int) + (f.size : Int) := by omega
      have hjn : ((j : Int) + (f.size : Int)).toNat = j + f.size := by omega
      by_cases h2 : s.extract j (j + f.size) = f
      · have hd : ((s.extract j (j + f.size)).toList == f.toList) = true := by rw [h2]; simp
        have hT := Lib.hid (HT.out j ⟨h1, h2⟩)
        go_wp2
        go_ret
        exact ⟨by rw [hT.out]; rfl, rfl⟩
      · have hK2 := Lib.hid (show ∀ k, k < j + 1 → ¬ occI s f k from fun k hk => by
          by_cases e : k = j
          · rw [e]; exact fun h => h2 h.2
          · exact HK.out k (by omega))
        have hd : ((s.extract j (j + f.size)).toList == f.toList) = false := by
          rw [beq_eq_false_iff_ne]
          exact fun e => h2 (bytes_ext e)
        clear HK
        go_wp2
        go_roundg g
        case measure => omega
        case rel => exact ⟨j + 1, by go_num, by omega, hK2, rfl⟩
    · have h1i : ¬ (j : Int) + (f.size : Int) ≤ (s.size : Int) := by omega
      have hT := Lib.hid (HF.out fun i h => by
        by_cases e : i < j
        · exact HK.out i e h
        · exact h1 (by have := h.1; omega))
      clear HK
      go_wp2
      go_ret
      exact ⟨by rw [hT.out]; rfl, rfl⟩
set_option maxHeartbeats 1000000 in
theorem l3Avoids_c {w : World} {v : Value} {F : List ByteArray} {s : ByteArray} (h : TsR w v F) (hs : s.size ≤ 1000) (hf : ∀ f, f ∈ F → f.size ≤ 1048576) :
    Calls Try.prog 88 #[v, .string s] w fun e w' => e = .returned (.bool (avoM F s)) ∧ w = w' := by
  have hlen := h.len
  obtain ⟨a, c, rfl, -, -, hcell⟩ := h.shape
  have HT := Lib.hid (fun (h : ∀ (k : Nat) (f : ByteArray), F[k]? = some f → occB s f = false) => (show avoM F s = true from List.all_eq_true.2 fun f hf => by
    obtain ⟨k, hk⟩ := List.getElem?_of_mem hf
    rw [h k f hk]; rfl))
  have HF := Lib.hid (fun k f (h : F[k]? = some f) (h2 : occB s f = true) => (show avoM F s = false from by
    unfold avoM
    rw [List.all_eq_false]
    exact ⟨f, List.mem_of_getElem? h, by rw [h2]; decide⟩))
  have HC := Lib.hid (fun k f (h : F[k]? = some f) => OccursIn_c (w := w) s f hs (hf f (List.mem_of_getElem? h)))
  generalize avoM F s = T at HT HF ⊢
  obtain ⟨n, hn⟩ : ∃ n, n = F.length := ⟨_, rfl⟩
  have Hn := Lib.hid hn
  rw [← hn] at hcell hlen ⊢
  clear h hf hn
  have Hcell := Lib.hid hcell
  clear hcell
  go_enter Try.func88, Try.ntmps88
  go_wp2
  go_loopg [5] n (fun g i wr => ∃ (j : Nat), i = .int .i64 j ∧ j + g = n ∧ Hid (∀ k f, k < j → F[k]? = some f → occB s f = false) ∧ w = wr)
  case atStart => exact ⟨0, rfl, by omega, Lib.hid (fun k f hk => absurd hk (Nat.not_lt_zero _)), rfl⟩
  case round =>
    obtain ⟨j, rfl, hj, HK, rfl⟩ := hrel
    by_cases h1 : j < n
    · have h1i : (j : Int) < (n : Int) := by omega
      obtain ⟨g, rfl⟩ : ∃ x, gk = x + 1 := ⟨gk - 1, by omega⟩
      obtain ⟨b, o, rfl, -, hx⟩ := Hcell.out (by omega)
      obtain ⟨f, hf, -⟩ := at_lt (xs := F) (k := j) (by rw [← Hn.out]; exact h1)
      obtain ⟨u, hu, hu2⟩ := hx j f hf
      have hu2' : u = .string f := hu2
      subst hu2'
      have HC1 := Lib.hid (HC.out j f hf)
      cases ho : occB s f with
      | true =>
        have hT := Lib.hid (HF.out j f hf ho)
        rw [ho] at HC1
        clear hx hf hu2 ho
        go_wp2_with fail
        (with_reducible refine HC1.out.mono ?_)
        rintro e w9 ⟨rfl, hw9⟩
        rw [← hw9]
        clear hw9 w9
        go_wp2
        go_ret
        exact ⟨by rw [hT.out]; rfl, rfl⟩
      | false =>
        have hK2 := Lib.hid (show ∀ k f, k < j + 1 → F[k]? = some f → occB s f = false from fun k f' hk hf' => by
          by_cases e : k = j
          · rw [e, hf] at hf'
            cases hf'
            exact ho
          · exact HK.out k f' (by omega) hf')
        rw [ho] at HC1
        clear hx hf hu2 ho HK
        go_wp2_with fail
        (with_reducible refine HC1.out.mono ?_)
        rintro e w9 ⟨rfl, hw9⟩
        rw [← hw9]
        clear hw9 w9
        go_wp2
        go_roundg g
        case measure => omega
        case rel => exact ⟨j + 1, by go_num, by omega, hK2, rfl⟩
    · have h1i : ¬ (j : Int) < (n : Int) := by omega
      have hT := Lib.hid (HT.out fun k f hk => HK.out k f (by have := (List.getElem?_eq_some_iff.1 hk).1; rw [← Hn.out] at this; omega) hk)
      clear HK
      go_wp2
      go_ret
      exact ⟨by rw [hT.out]; rfl, rfl⟩
set_option maxHeartbeats 1000000 in
theorem l2HasText_c {w : World} {v : Value} {F : List ByteArray} {s : ByteArray} (h : TsR w v F) :
    Calls Try.prog 127 #[v, .string s] w fun e w' => e = .returned (.bool (hasB F s)) ∧ w = w' := by
  have hlen := h.len
  obtain ⟨a, c, rfl, -, -, hcell⟩ := h.shape
  have HT := Lib.hid (fun (h : ∀ (k : Nat) (f : ByteArray), F[k]? = some f → f ≠ s) => (show hasB F s = false from hasB_no h))
  have HF := Lib.hid (fun k (h : F[k]? = some s) => (show hasB F s = true from hasB_yes (List.mem_of_getElem? h)))
  generalize hasB F s = T at HT HF ⊢
  obtain ⟨n, hn⟩ : ∃ n, n = F.length := ⟨_, rfl⟩
  have Hn := Lib.hid hn
  rw [← hn] at hcell hlen ⊢
  clear h hn
  have Hcell := Lib.hid hcell
  clear hcell
  go_enter Try.func127, Try.ntmps127
  go_wp2
  go_loopg [5] n (fun g i wr => ∃ (j : Nat), i = .int .i64 j ∧ j + g = n ∧ Hid (∀ k f, k < j → F[k]? = some f → f ≠ s) ∧ w = wr)
  case atStart => exact ⟨0, rfl, by omega, Lib.hid (fun k f hk => absurd hk (Nat.not_lt_zero _)), rfl⟩
  case round =>
    obtain ⟨j, rfl, hj, HK, rfl⟩ := hrel
    by_cases h1 : j < n
    · have h1i : (j : Int) < (n : Int) := by omega
      obtain ⟨g, rfl⟩ : ∃ x, gk = x + 1 := ⟨gk - 1, by omega⟩
      obtain ⟨b, o, rfl, -, hx⟩ := Hcell.out (by omega)
      obtain ⟨f, hf, -⟩ := at_lt (xs := F) (k := j) (by rw [← Hn.out]; exact h1)
      obtain ⟨u, hu, hu2⟩ := hx j f hf
      have hu2' : u = .string f := hu2
      subst hu2'
      by_cases ho : f = s
      · subst ho
        have hT := Lib.hid (HF.out j hf)
        have hd : (f.toList == f.toList) = true := by simp
        clear hx hf hu2
        go_wp2
        go_ret
        exact ⟨by rw [hT.out]; rfl, rfl⟩
      · have hK2 := Lib.hid (show ∀ k f, k < j + 1 → F[k]? = some f → f ≠ s from fun k f' hk hf' => by
          by_cases e : k = j
          · rw [e, hf] at hf'
            cases hf'
            exact ho
          · exact HK.out k f' (by omega) hf')
        have hd : (f.toList == s.toList) = false := by
          rw [beq_eq_false_iff_ne]
          exact fun e => ho (bytes_ext e)
        clear hx hf hu2 HK
        go_wp2
        go_roundg g
        case measure => omega
        case rel => exact ⟨j + 1, by go_num, by omega, hK2, rfl⟩
    · have h1i : ¬ (j : Int) < (n : Int) := by omega
      have hT := Lib.hid (HT.out fun k f hk => HK.out k f (by have := (List.getElem?_eq_some_iff.1 hk).1; rw [← Hn.out] at this; omega) hk)
      clear HK
      go_wp2
      go_ret
      exact ⟨by rw [hT.out]; rfl, rfl⟩
end Go.Proofs.Ytcilgihmaaobeaa
end

section
namespace Go.Proofs.Ytcilgihmaaobeaa
open Go.RowKit Go.Deep Go.Sd
set_option linter.unusedSimpArgs false
/-- A word that may stand at a place of a shift's list. -/
def wdOk (L : Int) (F : List ByteArray) (k : Nat) (f : ByteArray) : Prop := letB L f.data.toList = true ∧ 1 ≤ f.size ∧ f.size ≤ 3 ∧ (0 < k → ∀ p, F[k - 1]? = some p → Op.bytesLess p.toList f.toList = true)
def shiftP (s : Sh) : Prop := (1 ≤ s.1 ∧ s.1 ≤ 3) ∧ s.2.length ≤ 8 ∧ ∀ (k : Nat) (f : ByteArray), s.2[k]? = some f → wdOk s.1 s.2 k f
open Classical in
noncomputable def shiftM (s : Sh) : Bool := decide (shiftP s)
open Classical in
theorem shiftM_yes {s : Sh} (h : shiftP s) : shiftM s = true := by unfold shiftM; exact decide_eq_true h
open Classical in
theorem shiftM_no {s : Sh} (h : ¬ shiftP s) : shiftM s = false := by unfold shiftM; exact decide_eq_false h
open Classical in
theorem shiftM_of {s : Sh} (h : shiftM s = true) : shiftP s := by unfold shiftM at h; exact of_decide_eq_true h
set_option maxHeartbeats 2000000 in
set_option maxRecDepth 100000 in
theorem spec_IsShift_c {w : World} {v : Value} {s : Sh} (h : ShR w v s) (hb : ∀ f, f ∈ s.2 → f.size ≤ 1048576) :
    Calls Try.prog 104 #[v] w fun e w' => e = .returned (.bool (shiftM s)) ∧ Below w.heap.size w w' := by
  obtain ⟨L, F⟩ := s
  obtain ⟨va, rfl, ht⟩ := h
  have HY := Lib.hid (fun h => shiftM_yes (s := (L, F)) h)
  have HN := Lib.hid (fun h => shiftM_no (s := (L, F)) h)
  generalize shiftM (L, F) = T at HY HN ⊢
  simp only at ht hb
  obtain ⟨w0, e0, hb0, c0, c1, m0⟩ := boxA_ex w 44 (.int .i64 L) va
  have ht0 := TsR.frame _ _ _ _ ht hb0
  have hlen := ht0.len
  obtain ⟨a, c, rfl, -, -, hcell⟩ := ht0.shape
  obtain ⟨n, hn⟩ : ∃ n, n = F.length := ⟨_, rfl⟩
  have Hn := Lib.hid hn
  rw [← hn] at hcell hlen c1 e0 ⊢
  have Hcell := Lib.hid hcell
  have HBf := Lib.hid hb
  have HB := Lib.hid hb0
  have HW := Lib.hid (fun f (hf : f ∈ F) => spec_IsWord_c L f w0 (by have := hb f hf; unfold maxLen; omega))
  clear hcell hn ht ht0 hb hb0
  go_enter Try.func104, Try.ntmps104
  go_wp2
  go_loopg [3] n (fun g i wr => ∃ (j : Nat), i = .int .i64 j ∧ j + g = n ∧ Hid (∀ k f, k < j → F[k]? = some f → (1 ≤ L ∧ L ≤ 3) ∧ wdOk L F k f) ∧ w0 = wr)
  case atStart => exact ⟨0, rfl, by omega, Lib.hid (fun k f hk => absurd hk (Nat.not_lt_zero _)), rfl⟩
  case round =>
    obtain ⟨j, rfl, hj, HK, rfl⟩ := hrel
    by_cases h1 : j < n
    · have h1i : (j : Int) < (n : Int) := by omega
      obtain ⟨g, rfl⟩ : ∃ x, gk = x + 1 := ⟨gk - 1, by omega⟩
      obtain ⟨b, o, rfl, -, hx⟩ := Hcell.out (by omega)
      obtain ⟨f, hf, -⟩ := at_lt (xs := F) (k := j) (by rw [← Hn.out]; exact h1)
      obtain ⟨u, hu, hu2⟩ := hx j f hf
      have hu2' : u = .string f := hu2
      subst hu2'
      have HW1 := Lib.hid (HW.out f (List.mem_of_getElem? hf))
      have hfs := HBf.out f (List.mem_of_getElem? hf)
      have HI := Lib.hid (l1In_c (f.size : Int) 1 3 w0)
      have Hf := Lib.hid hf
      clear hu2
      cases hw : wordM L f with
      | false =>
        have hT := Lib.hid (HN.out fun h => by
          have h2 := h.2.2 j f hf
          unfold wordM at hw
          rw [h2.1, decide_eq_true (show 1 ≤ L ∧ L ≤ 3 from h.1), decide_eq_true (show f.size ≤ 16 by have := h2.2.2.1; omega)] at hw
          exact absurd hw (by decide))
        rw [hw] at HW1
        clear hf hx hw
        go_wp2_with fail
        (with_reducible refine HW1.out.mono ?_)
        rintro e w9 ⟨rfl, hw9⟩
        rw [← hw9]
        clear hw9 w9
        go_wp2
        go_ret
        exact ⟨by rw [hT.out]; rfl, HB.out⟩
      | true =>
        have hwd : (1 ≤ L ∧ L ≤ 3) ∧ letB L f.data.toList = true := by
          unfold wordM at hw
          simp only [Bool.and_eq_true, decide_eq_true_eq] at hw
          exact ⟨hw.1, hw.2.2⟩
        rw [hw] at HW1
        clear hw
        by_cases h13 : 1 ≤ f.size ∧ f.size ≤ 3
        · rw [decide_eq_true (show (1 : Int) ≤ (f.size : Int) by omega), decide_eq_true (show (f.size : Int) ≤ 3 by omega)] at HI
          by_cases hj0 : 0 < j
          · have hj0i : (0 : Int) < (j : Int) := by omega
            obtain ⟨p, hp, -⟩ := at_lt (xs := F) (k := j - 1) (by rw [← Hn.out]; omega)
            obtain ⟨u, hv, hv2⟩ := hx (j - 1) p hp
            have hv2' : u = .string p := hv2
            subst hv2'
            have hjm : ((j : Int) - 1).toNat = j - 1 := by omega
            have hj1 : (0 : Int) ≤ (j : Int) - 1 := by omega
            have hj2 : (j : Int) - 1 < (n : Int) := by omega
            cases hl : Op.bytesLess p.toList f.toList with
            | false =>
              have hT := Lib.hid (HN.out fun h => by
                have h2 := (h.2.2 j f hf).2.2.2 hj0 p hp
                rw [hl] at h2
                cases h2)
              clear hf hx hv2 hp
              go_wp2_with fail
              (with_reducible refine HW1.out.mono ?_)
              rintro e w9 ⟨rfl, hw9⟩
              rw [← hw9]
              clear hw9 w9
              go_wp2_with fail
              (with_reducible refine HI.out.mono ?_)
              rintro e w9 ⟨rfl, hw9⟩
              rw [← hw9]
              clear hw9 w9
              go_wp2
              go_ret
              exact ⟨by rw [hT.out]; rfl, HB.out⟩
            | true =>
              have hK2 := Lib.hid (show ∀ k f, k < j + 1 → F[k]? = some f → (1 ≤ L ∧ L ≤ 3) ∧ wdOk L F k f from fun k f' hk hf' => by
                by_cases e : k = j
                · rw [e, hf] at hf'
                  cases hf'
                  rw [e]
                  exact ⟨hwd.1, hwd.2, h13.1, h13.2, fun _ p' hp' => by rw [hp] at hp'; cases hp'; exact hl⟩
                · exact HK.out k f' (by omega) hf')
              clear hf hx hv2 hp HK hwd
              go_wp2_with fail
              (with_reducible refine HW1.out.mono ?_)
              rintro e w9 ⟨rfl, hw9⟩
              rw [← hw9]
              clear hw9 w9
              go_wp2_with fail
              (with_reducible refine HI.out.mono ?_)
              rintro e w9 ⟨rfl, hw9⟩
              rw [← hw9]
              clear hw9 w9
              go_wp2
              go_roundg g
              case measure => omega
              case rel => exact ⟨j + 1, by go_num, by omega, hK2, rfl⟩
          · obtain rfl : j = 0 := by omega
            have hK2 := Lib.hid (show ∀ k f, k < 0 + 1 → F[k]? = some f → (1 ≤ L ∧ L ≤ 3) ∧ wdOk L F k f from fun k f' hk hf' => by
              obtain rfl : k = 0 := by omega
              rw [hf] at hf'
              cases hf'
              exact ⟨hwd.1, hwd.2, h13.1, h13.2, fun h => absurd h (Nat.not_lt_zero _)⟩)
            clear hf hx HK hwd
            rw [Nat.add_zero] at hu
            have hz : ¬ (0 : Int) < ((0 : Nat) : Int) := by omega
            go_wp2_with fail
            (with_reducible refine HW1.out.mono ?_)
            rintro e w9 ⟨rfl, hw9⟩
            rw [← hw9]
            clear hw9 w9
            go_wp2_with fail
            (with_reducible refine HI.out.mono ?_)
            rintro e w9 ⟨rfl, hw9⟩
            rw [← hw9]
            clear hw9 w9
            go_wp2
            go_roundg g
            case measure => omega
            case rel => exact ⟨0 + 1, by go_num, by omega, hK2, rfl⟩
        · have hT := Lib.hid (HN.out fun h => by
            have h2 := h.2.2 j f hf
            exact h13 ⟨h2.2.1, h2.2.2.1⟩)
          rw [show (decide ((1 : Int) ≤ (f.size : Int)) && decide ((f.size : Int) ≤ 3)) = false from by rw [← Bool.decide_and]; exact decide_eq_false (by omega)] at HI
          clear hf hx
          go_wp2_with fail
          (with_reducible refine HW1.out.mono ?_)
          rintro e w9 ⟨rfl, hw9⟩
          rw [← hw9]
          clear hw9 w9
          go_wp2_with fail
          (with_reducible refine HI.out.mono ?_)
          rintro e w9 ⟨rfl, hw9⟩
          rw [← hw9]
          clear hw9 w9
          go_wp2
          go_ret
          exact ⟨by rw [hT.out]; rfl, HB.out⟩
    · have h1i : ¬ (j : Int) < (n : Int) := by omega
      have HI := Lib.hid (l1In_c L 1 3 w0)
      have hall : ∀ k f, F[k]? = some f → wdOk L F k f := fun k f hk => (HK.out k f (by have := (List.getElem?_eq_some_iff.1 hk).1; rw [← Hn.out] at this; omega) hk).2
      by_cases hL : 1 ≤ L ∧ L ≤ 3
      · rw [decide_eq_true hL.1, decide_eq_true hL.2] at HI
        by_cases h8 : n ≤ 8
        · have h8i : (n : Int) ≤ 8 := by omega
          have hd8 : decide ((n : Int) ≤ 8) = true := decide_eq_true h8i
          have hT := Lib.hid (HY.out ⟨hL, by rw [← Hn.out]; exact h8, hall⟩)
          clear hall HK
          go_wp2_with fail
          (with_reducible refine HI.out.mono ?_)
          rintro e w9 ⟨rfl, hw9⟩
          rw [← hw9]
          clear hw9 w9
          go_wp2
          go_ret
          exact ⟨by rw [hT.out]; rfl, HB.out⟩
        · have h8i : ¬ (n : Int) ≤ 8 := by omega
          have hd8 : decide ((n : Int) ≤ 8) = false := decide_eq_false h8i
          have hT := Lib.hid (HN.out fun h => h8 (by rw [Hn.out]; exact h.2.1))
          clear hall HK
          go_wp2_with fail
          (with_reducible refine HI.out.mono ?_)
          rintro e w9 ⟨rfl, hw9⟩
          rw [← hw9]
          clear hw9 w9
          go_wp2
          go_ret
          exact ⟨by rw [hT.out]; rfl, HB.out⟩
      · have hT := Lib.hid (HN.out fun h => hL h.1)
        rw [show (decide (1 ≤ L) && decide (L ≤ 3)) = false from by rw [← Bool.decide_and]; exact decide_eq_false hL] at HI
        clear hall HK
        go_wp2_with fail
        (with_reducible refine HI.out.mono ?_)
        rintro e w9 ⟨rfl, hw9⟩
        rw [← hw9]
        clear hw9 w9
        go_wp2
        go_ret
        exact ⟨by rw [hT.out]; rfl, HB.out⟩
end Go.Proofs.Ytcilgihmaaobeaa
end

section
namespace Go.Sd
open Go.RowKit Go.Deep
def Clos (E : Nat → Nat → Prop) (n : Nat) (S : Nat → Prop) : Prop := ∀ i, S i → i < n ∧ (∃ j, S j ∧ E i j) ∧ ∃ j, S j ∧ E j i
def Gr (E : Nat → Nat → Prop) (n : Nat) (i : Nat) : Prop := ∃ S, Clos E n S ∧ S i
open Classical in
noncomputable def liveL (E : Nat → Nat → Prop) (n : Nat) : List Bool := (List.range n).map fun i => decide (Gr E n i)
def On (l : List Bool) (i : Nat) : Prop := l[i]? = some true
def Sup (E : Nat → Nat → Prop) (n : Nat) (l : List Bool) : Prop := l.length = n ∧ ∀ i, Gr E n i → On l i
def Both (E : Nat → Nat → Prop) (l : List Bool) (i : Nat) : Prop := (∃ j, On l j ∧ E i j) ∧ ∃ j, On l j ∧ E j i
def cntT (l : List Bool) : Nat := l.countP id
section
variable {E : Nat → Nat → Prop} {n : Nat} {l l' : List Bool}
theorem On.lt {i : Nat} (h : On l i) : i < l.length := (List.getElem?_eq_some_iff.1 h).1
theorem Gr.both {i : Nat} (h : Gr E n i) : i < n ∧ (∃ j, Gr E n j ∧ E i j) ∧ ∃ j, Gr E n j ∧ E j i := by
  obtain ⟨S, hS, hi⟩ := h
  obtain ⟨h1, ⟨j, hj, he⟩, k, hk, hf⟩ := hS i hi
  exact ⟨h1, ⟨j, ⟨S, hS, hj⟩, he⟩, k, ⟨S, hS, hk⟩, hf⟩
theorem liveL_len : (liveL E n).length = n := by simp [liveL]
theorem live_of (h : Sup E n l) (hc : Clos E n (On l)) : l = liveL E n := by
  apply List.ext_getElem?
  intro i
  by_cases hi : i < n
  · have h1 : (liveL E n)[i]? = some (@decide (Gr E n i) (Classical.propDecidable _)) := by simp [liveL, hi]
    rw [h1]
    by_cases hg : Gr E n i
    · rw [h.2 i hg]; simp [hg]
    · have hl : i < l.length := by rw [h.1]; exact hi
      rw [List.getElem?_eq_getElem hl]
      cases hb : l[i] with
      | false => simp [hg]
      | true =>
        exact absurd ⟨On l, hc, by unfold On; rw [List.getElem?_eq_getElem hl, hb]⟩ hg
  · rw [List.getElem?_eq_none (by rw [h.1]; omega), List.getElem?_eq_none (by rw [liveL_len]; omega)]
theorem Sup.start : Sup E n (List.replicate n true) := by
  refine ⟨by simp, fun i hi => ?_⟩
  unfold On
  rw [List.getElem?_replicate, if_pos hi.both.1]
theorem Sup.both (h : Sup E n l) {i : Nat} (hi : Gr E n i) : Both E l i := by
  obtain ⟨_, ⟨j, hj, he⟩, k, hk, hf⟩ := hi.both
  exact ⟨⟨j, h.2 j hj, he⟩, k, h.2 k hk, hf⟩
theorem Sup.unset (h : Sup E n l) {i : Nat} (hi : ¬ Both E l i) : Sup E n (l.set i false) := by
  refine ⟨by rw [List.length_set]; exact h.1, fun j hj => ?_⟩
  have hne : i ≠ j := fun e => hi (e ▸ h.both hj)
  unfold On
  rw [List.getElem?_set_ne hne]
  exact h.2 j hj
theorem cntT_replicate : cntT (List.replicate n true) = n := by
  unfold cntT; simp [List.countP_replicate]
theorem cntT_le : cntT l ≤ l.length := List.countP_le_length
theorem cntT_unset : ∀ {l : List Bool} {i : Nat}, On l i → cntT (l.set i false) + 1 = cntT l
  | [], i, h => by simp [On] at h
  | b :: l, 0, h => by
    simp [On] at h
    subst h
    simp [cntT]
  | b :: l, i + 1, h => by
    have h2 : On l i := by simpa [On] using h
    have := cntT_unset (l := l) (i := i) h2
    unfold cntT at this ⊢
    simp only [List.set_cons_succ, List.countP_cons]
    omega
/-- A smaller set has fewer. -/
theorem cntT_mono : ∀ {l l' : List Bool}, l'.length = l.length → (∀ i, On l' i → On l i) → cntT l' ≤ cntT l ∧ (cntT l' = cntT l → l' = l)
  | [], [], _, _ => ⟨Nat.le_refl _, fun _ => rfl⟩
  | [], _ :: _, h, _ => by simp at h
  | _ :: _, [], h, _ => by simp at h
  | b :: l, b' :: l', h, hs => by
    have ih := cntT_mono (l := l) (l' := l') (by simpa using h) (fun i hi => by simpa [On] using hs (i + 1) (by simpa [On] using hi))
    have h0 : b' = true → b = true := fun e => by have := hs 0 (by simp [On, e]); simpa [On] using this
    unfold cntT at ih ⊢
    simp only [List.countP_cons, id]
    cases b <;> cases b'
    · simp only [Bool.false_eq_true, if_false]
      exact ⟨by omega, fun e => by rw [ih.2 (by omega)]⟩
    · exact absurd (h0 rfl) (by simp)
    · simp only [Bool.false_eq_true, if_false, if_true]
      exact ⟨by omega, fun e => by omega⟩
    · simp only [if_true]
      exact ⟨by omega, fun e => by rw [ih.2 (by omega)]⟩
/-- All at once: who lacks an arc goes. -/
def Rnd (E : Nat → Nat → Prop) (l l' : List Bool) : Prop := l'.length = l.length ∧ ∀ i, On l' i ↔ On l i ∧ Both E l i
/-- After k rounds: it is found, or k are gone. -/
def Inv (E : Nat → Nat → Prop) (n k : Nat) (l : List Bool) : Prop := Sup E n l ∧ (Clos E n (On l) ∨ cntT l + k ≤ n)
theorem Inv.start : Inv E n 0 (List.replicate n true) := ⟨Sup.start, .inr (by rw [cntT_replicate]; omega)⟩
theorem Inv.step {k : Nat} (h : Inv E n k l) (hr : Rnd E l l') : Inv E n (k + 1) l' := by
  obtain ⟨hs, hc⟩ := h
  have hs' : Sup E n l' := ⟨hr.1.trans hs.1, fun i hi => (hr.2 i).2 ⟨hs.2 i hi, hs.both hi⟩⟩
  have hm := cntT_mono hr.1 (fun i hi => ((hr.2 i).1 hi).1)
  refine ⟨hs', ?_⟩
  by_cases e : l' = l
  · refine .inl fun i hi => ?_
    have hb := ((hr.2 i).1 hi).2
    rw [← e] at hb
    exact ⟨by rw [← hs'.1]; exact hi.lt, hb.1, hb.2⟩
  · rcases hc with hc | hc
    · exact absurd (hm.2 (by
        have h2 : l' = l := by
          apply List.ext_getElem?
          intro i
          by_cases hi : i < l.length
          · have h1 : On l i → On l' i := fun h => (hr.2 i).2 ⟨h, (hc i h).2⟩
            have h2 : On l' i → On l i := fun h => ((hr.2 i).1 h).1
            unfold On at h1 h2
            rw [List.getElem?_eq_getElem hi, List.getElem?_eq_getElem (by rw [hr.1]; exact hi)] at h1 h2 ⊢
            cases hb : l[i] <;> cases hb' : l'[i]'(by rw [hr.1]; exact hi) <;> simp_all
          · rw [List.getElem?_eq_none (by rw [hr.1]; omega), List.getElem?_eq_none (by omega)]
        rw [h2])) e
    · right
      have : cntT l' ≠ cntT l := fun h => e (hm.2 h)
      omega
theorem Inv.end (h : Inv E n n l) : l = liveL E n := by
  refine live_of h.1 ?_
  rcases h.2 with hc | hc
  · exact hc
  · intro i hi
    have h0 := cntT_unset (l := l) (i := i) hi
    omega
/-- One after the other: a pass over the first i. -/
def Pas (E : Nat → Nat → Prop) (n : Nat) (l0 : List Bool) (i : Nat) (l : List Bool) (ch : Bool) : Prop :=
  Sup E n l ∧ (ch = false → l = l0 ∧ ∀ j, j < i → On l0 j → Both E l0 j) ∧ (ch = true → cntT l < cntT l0)
theorem Pas.start {l0 : List Bool} (h : Sup E n l0) : Pas E n l0 0 l0 false := ⟨h, fun _ => ⟨rfl, fun j hj => absurd hj (Nat.not_lt_zero _)⟩, fun h => by cases h⟩
theorem Pas.keep {l0 : List Bool} {i : Nat} {ch : Bool} (h : Pas E n l0 i l ch) (hi : On l i → Both E l i) : Pas E n l0 (i + 1) l ch := by
  refine ⟨h.1, fun hc => ?_, h.2.2⟩
  obtain ⟨e, hb⟩ := h.2.1 hc
  refine ⟨e, fun j hj hon => ?_⟩
  by_cases hji : j < i
  · exact hb j hji hon
  · obtain rfl : j = i := by omega
    rw [← e] at hon ⊢
    exact hi hon
theorem Pas.unset {l0 : List Bool} {i : Nat} {ch : Bool} (h : Pas E n l0 i l ch) (hi : On l i) (hb : ¬ Both E l i) : Pas E n l0 (i + 1) (l.set i false) true := by
  refine ⟨h.1.unset hb, (fun hc => by cases hc), fun _ => ?_⟩
  have h1 := cntT_unset hi
  cases ch with
  | false => rw [(h.2.1 rfl).1] at h1 ⊢; omega
  | true => have := h.2.2 rfl; omega
theorem Pas.end {l0 : List Bool} (h : Pas E n l0 n l false) : l = liveL E n := by
  obtain ⟨rfl, hb⟩ := h.2.1 rfl
  refine live_of h.1 fun i hi => ?_
  have hlt : i < n := by rw [← h.1.1]; exact hi.lt
  exact ⟨hlt, (hb i hlt hi).1, (hb i hlt hi).2⟩
theorem Pas.less {l0 : List Bool} (h : Pas E n l0 n l true) : Sup E n l ∧ cntT l < cntT l0 := ⟨h.1, h.2.2 rfl⟩
end
end Go.Sd
end
