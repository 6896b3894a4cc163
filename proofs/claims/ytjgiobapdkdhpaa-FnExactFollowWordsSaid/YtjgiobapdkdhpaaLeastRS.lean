/-
  LeastRank, the reference's.
-/
import Derived.Test.YtjgiobapdkdhpaaRows
import Derived.Test.YtjgiobapdkdhpaaBase
import Derived.Test.YtjgiobapdkdhpaaHarn
import Derived.Test.YtjgiobapdkdhpaaLab
import Derived.Test.YtjgiobapdkdhpaaLabC
import Derived.Test.YtjgiobapdkdhpaaLabM
import Derived.Test.YtjgiobapdkdhpaaResolv
import Derived.Test.YtjgiobapdkdhpaaRank
import Derived.Test.YtjgiobapdkdhpaaWordRank
import Derived.Test.YtjgiobapdkdhpaaBfsM
import Derived.Test.YtjgiobapdkdhpaaSets
import Derived.IntWalk
import Derived.Deep.RegionHeld3
import Derived.Deep.DeepCutAuto
namespace Go.Proofs.Ytjgiobapdkdhpaa
open Go.RowKit Go.Deep Go.Sd
set_option linter.unusedSimpArgs false
def popI (s : Nat) : Int := (popN s : Int)
def leastRM (l : Lb) : Int := if resolvM l = true then (bfsS l.2.2 l.1.toNat 4096 [allN l.2.1] 0 []).1.foldl (minF popI) l.2.1 else 0
theorem resolv_facts {l : Lb} (h : resolvM l = true) : okArcs l.2.1 l.2.2 ∧ 1 ≤ l.2.1 ∧ l.2.1 ≤ 12 ∧ 1 ≤ l.1 ∧ l.1 ≤ 3 := isLab_ok (resolvM_lab h)
theorem bfs_ok {xs : List Arc3} {S : Int} (ho : okArcs S xs) (hS1 : 1 ≤ S) (hS2 : S ≤ 12) (L : Nat) : ∀ (f : Nat) (sets : List Nat) (k : Nat) (next : List (List Int)), OkS sets → OkS (bfsS xs L f sets k next).1
  | 0, _, _, _, h => h
  | f + 1, sets, k, next, h => by
    unfold bfsS
    split
    · exact h
    · exact bfs_ok ho hS1 hS2 L f _ _ _ (rowS_ok (fun s x => stepN_lt ho hS2 s x) _ _ _ _ _ h)
theorem all_ok {S : Int} (hS1 : 1 ≤ S) (hS2 : S ≤ 12) : OkS [allN S] := by
  have h1 := allN_lt hS2
  have h2 : 2 ^ 1 ≤ 2 ^ S.toNat := Nat.pow_le_pow_right (by decide) (by omega)
  refine ⟨by simp, fun s hs => ?_⟩
  simp at hs
  subst hs
  exact ⟨by unfold allN; omega, h1⟩
theorem minF_eq (f : Nat → Int) (a : Int) (s : Nat) : minF f a s = if a < f s then a else f s := by
  unfold minF
  split <;> split <;> omega
theorem l1Min_c (a b : Int) (w : World) : Calls Try.prog 112 #[.int .i64 a, .int .i64 b] w fun e w' => e = .returned (.int .i64 (if a < b then a else b)) ∧ w = w' := by
  by_cases h : a < b
  · rw [if_pos h]
    go_enter Try.func112, Try.ntmps112
    go_wp2
    go_ret
    exact ⟨rfl, rfl⟩
  · rw [if_neg h]
    go_enter Try.func112, Try.ntmps112
    go_wp2
    go_ret
    exact ⟨rfl, rfl⟩
set_option maxHeartbeats 4000000 in
set_option maxRecDepth 100000 in
theorem spec_LeastRank_c {w : World} {v : Value} {l : Lb} (h : LabR w v l) :
    Calls Try.prog 50 #[v] w fun e w' => e = .returned (.int .i64 (leastRM l)) ∧ Below w.heap.size w w' := by
  have H1 := Lib.hid (fun w1 (hb : Below w.heap.size w w1) => spec_IsResolving_c (LabR.frame _ _ _ _ h hb))
  have Hfr := Lib.hid (fun w1 (hb : Below w.heap.size w w1) => LabR.frame _ _ _ _ h hb)
  obtain ⟨T, hT⟩ : ∃ T, T = leastRM l := ⟨_, rfl⟩
  rw [← hT]
  have HT := Lib.hid hT
  clear hT
  have Hok := Lib.hid (fun h => resolv_facts (l := l) h)
  have HF0 := Lib.hid (fun (h : resolvM l = false) => (show leastRM l = 0 from by unfold leastRM; rw [h]; rfl))
  generalize hil : resolvM l = il at H1
  have Hil := Lib.hid hil
  clear hil
  obtain ⟨L, S, xs⟩ := l
  obtain ⟨_, rfl, -, a, c, rfl, -, -, -, -⟩ := h
  simp only at *
  generalize hn : xs.length = n at *
  clear hn
  obtain ⟨w1, ex, hb1, c0, c1, c2, m1⟩ := boxA3_ex w 28 (.int .i64 L) (.int .i64 S) (.slice a n c)
  have A1 := Lib.hid hb1
  clear hb1
  go_enter Try.func50, Try.ntmps50
  go_wp2_with fail
  refine (H1.out _ A1.out).mono ?_
  rintro e w2 ⟨rfl, hb1⟩
  replace c0 := (hb1.cell (p := ⟨w.heap.size, 0, none⟩) m1).trans c0
  replace c1 := (hb1.cell (p := ⟨w.heap.size, 1, none⟩) m1).trans c1
  replace c2 := (hb1.cell (p := ⟨w.heap.size, 2, none⟩) m1).trans c2
  have m2 : w.heap.size < w2.heap.size := Nat.lt_of_lt_of_le m1 hb1.size
  replace A1 := Lib.hid (A1.out.trans (hb1.mono A1.out.size))
  clear hb1 ex H1 m1
  cases il with
  | false =>
    have HF := Lib.hid (show T = 0 from by rw [HT.out]; exact HF0.out Hil.out)
    clear HT HF0 Hil Hok Hfr
    go_wp2
    go_ret
    exact ⟨by rw [HF.out]; rfl, A1.out⟩
  | true =>
  have Hil2 := Lib.hid (Hok.out Hil.out)
  clear Hok HF0
  obtain ⟨ho, hS1, hS2, hL1, hL2⟩ := Hil2.out
  have HT2 := Lib.hid (show T = (bfsS xs L.toNat 4096 [allN S] 0 []).1.foldl (minF popI) S from by rw [HT.out]; unfold leastRM; rw [Hil.out]; rfl)
  have HLS := Lib.hid (fun w1 (hb : Below w.heap.size w w1) => l15Sets_c (Hfr.out w1 hb) ho hS1 hS2 hL1 hL2)
  have HOS := Lib.hid (bfs_ok ho hS1 hS2 L.toNat 4096 [allN S] 0 [] (all_ok hS1 hS2))
  simp only at HLS
  generalize (bfsS xs L.toNat 4096 [allN S] 0 []).2 = next at HLS
  generalize (bfsS xs L.toNat 4096 [allN S] 0 []).1 = sets at HLS HT2 HOS
  clear HT Hil Hil2 ho hS1 hS2 hL1 hL2 Hfr
  go_wp2_with fail
  refine (HLS.out _ A1.out).mono ?_
  rintro e w3 ⟨r, s, rfl, hap, hb⟩
  have A3 := Lib.hid (A1.out.trans (hb.mono A1.out.size))
  obtain ⟨ra, rc, rfl, _, _, hcell⟩ := (New.ints hap.left).shape
  have Hcell := Lib.hid hcell
  have hl := HOS.out.len
  rw [List.length_map] at Hcell ⊢
  clear hap hb HLS A1 c0 c1 c2 m2 hcell
  go_wp2
  go_loopg [3, 6] sets.length (fun g b i wr => ∃ (k : Nat) (q : Int), b = .int .i64 q ∧ i = .int .i64 k ∧ k + g = sets.length ∧ Hid (T = (sets.drop k).foldl (minF popI) q) ∧ w3 = wr)
  case atStart => exact ⟨0, S, rfl, rfl, by omega, HT2, rfl⟩
  case round =>
    clear HT2
    obtain ⟨k, q, rfl, rfl, hk, HK, rfl⟩ := hrel
    by_cases hlt : k < sets.length
    · obtain ⟨x, hx, hd⟩ := at_lt hlt
      obtain ⟨b, o, rfl, hb, hx0⟩ := Hcell.out (by omega)
      obtain ⟨u, hu, rfl⟩ := hx0 k (x : Int) (by simp [hx])
      have hx4 := (HOS.out.2 x (List.mem_of_getElem? hx)).2
      have C1 := Lib.hid (fun w => l16Size_c x hx4 w)
      have C2 := Lib.hid (fun w => l1Min_c q (popI x) w)
      have HK2 := Lib.hid (show T = (sets.drop (k + 1)).foldl (minF popI) (if q < popI x then q else popI x) from by rw [HK.out, hd, List.foldl_cons, minF_eq])
      generalize (if q < popI x then q else popI x) = q' at C2 HK2
      have C1' := Lib.hid (fun w => show Calls Try.prog 113 #[.int .i64 x] w fun e w' => e = .returned (.int .i64 (popI x)) ∧ w = w' from C1.out w)
      generalize popI x = y at C1' C2
      have hki : (k : Int) < (sets.length : Int) := by omega
      clear HK hx0 hx hd hx4 C1
      go_wp2_with fail
      refine (C1'.out _).mono ?_
      rintro e w' ⟨rfl, rfl⟩
      go_wp2_with fail
      refine (C2.out _).mono ?_
      rintro e w' ⟨rfl, rfl⟩
      go_wp2
      go_roundg (sets.length - (k + 1))
      case measure => omega
      case rel => exact ⟨k + 1, q', rfl, by go_num, by omega, HK2, rfl⟩
    · have HF := Lib.hid (show T = q from by rw [HK.out, drop_len hlt]; rfl)
      have hki : ¬ ((k : Int) < (sets.length : Int)) := by omega
      clear HK Hcell HOS
      go_wp2
      go_ret
      exact ⟨by rw [HF.out]; rfl, A3.out⟩
end Go.Proofs.Ytjgiobapdkdhpaa
