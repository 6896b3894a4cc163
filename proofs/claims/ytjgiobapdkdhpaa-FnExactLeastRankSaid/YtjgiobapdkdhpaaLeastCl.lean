/-
  LeastRank's closure.
-/
import Derived.Test.YtjgiobapdkdhpaaRows
import Derived.Test.YtjgiobapdkdhpaaBase
import Derived.Test.YtjgiobapdkdhpaaRank
import Derived.Test.YtjgiobapdkdhpaaBfsM
import Derived.Test.YtjgiobapdkdhpaaLeastRS
import Derived.Test.YtjgiobapdkdhpaaSep
import Derived.Deep.RegionWith
import Derived.IntWalk
namespace Go.Proofs.Ytjgiobapdkdhpaa
open Go.RowKit Go.Deep Go.Sd
set_option linter.unusedSimpArgs false
set_option maxHeartbeats 2000000 in
set_option maxRecDepth 100000 in
theorem leastclo_c {w : World} {lo c : Nat} {rest : List Res} {m : Int} (hs : Sep lo w (Res.box c [.int .i64 m] :: rest)) (hlo : lo ≤ w.heap.size) {s : Nat} (hs4 : s < 4096) (vw : Value) :
    Calls Try.prog 116 #[.int .i64 s, vw, .pointer (some ⟨c, 0, none⟩)] w fun e w' => e = .returned (.bool false) ∧ Sep lo w' (Res.box c [.int .i64 (minF popI m s)] :: rest) ∧ Below lo w w' ∧ ∀ p : Addr, p.block ≠ c → w'.cell? p = w.cell? p := by
  have C1 := Lib.hid (fun w => show Calls Try.prog 117 #[.int .u64 s] w fun e w' => e = .returned (.int .i64 (popI s)) ∧ w = w' from OnesCount_c s hs4 w)
  obtain ⟨hlc, hcs⟩ := hs.headBox
  obtain ⟨hc0, hf0⟩ := hcs.2 0 (.int .i64 m) rfl
  have HS := Lib.hid (fun y => hs.boxStore hlo (j := 0) (u0 := .int .i64 m) rfl (.int .i64 y))
  have HB := Lib.hid (fun y => (Below.refl lo w).setCell (p := ⟨c, 0, none⟩) hlc (.int .i64 y))
  have hM := Lib.hid (show minF popI m s = if popI s < m then popI s else m from rfl)
  rw [hM.out]
  generalize popI s = y at C1
  have hur : IntKind.u64.wrap (s : Int) = (s : Int) := IntWalk.u64_in _ (by omega)
  clear hM hcs hs hlo hs4 hlc
  by_cases hym : y < m
  · rw [if_pos hym]
    go_enter Try.func116, Try.ntmps116
    go_wp2
    go_region_with ((go_at_call 117; refine (C1.out _).mono ?_; rintro e w' ⟨rfl, rfl⟩))
    all_goals (
      go_wp2
      go_ret
      exact ⟨rfl, (HS.out y).below ((Below.refl _ _).drew) (Nat.le_refl _), (HB.out y).drew, fun p hp => World.cell?_setCell_other _ _ _ _ (fun e2 => hp (by rw [← e2]))⟩)
  · rw [if_neg hym]
    go_enter Try.func116, Try.ntmps116
    go_wp2
    go_region_with ((go_at_call 117; refine (C1.out _).mono ?_; rintro e w' ⟨rfl, rfl⟩))
    all_goals (
      go_wp2
      go_ret
      exact ⟨rfl, (HS.out m).below ((Below.refl _ _).drew) (Nat.le_refl _), (HB.out m).drew, fun p hp => World.cell?_setCell_other _ _ _ _ (fun e2 => hp (by rw [← e2]))⟩)
end Go.Proofs.Ytjgiobapdkdhpaa
