/-
  All words of a length: the reference's l2All.
-/
import Derived.Test.YtdohepngandajaaRows
import Derived.Test.YtdohepngandajaaBase
import Derived.Test.YtdohepngandajaaHarn
import Derived.Test.YtdohepngandajaaShortS
import Derived.Test.YtdohepngandajaaWordM
import Derived.Test.YtdohepngandajaaWordI
import Derived.Test.YtdohepngandajaaStep
import Derived.Test.YtdohepngandajaaRegM
import Derived.IntWalk
namespace Go.Proofs.Ytdohepngandajaa
open Go.RowKit Go.Deep Go.Sd
set_option linter.unusedSimpArgs false
abbrev extW (L : Nat) (w : List Nat) : List (List Nat) := (List.range L).map fun x => w ++ [x]
set_option maxHeartbeats 4000000 in
set_option maxRecDepth 100000 in
theorem l2All_c {w : World} {L n : Nat} (hL0 : 0 < L) (hL : L ≤ 3) (hn : n ≤ 6) :
    Calls Try.prog 76 #[.int .i64 L, .int .i64 n] w (Makes (OStrL 9) w ((allW L n).map wordT)) := by
  have Hln := Lib.hid (fun i (hi : i ≤ n) => (show (allW L i).length ≤ 729 from by rw [allW_len hL0]; exact pow_le hL (by omega)))
  have Hme := Lib.hid (fun i wd (h : wd ∈ allW L i) => allW_mem hL0 h)
  have HLn := Lib.hid hL0
  have H0 := Lib.hid (show New (OStrL 9) w.heap.size (w.alloc (.cells #[.string ⟨#[]⟩] 9)) (.slice (some ⟨w.heap.size, 0, none⟩) 1 1) ((allW L 0).map wordT) from New.oneG (e := 9) OStr.kept (lo := w.heap.size) (w := w) (u := .string ⟨#[]⟩) (x := ⟨#[]⟩) ⟨[], ⟨rfl, rfl⟩, by simp [Fresh]⟩ (Nat.le_refl _))
  have HB0 := Lib.hid (show Below w.heap.size w (w.alloc (.cells #[.string ⟨#[]⟩] 9)) from (Below.refl _ _).alloc (Nat.le_refl _) _)
  clear hL0
  go_enter Try.func76, Try.ntmps76
  go_wp2
  go_loopg [5, 6] n (fun g vs i wr => ∃ (k : Nat) (a : Option Addr) (c : Nat), vs = .slice a (allW L k).length c ∧ i = .int .i64 k ∧ k + g = n ∧ Hid (New (OStrL 9) w.heap.size wr (.slice a (allW L k).length c) ((allW L k).map wordT)) ∧ Hid (Below w.heap.size w wr))
  case atStart => exact ⟨0, _, _, rfl, rfl, by omega, H0, HB0⟩
  case round =>
    clear H0 HB0
    obtain ⟨k, a, c, rfl, rfl, hk, HN, HB⟩ := hrel
    obtain ⟨wq, rfl⟩ : ∃ x, x = wr := ⟨_, rfl⟩
    by_cases hlt : k < n
    · have hz := HB.out.size
      have HA := Lib.hid (show allW L (k + 1) = (allW L k).flatMap (extW L) from rfl)
      have hAl := Hln.out k (by omega)
      have hAl1 := Hln.out (k + 1) (by omega)
      have HAm := Lib.hid (fun wd h => Hme.out k wd h)
      have hki : (k : Int) < (n : Int) := by omega
      rw [HA.out] at hAl1
      have HS1 := Lib.hid ((Sep.one (OwnOf.kept OStr.kept).held HN.out).new (OwnOf.kept OStr.kept).held ((Below.refl _ _).alloc (Nat.le_refl _) _) hz (New.empty (e := 9) (R := OValR Value.string) wq (Nat.le_refl _)))
      obtain ⟨w2, e2⟩ : ∃ x, x = wq.alloc (.cells #[] 9) := ⟨_, rfl⟩
      rw [← e2] at HS1
      have HB1 := Lib.hid (show Below w.heap.size w w2 from by rw [e2]; exact HB.out.alloc hz _)
      have e2s := e2.symm
      generalize allW L k = A at HN HA hAl hAl1 HAm HS1 ⊢
      clear e2 HN HB
      go_wp2
      clear e2s
      go_loopg [7, 8] A.length (fun g2 vn i wr => ∃ (j : Nat) (na : Option Addr) (nc : Nat), vn = .slice na ((A.take j).flatMap (extW L)).length nc ∧ i = .int .i64 j ∧ j + g2 = A.length ∧ Hid (Sep w.heap.size wr [Res.strs 9 (.slice na ((A.take j).flatMap (extW L)).length nc) (((A.take j).flatMap (extW L)).map wordT), Res.strs 9 (.slice a A.length c) (A.map wordT)]) ∧ Hid (Below w.heap.size w wr))
      case atStart => exact ⟨0, _, _, rfl, rfl, by omega, HS1, HB1⟩
      case round =>
        clear HS1 HB1 hz
        obtain ⟨j, na, nc, rfl, rfl, hj, HS, HB⟩ := hrel
        obtain ⟨wj, rfl⟩ : ∃ x, x = wr := ⟨_, rfl⟩
        by_cases hjl : j < A.length
        · obtain ⟨wd, hwd, _⟩ := at_lt hjl
          have HT := Lib.hid (show (A.take (j + 1)).flatMap (extW L) = (A.take j).flatMap (extW L) ++ extW L wd from by rw [← take_snoc' hwd, List.flatMap_append]; simp)
          have Hle := Lib.hid (show ((A.take (j + 1)).flatMap (extW L)).length ≤ 729 from by
            have h1 : (A.flatMap (extW L)).length = ((A.take (j + 1)).flatMap (extW L)).length + ((A.drop (j + 1)).flatMap (extW L)).length := by rw [← List.length_append, ← List.flatMap_append, List.take_append_drop]
            omega)
          have hm := HAm.out wd (List.mem_of_getElem? hwd)
          have Hwd := Lib.hid hwd
          have hji : (j : Int) < (A.length : Int) := by omega
          generalize (A.take j).flatMap (extW L) = B at HS HT ⊢
          have HS0 := Lib.hid (show Sep w.heap.size wj [Res.strs 9 (.slice na (B ++ (extW L wd).take 0).length nc) ((B ++ (extW L wd).take 0).map wordT), Res.strs 9 (.slice a A.length c) (A.map wordT)] from by simpa using HS.out)
          clear HS hwd
          go_wp2
          go_loopg [7, 9] L (fun g3 vn i wr => ∃ (x : Nat) (na : Option Addr) (nc : Nat), vn = .slice na (B ++ (extW L wd).take x).length nc ∧ i = .int .i64 x ∧ x + g3 = L ∧ Hid (Sep w.heap.size wr [Res.strs 9 (.slice na (B ++ (extW L wd).take x).length nc) ((B ++ (extW L wd).take x).map wordT), Res.strs 9 (.slice a A.length c) (A.map wordT)]) ∧ Hid (Below w.heap.size w wr))
          case atStart => exact ⟨0, na, nc, by simp, rfl, by omega, HS0, HB⟩
          case round =>
            clear HS0 HB
            obtain ⟨x, na, nc, rfl, rfl, hx, HS, HB⟩ := hrel
            obtain ⟨wx, rfl⟩ : ∃ x, x = wr := ⟨_, rfl⟩
            by_cases hxl : x < L
            · obtain ⟨_, _, hv, hq⟩ := HS.out.swap.strsAt
              obtain ⟨b, e1, hb, hc⟩ := hq (by simp; omega)
              simp at hv
              obtain ⟨rfl, rfl⟩ := hv
              subst e1
              have g0 := hc j (wordT wd) (by simp [Hwd.out])
              have hz := HB.out.size
              have hxi : (x : Int) < (L : Int) := by omega
              have hext : (extW L wd).take (x + 1) = (extW L wd).take x ++ [wd ++ [x]] := (take_snoc' (by simp [List.getElem?_range hxl])).symm
              have hBl : (B ++ (extW L wd).take x).length ≤ 729 := by
                have h1 := Hle.out
                rw [HT.out] at h1
                have h2 : ((extW L wd).take x).length ≤ (extW L wd).length := by rw [List.length_take]; omega
                simp only [List.length_append] at h1 ⊢
                omega
              have hb6a : Below wx.heap.size wx ((wx.alloc (.cells #[.string (wordT (wd ++ [x]))] 9)).drew) := ((Below.refl _ _).alloc (Nat.le_refl _) _).drew
              obtain ⟨v7, w7, hr7, hS7, hb7⟩ := Sep.push (P := Try.prog) OStr.kept 36 36 (.string ⟨#[]⟩) 16 Try.underlying36 infoStr rfl HS.out hz hb6a (q := .string (wordT (wd ++ [x]))) (x := wordT (wd ++ [x])) ⟨[], ⟨rfl, rfl⟩, by simp [Fresh]⟩ (bb := wx.heap.size) (c := 1) (World.cell?_alloc_at _ _ _ 0 rfl) (by simp only [List.length_map]; omega) (by simp only [List.length_map]; omega)
              have e7 : (B ++ (extW L wd).take x).map wordT ++ [wordT (wd ++ [x])] = (B ++ (extW L wd).take (x + 1)).map wordT := by rw [hext]; simp
              obtain ⟨na', nc', rfl, _⟩ := hS7.strsAt
              have e7' : ((B ++ (extW L wd).take x).map wordT ++ [wordT (wd ++ [x])]).length = (B ++ (extW L wd).take x).length + 1 := by simp only [List.length_append, List.length_map, List.length_cons, List.length_nil]
              have e8 : (B ++ (extW L wd).take (x + 1)).length = (B ++ (extW L wd).take x).length + 1 := by rw [hext]; simp only [List.length_append, List.length_cons, List.length_nil]; omega
              rw [e7'] at hr7 hS7
              rw [e7] at hS7
              have HS7 := Lib.hid hS7
              have HB7 := Lib.hid (HB.out.trans hb7)
              have Hr := Lib.hid hr7
              have E8 := Lib.hid e8
              have habc := fun w => abc_slice (x := x) (by omega) w
              have hcat := wordT_snoc wd x
              have hsz1 : (wordT [x]).size = 1 := by simp [wordT, ByteArray.size]
              have hws : (wordT wd).size = wd.length := wordT_size wd
              have hsz2 : ¬ (9223372036854775807 < wd.length + 1) := by rw [hm.1]; omega
              have hSd : wx.drew.cell? ⟨b, j, none⟩ = some (.string (wordT wd)) := g0
              have hS1 : ((wx.alloc (.cells #[.string (wordT (wd ++ [x]))] 9)).drew).cell? ⟨b, j, none⟩ = some (.string (wordT wd)) := (hb6a.cell (p := ⟨b, j, none⟩) hb).trans g0
              generalize (B ++ (extW L wd).take x).length = bl at Hr hBl E8 HS7 ⊢
              have hx3 : IntKind.i64.wrap ((x : Int) + 1) = (x : Int) + 1 := IntWalk.i64_in _ (by omega)
              clear HS HB hS7 hb7 hr7 hb6a e7 e7' e8 hq hc hext hm g0
              go_wp2
              refine wp_region_M 12 (fun w' => w'.cell? ⟨b, j, none⟩ = some (.string (wordT wd))) (by kernel_rfl) ?_
              refine wpAnyM_take 0 (v := ?_) rfl (by kernel_rfl) (by kernel_rfl) (by kernel_rfl) (by kernel_rfl) (fun _ _ _ h => h) (Or.inl ⟨by rfl, ?_⟩) hSd ?_
              rotate_left
              · (intro w hSw; (try dsimp only at hSw); go_simp) <;> (try with_reducible rfl)
              try simp only [Act.put, List.setIfInBounds_toArray, List.set_cons_zero, List.set_cons_succ]
              refine wpAnyM_take 1 (v := ?_) rfl (by kernel_rfl) (by kernel_rfl) (by kernel_rfl) (by kernel_rfl) (fun _ _ _ h => h) (Or.inl ⟨by rfl, ?_⟩) hSd ?_
              rotate_left
              · (intro w hSw; (try dsimp only at hSw); go_simp) <;> (try with_reducible rfl)
              try simp only [Act.put, List.setIfInBounds_toArray, List.set_cons_zero, List.set_cons_succ]
              refine wpAnyM_take 2 (v := ?_) rfl (by kernel_rfl) (by kernel_rfl) (by kernel_rfl) (by kernel_rfl) (fun _ _ _ h => h) (Or.inl ⟨by rfl, ?_⟩) hSd ?_
              rotate_left
              · (intro w hSw; (try dsimp only at hSw); go_simp) <;> (try with_reducible rfl)
              try simp only [Act.put, List.setIfInBounds_toArray, List.set_cons_zero, List.set_cons_succ]
              refine wpAnyM_take 3 (v := ?_) rfl (by kernel_rfl) (by kernel_rfl) (by kernel_rfl) (by kernel_rfl) (fun _ _ _ h => h) (Or.inl ⟨by rfl, ?_⟩) hSd ?_
              rotate_left
              · (intro w hSw; (try dsimp only at hSw); go_simp) <;> (try with_reducible rfl)
              try simp only [Act.put, List.setIfInBounds_toArray, List.set_cons_zero, List.set_cons_succ]
              refine wpAnyM_take 4 (v := ?_) rfl (by kernel_rfl) (by kernel_rfl) (by kernel_rfl) (by kernel_rfl) (fun _ _ _ h => h) (Or.inl ⟨by rfl, ?_⟩) hSd ?_
              rotate_left
              · (intro w hSw; (try dsimp only at hSw); go_simp) <;> (try with_reducible rfl)
              try simp only [Act.put, List.setIfInBounds_toArray, List.set_cons_zero, List.set_cons_succ]
              refine wpAnyM_take 5 (v := ?_) rfl (by kernel_rfl) (by kernel_rfl) (by kernel_rfl) (by kernel_rfl) (fun _ _ _ h => h) (Or.inl ⟨by rfl, ?_⟩) hSd ?_
              rotate_left
              · (intro w hSw; (try dsimp only at hSw); go_simp) <;> (try with_reducible rfl)
              try simp only [Act.put, List.setIfInBounds_toArray, List.set_cons_zero, List.set_cons_succ]
              refine wpAnyM_take 6 (v := ?_) rfl (by kernel_rfl) (by kernel_rfl) (by kernel_rfl) (by kernel_rfl) (fun _ _ _ h => h) (Or.inl ⟨by rfl, ?_⟩) hSd ?_
              rotate_left
              · (intro w hSw; (try dsimp only at hSw); go_simp) <;> (try with_reducible rfl)
              try simp only [Act.put, List.setIfInBounds_toArray, List.set_cons_zero, List.set_cons_succ]
              refine wpAnyM_take 7 (v := ?_) rfl (by kernel_rfl) (by kernel_rfl) (by kernel_rfl) (by kernel_rfl) (fun _ _ _ h => h) (Or.inl ⟨by rfl, ?_⟩) hSd ?_
              rotate_left
              · (intro w hSw; (try dsimp only at hSw); go_simp) <;> (try with_reducible rfl)
              try simp only [Act.put, List.setIfInBounds_toArray, List.set_cons_zero, List.set_cons_succ]
              refine wpAnyM_take 8 (v := ?_) rfl (by kernel_rfl) (by kernel_rfl) (by kernel_rfl) (by kernel_rfl) (fun _ _ _ h => h) (Or.inl ⟨by rfl, ?_⟩) hSd ?_
              rotate_left
              · (intro w hSw; (try dsimp only at hSw); go_simp) <;> (try with_reducible rfl)
              try simp only [Act.put, List.setIfInBounds_toArray, List.set_cons_zero, List.set_cons_succ]
              refine wpAnyM_take 9 (v := ?_) rfl (by kernel_rfl) (by kernel_rfl) (by kernel_rfl) (by kernel_rfl) (fun _ _ _ h => h) (Or.inl ⟨by rfl, ?_⟩) hSd ?_
              rotate_left
              · (intro w hSw; (try dsimp only at hSw); go_simp) <;> (try with_reducible rfl)
              try simp only [Act.put, List.setIfInBounds_toArray, List.set_cons_zero, List.set_cons_succ]
              refine wpAnyM_one 10 (by kernel_rfl) rfl (fun K hK => ?_)
              go_simp
              refine hK.out _ _ (fun _ => hS1) ?_
              clear hK K
              try simp only [Act.put, List.setIfInBounds_toArray, List.set_cons_zero, List.set_cons_succ]
              refine wpAnyM_one 11 (by kernel_rfl) rfl (fun K hK => ?_)
              refine step_append_run (by rfl) (.tmp 28) (.tmp 38) 36 (by rfl) (by rfl) (by rfl) Hr.out ?_
              refine hK.out _ _ (fun h => absurd h (not_remM (by kernel_rfl))) ?_
              clear hK K
              try simp only [Act.put, List.setIfInBounds_toArray, List.set_cons_zero, List.set_cons_succ]
              refine wpAnyM_one 12 (by kernel_rfl) rfl (fun K hK => ?_)
              go_simp
              refine hK.out _ _ (fun h => absurd h (not_remM (by kernel_rfl))) ?_
              clear hK K
              try simp only [Act.put, List.setIfInBounds_toArray, List.set_cons_zero, List.set_cons_succ]
              refine wpAnyM_done (by kernel_rfl) ?_ _
              all_goals (
                go_wp2
                go_roundg (L - (x + 1))
                case measure => omega
                case rel => exact ⟨x + 1, _, _, by rw [E8.out], by go_num, by omega, by rw [E8.out]; exact HS7, HB7⟩)
            · have hxe : x = L := by omega
              have HS2 := Lib.hid (show Sep w.heap.size wx [Res.strs 9 (.slice na ((A.take (j + 1)).flatMap (extW L)).length nc) (((A.take (j + 1)).flatMap (extW L)).map wordT), Res.strs 9 (.slice a A.length c) (A.map wordT)] from by
                have h := HS.out
                rw [List.take_of_length_le (by simp; omega)] at h
                rw [HT.out]
                exact h)
              have E2 := Lib.hid (show (B ++ (extW L wd).take x).length = ((A.take (j + 1)).flatMap (extW L)).length from by rw [List.take_of_length_le (by simp; omega), HT.out])
              have hxi : ¬ ((x : Int) < (L : Int)) := by omega
              generalize (B ++ (extW L wd).take x).length = bl at E2 ⊢
              clear HS hxe HT
              go_wp2
              go_roundg (A.length - (j + 1))
              case measure => omega
              case rel => exact ⟨j + 1, na, nc, by rw [E2.out], by go_num, by omega, HS2, HB⟩
        · have HR := Lib.hid (show New (OStrL 9) w.heap.size wj (.slice na (allW L (k + 1)).length nc) ((allW L (k + 1)).map wordT) from by
            have h := HS.out.headNew
            rw [List.take_of_length_le (by omega)] at h
            rw [HA.out]
            exact h)
          have E2 := Lib.hid (show ((A.take j).flatMap (extW L)).length = (allW L (k + 1)).length from by rw [List.take_of_length_le (by omega), HA.out])
          have hji : ¬ ((j : Int) < (A.length : Int)) := by omega
          generalize ((A.take j).flatMap (extW L)).length = bl at E2 ⊢
          clear HS HA
          go_wp2
          go_roundg (n - (k + 1))
          case measure => omega
          case rel => exact ⟨k + 1, na, nc, by rw [E2.out], by go_num, by omega, HR, HB⟩
    · obtain rfl : k = n := by omega
      have hki : ¬ ((k : Int) < (k : Int)) := by omega
      have HR := Lib.hid HN.out
      generalize (allW L k).length = bl at HR ⊢
      clear HN
      go_wp2
      go_ret
      exact ⟨_, rfl, HR.out, HB.out⟩
end Go.Proofs.Ytdohepngandajaa
