/-
  StepsFrom: a matrix is put behind others, both sides: the program's method and the reference's function.
-/
import Derived.Test.YtdohepngandajaaStpA
namespace Go.Proofs.Ytdohepngandajaa
open Go.RowKit Go.Deep Go.Sd
set_option linter.unusedSimpArgs false
theorem any_mem (L : List Tbl) (M : Tbl) : (L.any fun x => decide (M = x)) = decide (M ∈ L) := by
  rw [Bool.eq_iff_iff]
  simp
theorem addT_no {L : List Tbl} {M : Tbl} {ok : Bool} (h : ¬ (ok = true ∧ M.length ≤ 4 ∧ smallT M = true ∧ M ∉ L)) : addT L M ok = L := if_neg h
theorem addT_yes {L : List Tbl} {M : Tbl} (h4 : M.length ≤ 4) (hs : smallT M = true) (hm : M ∉ L) : addT L M true = L ++ [M] := if_pos ⟨rfl, h4, hs, hm⟩
set_option maxHeartbeats 4000000 in
set_option maxRecDepth 100000 in
theorem add_c {w : World} {lo bc : Nat} {sl v : Value} {L : List Tbl} {M : Tbl} {ok : Bool} {rs : List Res} (hs : Sep lo w (Res.box bc [sl] :: Res.tabs sl L :: Res.tab v M :: rs)) (hlo : lo ≤ w.heap.size) (hok : ok = true → ∃ n, Sq n M ∧ 0 < n) (hL : L.length ≤ 100000) :
    Calls Try.prog 96 #[.pointer (some ⟨bc, 0, none⟩), v, .bool ok] w fun e w' => e = .returned (.tuple #[]) ∧ (∃ sl', Sep lo w' (Res.box bc [sl'] :: Res.tabs sl' (addT L M ok) :: rs)) ∧ Below lo w w' := by
  obtain ⟨va, vc, rfl, -⟩ := (New.tab hs.third.headNew).shape
  obtain ⟨la, lc, rfl, -⟩ := (New.tabs hs.tail.headNew).shape
  have hsx := hs.boxNew hlo [.slice va M.length vc] 41
  obtain ⟨w1, e1⟩ : ∃ x, x = w.alloc (.cells #[.slice va M.length vc] 41) := ⟨_, rfl⟩
  have hs1 : Sep lo w1 (Res.box w.heap.size [.slice va M.length vc] :: Res.box bc [.slice la L.length lc] :: Res.tabs (.slice la L.length lc) L :: Res.tab (.slice va M.length vc) M :: rs) := by rw [e1]; exact hsx
  have hb1 : Below w.heap.size w w1 := by rw [e1]; exact (Below.refl _ _).alloc (Nat.le_refl _) _
  have e1s := e1.symm
  obtain ⟨-, mx, hcx⟩ := hs1.headBox
  have cx := (hcx 0 _ rfl).1
  obtain ⟨-, mb, hcb⟩ := hs1.swap.headBox
  have cb := (hcb 0 _ rfl).1
  have HS1 := Lib.hid hs1
  have HB1 := Lib.hid (hb1.mono hlo)
  have hlo1 : lo ≤ w1.heap.size := Nat.le_trans hlo hb1.size
  have HTm := Lib.hid (New.tab (hs1.front [_, _, _]).headNew)
  have HTl := Lib.hid (New.tabs (hs1.front [_, _]).headNew)
  have Hok := Lib.hid hok
  have HL := Lib.hid hL
  clear hs hsx hs1 hb1 e1 hcx hcb hok hL
  cases ok with
  | false =>
    have HF := Lib.hid (show addT L M false = L from addT_no (by simp))
    clear HTm HTl Hok cb
    go_enter Try.func96, Try.ntmps96
    go_wp2
    refine bodyPost_ret (v := .tuple #[]) (by simp [results, Try.results96, go_sem]) rfl ?_
    exact ⟨rfl, ⟨_, by rw [HF.out]; exact HS1.out.tail.third.tail⟩, HB1.out⟩
  | true =>
  by_cases h4 : 4 < M.length
  · have HF := Lib.hid (show addT L M true = L from addT_no (by rintro ⟨-, h, -⟩; omega))
    have h4i : (4 : Int) < (M.length : Int) := by omega
    clear HTm HTl Hok cb h4
    go_enter Try.func96, Try.ntmps96
    go_wp2
    refine bodyPost_ret (v := .tuple #[]) (by simp [results, Try.results96, go_sem]) rfl ?_
    exact ⟨rfl, ⟨_, by rw [HF.out]; exact HS1.out.tail.third.tail⟩, HB1.out⟩
  obtain ⟨n, hsq, hn0⟩ := Hok.out rfl
  have HC1 := Lib.hid (show Calls Try.prog 159 #[.slice va M.length vc, .func (.func 160) #[] #[]] w1 (Reads w1 (.bool (!smallT M))) from by rw [← big_small]; exact bigs_c HTm.out (fun r hr => by rw [hsq.2 r hr]; exact hn0))
  have h4i : ¬ ((4 : Int) < (M.length : Int)) := by omega
  have HC2 := Lib.hid (fun w2 (hd : Drawn w1 w2) => (show Calls Try.prog 162 #[.slice la L.length lc, .func (.func 163) #[] #[.pointer (some ⟨w.heap.size, 0, none⟩)]] w2 (Reads w2 (.bool (decide (M ∈ L)))) from by
    rw [← any_mem]
    exact sames_c (hd.read Tabs.frame HTl.out) (hd.read Tab.frame HTm.out) (by rw [hd.cell]; exact cx)))
  have HNo := Lib.hid (fun (h : smallT M = false) => (show addT L M true = L from addT_no (by rintro ⟨-, -, h2, -⟩; rw [h] at h2; cases h2)))
  have HIn := Lib.hid (fun (h : decide (M ∈ L) = true) => (show addT L M true = L from addT_no (by rintro ⟨-, -, -, h2⟩; exact h2 (of_decide_eq_true h))))
  have HYe := Lib.hid (fun (h : smallT M = true) (h2 : decide (M ∈ L) = false) => (show addT L M true = L ++ [M] from addT_yes (by omega) h (of_decide_eq_false h2)))
  generalize smallT M = sm at HC1 HNo HYe
  generalize decide (M ∈ L) = mem at HC2 HIn HYe
  have hmf : ∀ (fn : Fn) (first cap : Array Value) (w : World), (Instr.makeFunc fn first cap).run Try.prog w = .ok (.func fn first cap) w := fun _ _ _ _ => rfl
  clear HTm HTl Hok hsq hn0 h4
  go_enter Try.func96, Try.ntmps96
  go_wp2_with fail
  refine HC1.out.mono ?_
  rintro e w2 ⟨rfl, hd⟩
  have Hd := Lib.hid hd
  replace cx := (hd.cell ⟨w.heap.size, 0, none⟩).trans cx
  replace cb := (hd.cell ⟨bc, 0, none⟩).trans cb
  clear hd e1s
  cases sm with
  | false =>
    have HF := Lib.hid (HNo.out (by first | rfl | trivial))
    clear HC1 HC2 HNo HIn HYe cx cb
    go_wp2
    refine bodyPost_ret (v := .tuple #[]) (by simp [results, Try.results96, go_sem]) rfl ?_
    exact ⟨rfl, ⟨_, by rw [HF.out]; exact (HS1.out.tail.third.tail).below (Hd.out.below _) (Nat.le_refl _)⟩, HB1.out.trans ((Hd.out.below _).mono hlo1)⟩
  | true =>
  go_wp2_with fail
  refine (HC2.out _ Hd.out).mono ?_
  rintro e w3 ⟨rfl, hd3⟩
  have Hd3 := Lib.hid (Hd.out.trans hd3)
  replace cx := (hd3.cell ⟨w.heap.size, 0, none⟩).trans cx
  replace cb := (hd3.cell ⟨bc, 0, none⟩).trans cb
  clear hd3 Hd HC1 HC2 hmf
  have HS3 := Lib.hid (HS1.out.below (Hd3.out.below _) (Nat.le_refl _))
  have HB3 := Lib.hid (HB1.out.trans ((Hd3.out.below _).mono hlo1))
  have hz3 : w1.heap.size ≤ w3.heap.size := (Hd3.out.below 0).size
  clear HS1 HB1 Hd3
  cases mem with
  | true =>
    have HF := Lib.hid (HIn.out (by first | rfl | trivial))
    clear HNo HIn HYe cx cb
    go_wp2
    refine bodyPost_end (v := .tuple #[]) (by simp [results, Try.results96, go_sem]) rfl ?_
    exact ⟨rfl, ⟨_, by rw [HF.out]; exact HS3.out.tail.third.tail⟩, HB3.out⟩
  | false =>
    have HF := Lib.hid (HYe.out (by first | rfl | trivial) (by first | rfl | trivial))
    clear HNo HIn HYe
    have mb3 : bc < w3.heap.size := by omega
    have mx3 : w.heap.size < w3.heap.size := by omega
    have B1 := ((Below.refl w3.heap.size w3).alloc (Nat.le_refl _) (.cells #[.slice va M.length vc] 41)).drew
    obtain ⟨v', w4, hr, hs4, hb4⟩ := ((HS3.out.front [_, _]).front [_, _, _]).swap.absorb (P := Try.prog) (OTab.kept 3 50) 43 43 (.slice none 0 0) 24 Try.underlying43 infoT rfl (by omega) (w1 := (w3.alloc (.cells #[.slice va M.length vc] 41)).drew) B1 (bb := w3.heap.size) (c := 1) (World.cell?_alloc_at _ _ _ 0 rfl) (by have := HL.out; omega) (by have := HL.out; omega)
    obtain ⟨za, zc, rfl, -⟩ := (New.tabs hs4.headNew).shape
    have hs5 := hs4.third
    obtain ⟨-, -, hcb⟩ := hs5.headBox
    have cb4 := (hcb 0 _ rfl).1
    have cb4f := (hcb 0 _ rfl).2
    obtain ⟨-, -, hcx⟩ := (hs4.front [_]).headBox
    have cx4 := (hcx 0 _ rfl).1
    have hst := hs5.boxStore (by have := hb4.size; omega) (j := 0) rfl (.slice za (L ++ [M]).length zc)
    have HST := Lib.hid (show Sep lo (w4.setCell ⟨bc, 0, none⟩ (.slice za (L ++ [M]).length zc)) (Res.box bc [.slice za (L ++ [M]).length zc] :: Res.tabs (.slice za (L ++ [M]).length zc) (L ++ [M]) :: rs) from hst.third.tail)
    have hbc := (HS3.out.swap.headBox).1
    have HBs := Lib.hid ((HB3.out.trans hb4).setCell (p := ⟨bc, 0, none⟩) hbc (.slice za (L ++ [M]).length zc))
    have Hr := Lib.hid hr
    have hSd : w3.drew.cell? ⟨bc, 0, none⟩ = some (.slice la L.length lc) ∧ w3.drew.cell? ⟨w.heap.size, 0, none⟩ = some (.slice va M.length vc) := ⟨cb, cx⟩
    have hS1 : ((w3.alloc (.cells #[.slice va M.length vc] 41)).drew).cell? ⟨bc, 0, none⟩ = some (.slice la L.length lc) ∧ ((w3.alloc (.cells #[.slice va M.length vc] 41)).drew).cell? ⟨w.heap.size, 0, none⟩ = some (.slice va M.length vc) := ⟨(B1.cell (p := ⟨bc, 0, none⟩) mb3).trans cb, (B1.cell (p := ⟨w.heap.size, 0, none⟩) mx3).trans cx⟩
    have hS2 : w4.cell? ⟨bc, 0, none⟩ = some (.slice la L.length lc) ∧ w4.cell? ⟨w.heap.size, 0, none⟩ = some (.slice va M.length vc) := ⟨cb4, cx4⟩
    generalize (L ++ [M]).length = ln at *
    clear HS3 HB3 B1 hr hs4 hb4 hs5 hcb hcx hst HL
    go_wp2
    refine wp_region_L (fun w' => w'.cell? ⟨bc, 0, none⟩ = some (.slice la L.length lc) ∧ w'.cell? ⟨w.heap.size, 0, none⟩ = some (.slice va M.length vc)) (by kernel_rfl) ?_
    refine wpAnyL_take 0 (v := ?_) rfl (by kernel_rfl) (by kernel_rfl) (by kernel_rfl) (by kernel_rfl) (fun _ _ _ h => h) (Or.inl ⟨by rfl, ?_⟩) hSd ?_
    rotate_left
    · (intro w hSw; (try dsimp only at hSw); go_simp) <;> (try with_reducible rfl)
    try simp only [Act.put, List.setIfInBounds_toArray, List.set_cons_zero, List.set_cons_succ]
    refine wpAnyL_take 1 (v := ?_) rfl (by kernel_rfl) (by kernel_rfl) (by kernel_rfl) (by kernel_rfl) (fun _ _ _ h => h) (Or.inl ⟨by rfl, ?_⟩) hSd ?_
    rotate_left
    · (intro w hSw; (try dsimp only at hSw); go_simp) <;> (try with_reducible rfl)
    try simp only [Act.put, List.setIfInBounds_toArray, List.set_cons_zero, List.set_cons_succ]
    refine wpAnyL_take 2 (v := ?_) rfl (by kernel_rfl) (by kernel_rfl) (by kernel_rfl) (by kernel_rfl) (fun _ _ _ h => h) (Or.inl ⟨by rfl, ?_⟩) hSd ?_
    rotate_left
    · (intro w hSw; (try dsimp only at hSw); go_simp) <;> (try with_reducible rfl)
    try simp only [Act.put, List.setIfInBounds_toArray, List.set_cons_zero, List.set_cons_succ]
    refine wpAnyL_take 3 (v := ?_) rfl (by kernel_rfl) (by kernel_rfl) (by kernel_rfl) (by kernel_rfl) (fun _ _ _ h => h) (Or.inl ⟨by rfl, ?_⟩) hSd ?_
    rotate_left
    · (intro w hSw; (try dsimp only at hSw); go_simp) <;> (try with_reducible rfl)
    try simp only [Act.put, List.setIfInBounds_toArray, List.set_cons_zero, List.set_cons_succ]
    refine wpAnyL_take 4 (v := ?_) rfl (by kernel_rfl) (by kernel_rfl) (by kernel_rfl) (by kernel_rfl) (fun _ _ _ h => h) (Or.inl ⟨by rfl, ?_⟩) hSd ?_
    rotate_left
    · (intro w hSw; (try dsimp only at hSw); go_simp) <;> (try with_reducible rfl)
    try simp only [Act.put, List.setIfInBounds_toArray, List.set_cons_zero, List.set_cons_succ]
    refine wpAnyL_take 5 (v := ?_) rfl (by kernel_rfl) (by kernel_rfl) (by kernel_rfl) (by kernel_rfl) (fun _ _ _ h => h) (Or.inl ⟨by rfl, ?_⟩) hSd ?_
    rotate_left
    · (intro w hSw; (try dsimp only at hSw); go_simp) <;> (try with_reducible rfl)
    try simp only [Act.put, List.setIfInBounds_toArray, List.set_cons_zero, List.set_cons_succ]
    refine wpAnyL_one 6 (by kernel_rfl) rfl (fun K hK => ?_)
    go_simp
    refine hK.out _ _ (fun _ => hS1) ?_
    clear hK K
    try simp only [Act.put, List.setIfInBounds_toArray, List.set_cons_zero, List.set_cons_succ]
    refine wpAnyL_one 7 (by kernel_rfl) rfl (fun K hK => ?_)
    refine step_append_run (by rfl) (.tmp 28) (.tmp 30) 43 (by rfl) (by rfl) (by rfl) Hr.out ?_
    refine hK.out _ _ (fun _ => hS2) ?_
    clear hK K
    try simp only [Act.put, List.setIfInBounds_toArray, List.set_cons_zero, List.set_cons_succ]
    refine wpAnyL_take 8 (v := ?_) rfl (by kernel_rfl) (by kernel_rfl) (by kernel_rfl) (by kernel_rfl) (fun _ _ _ h => h) (Or.inl ⟨by rfl, ?_⟩) hS2 ?_
    rotate_left
    · (intro w hSw; (try dsimp only at hSw); go_simp) <;> (try with_reducible rfl)
    try simp only [Act.put, List.setIfInBounds_toArray, List.set_cons_zero, List.set_cons_succ]
    refine wpAnyL_take 9 (v := ?_) rfl (by kernel_rfl) (by kernel_rfl) (by kernel_rfl) (by kernel_rfl) (fun _ _ _ h => h) (Or.inl ⟨by rfl, ?_⟩) hS2 ?_
    rotate_left
    · (intro w hSw; (try dsimp only at hSw); go_simp) <;> (try with_reducible rfl)
    try simp only [Act.put, List.setIfInBounds_toArray, List.set_cons_zero, List.set_cons_succ]
    refine wpAnyL_one 10 (by kernel_rfl) rfl (fun K hK => ?_)
    go_simp
    refine hK.out _ _ (fun h => absurd h (not_rem (by kernel_rfl))) ?_
    clear hK K
    try simp only [Act.put, List.setIfInBounds_toArray, List.set_cons_zero, List.set_cons_succ]
    refine wpAnyL_done (by kernel_rfl) ?_ _
    all_goals (
      go_wp2
      refine bodyPost_end (v := .tuple #[]) (by simp [results, Try.results96, go_sem]) rfl ?_
      exact ⟨rfl, ⟨_, by rw [HF.out]; exact HST.out⟩, HBs.out⟩)
set_option maxHeartbeats 4000000 in
set_option maxRecDepth 100000 in
theorem l19Add_c {w : World} {lo : Nat} {sl v : Value} {L : List Tbl} {M : Tbl} {ok : Bool} {rs : List Res} (hs : Sep lo w (Res.tabs sl L :: Res.tab v M :: rs)) (hlo : lo ≤ w.heap.size) (hok : ok = true → ∃ n, Sq n M ∧ 0 < n) (hL : L.length ≤ 100000) :
    Calls Try.prog 152 #[sl, v, .bool ok] w fun e w' => ∃ sl', e = .returned sl' ∧ Sep lo w' (Res.tabs sl' (addT L M ok) :: rs) ∧ Below lo w w' := by
  have HTm := Lib.hid (New.tab hs.swap.headNew)
  have HTl := Lib.hid (New.tabs hs.headNew)
  obtain ⟨va, vc, rfl, -⟩ := HTm.out.shape
  obtain ⟨la, lc, rfl, -, -, hcl⟩ := HTl.out.shape
  have HS := Lib.hid hs
  have Hok := Lib.hid hok
  have HL := Lib.hid hL
  have Hcl := Lib.hid hcl
  clear hs hok hL hcl
  cases ok with
  | false =>
    have HF := Lib.hid (show addT L M false = L from addT_no (by simp))
    clear HTm HTl Hok Hcl
    go_enter Try.func152, Try.ntmps152
    go_wp2
    go_ret
    exact ⟨_, rfl, by rw [HF.out]; exact HS.out.swap.tail, Below.refl _ _⟩
  | true =>
  by_cases h4 : 4 < M.length
  · have HF := Lib.hid (show addT L M true = L from addT_no (by rintro ⟨-, h, -⟩; omega))
    have h4i : (4 : Int) < (M.length : Int) := by omega
    clear HTm HTl Hok Hcl h4
    go_enter Try.func152, Try.ntmps152
    go_wp2
    go_ret
    exact ⟨_, rfl, by rw [HF.out]; exact HS.out.swap.tail, Below.refl _ _⟩
  obtain ⟨n, hsq, hn0⟩ := Hok.out rfl
  have h4i : ¬ ((4 : Int) < (M.length : Int)) := by omega
  obtain ⟨b, o, c, hv, hb, hE⟩ := Tab.entAt HTm.out rfl (fun r hr => (hsq.2 r hr).trans hsq.1.symm) (by rw [hsq.1]; exact hn0)
  simp at hv
  obtain ⟨rfl, rfl⟩ := hv
  have HE := Lib.hid hE
  have HSm := Lib.hid (show ∀ i, i < M.length → ∀ j, j < M.length → 3 < ent M i j → smallT M = false from fun i hi j hj h => by
    obtain ⟨r, hr, hx⟩ := ent_mem (m := M) (l := M.length) (fun r hr => (hsq.2 r hr).trans hsq.1.symm) hi hj
    cases e : smallT M with
    | false => rfl
    | true =>
      unfold smallT at e
      have h1 := List.all_eq_true.1 (List.all_eq_true.1 e r hr) _ hx
      have h2 := of_decide_eq_true h1
      omega)
  have HSt := Lib.hid (show (∀ i, i < M.length → ∀ j, j < M.length → ent M i j ≤ 3) → smallT M = true from fun h => by
    unfold smallT
    refine List.all_eq_true.2 fun r hr => List.all_eq_true.2 fun x hx => decide_eq_true ?_
    obtain ⟨i, hi⟩ := List.getElem?_of_mem hr
    obtain ⟨j, hj⟩ := List.getElem?_of_mem hx
    have h1 := (List.getElem?_eq_some_iff.1 hi).1
    have h2 := (List.getElem?_eq_some_iff.1 hj).1
    have h3 := h i h1 j (by rw [hsq.2 r hr] at h2; rw [hsq.1]; exact h2)
    unfold ent at h3
    simp [List.getD, hi, hj] at h3
    exact h3)
  have hm0 : 0 < M.length := by rw [hsq.1]; exact hn0
  obtain ⟨m, hm⟩ : ∃ m, m = M.length := ⟨_, rfl⟩
  have Hm := Lib.hid hm
  rw [← hm] at HE HSm HSt hm0 h4i h4 ⊢
  have hMb : m ≤ 4 := by omega
  clear Hok hsq hn0 hE hm
  go_enter Try.func152, Try.ntmps152
  go_wp2
  go_loopg [7] m (fun g i wr => ∃ (k : Nat), i = .int .i64 k ∧ k + g = m ∧ Hid (∀ i, i < k → ∀ j, j < m → ent M i j ≤ 3) ∧ w = wr)
  case atStart => exact ⟨0, rfl, by omega, Lib.hid (fun i hi => by omega), rfl⟩
  case round =>
    obtain ⟨k, rfl, hk, HK, rfl⟩ := hrel
    by_cases hkm : k < m
    · have hki : (k : Int) < (m : Int) := by omega
      obtain ⟨b', o', c', g1, hb', -, gx⟩ := HE.out.at hkm hm0
      have GX := Lib.hid gx
      clear gx
      go_wp2
      go_loopg [8] m (fun g i wr => ∃ (j : Nat), i = .int .i64 j ∧ j + g = m ∧ Hid (∀ i, i < j → ent M k i ≤ 3) ∧ w = wr)
      case atStart => exact ⟨0, rfl, by omega, Lib.hid (fun i hi => by omega), rfl⟩
      case round =>
        obtain ⟨j, rfl, hj, HJ, rfl⟩ := hrel
        by_cases hjm : j < m
        · have hji : (j : Int) < (m : Int) := by omega
          have g2 := GX.out j hjm
          by_cases hx : 3 < ent M k j
          · have HF := Lib.hid (show addT L M true = L from addT_no (by rintro ⟨-, -, h2, -⟩; rw [HSm.out k hkm j hjm hx] at h2; cases h2))
            generalize ent M k j = t at g2 hx
            clear HTm HTl Hcl HE HSm HSt HK HJ GX
            go_wp2
            go_ret
            exact ⟨_, rfl, by rw [HF.out]; have h := HS.out.swap.tail; exact h, Below.refl _ _⟩
          · have HJ2 := Lib.hid (show ∀ i, i < j + 1 → ent M k i ≤ 3 from fun i hi => by
              by_cases e : i = j
              · subst e; omega
              · exact HJ.out i (by omega))
            generalize ent M k j = t at g2 hx
            clear HJ
            go_wp2
            go_roundg (m - (j + 1))
            case measure => omega
            case rel => exact ⟨j + 1, by go_num, by omega, HJ2, rfl⟩
        · have hji : ¬ ((j : Int) < (m : Int)) := by omega
          have HK2 := Lib.hid (show ∀ i, i < k + 1 → ∀ j, j < m → ent M i j ≤ 3 from fun i hi q hq => by
            by_cases e : i = k
            · subst e; exact HJ.out q (by omega)
            · exact HK.out i (by omega) q hq)
          clear HJ HK GX
          go_wp2
          go_roundg (m - (k + 1))
          case measure => omega
          case rel => exact ⟨k + 1, by go_num, by omega, HK2, rfl⟩
    · have hki : ¬ ((k : Int) < (m : Int)) := by omega
      have HSs := Lib.hid (HSt.out fun i hi j hj => HK.out i (by omega) j hj)
      clear HK HE HSm HSt
      go_wp2
      go_loopg [9] L.length (fun g i wr => ∃ (q : Nat), i = .int .i64 q ∧ q + g = L.length ∧ Hid (M ∉ L.take q) ∧ Drawn w wr)
      case atStart => exact ⟨0, rfl, by omega, Lib.hid (by simp), Drawn.refl _⟩
      case round =>
        obtain ⟨q, rfl, hq, HQ, hd⟩ := hrel
        obtain ⟨wq, rfl⟩ : ∃ x, x = wr := ⟨_, rfl⟩
        have hLb := HL.out
        have Hd := Lib.hid hd
        clear hd
        by_cases hql : q < L.length
        · have hqi : (q : Int) < (L.length : Int) := by omega
          obtain ⟨X, hX, _⟩ := at_lt hql
          obtain ⟨bl, ol, rfl, hbl, hx0⟩ := Hcl.out (by omega)
          obtain ⟨u, hu, hux⟩ := hx0 q X hX
          rw [← Hd.out.cell] at hu
          have HC := Lib.hid (spec_EqualMatrix_c (Hd.out.read Tab.frame hux) (Hd.out.read Tab.frame HTm.out))
          rw [← Hm.out] at HC
          have HQ2 := Lib.hid (fun (h : decide (X = M) = false) => (show M ∉ L.take (q + 1) from by
            rw [← take_snoc' hX]
            intro hm
            rcases List.mem_append.1 hm with hm | hm
            · exact HQ.out hm
            · simp at hm
              exact of_decide_eq_false h hm.symm))
          have HIn := Lib.hid (fun (h : decide (X = M) = true) => (show addT L M true = L from addT_no (by
            rintro ⟨-, -, -, h2⟩
            exact h2 (by rw [← of_decide_eq_true h]; exact List.mem_of_getElem? hX))))
          obtain ⟨ua, uc, rfl, -⟩ := hux.shape
          generalize X.length = xl at *
          generalize decide (X = M) = d at HC HQ2 HIn
          clear hX hx0 hux HQ
          go_wp2_with fail
          refine HC.out.mono ?_
          rintro e w2 ⟨rfl, hd2⟩
          have HD2 := Lib.hid (Hd.out.trans hd2)
          clear hd2 HC Hd
          cases d with
          | true =>
            have HF := Lib.hid (HIn.out (by first | rfl | trivial))
            clear HQ2 HIn HTm HTl Hcl
            go_wp2
            go_ret
            exact ⟨_, rfl, by rw [HF.out]; exact (HS.out.swap.tail).below (HD2.out.below _) (Nat.le_refl _), HD2.out.below _⟩
          | false =>
            have HQ3 := Lib.hid (HQ2.out (by first | rfl | trivial))
            clear HQ2 HIn
            go_wp2
            go_roundg (L.length - (q + 1))
            case measure => omega
            case rel => exact ⟨q + 1, by go_num, by omega, HQ3, HD2.out⟩
        · have hqi : ¬ ((q : Int) < (L.length : Int)) := by omega
          have HF := Lib.hid (show addT L M true = L ++ [M] from addT_yes (by have := Hm.out; omega) HSs.out (by have h := HQ.out; rwa [List.take_of_length_le (by omega)] at h))
          have HSq := Lib.hid (HS.out.below (Hd.out.below _) (Nat.le_refl _))
          have hzq := (Hd.out.below 0).size
          have HBq := Lib.hid (Hd.out.below lo)
          obtain ⟨v', w4, hr, hs4, hb4⟩ := HSq.out.absorb (P := Try.prog) (OTab.kept 3 50) 43 43 (.slice none 0 0) 24 Try.underlying43 infoT rfl (by omega) (w1 := wq.alloc (.cells #[.slice (some ⟨b, o, none⟩) m vc] 41)) ((Below.refl _ _).alloc (Nat.le_refl _) _) (bb := wq.heap.size) (c := 1) (by rw [Hm.out]; exact World.cell?_alloc_at _ _ _ 0 rfl) (by have := HL.out; omega) (by have := HL.out; omega)
          obtain ⟨za, zc, rfl, -⟩ := (New.tabs hs4.headNew).shape
          have HS4 := Lib.hid hs4
          have HB4 := Lib.hid (HBq.out.trans hb4)
          have Hr := Lib.hid hr
          generalize (L ++ [M]).length = ln at *
          clear hs4 hb4 hr HSq HBq Hd HQ HTm HTl Hcl HSs
          go_wp2_with (first
            | (at_builtin; refine wpl_append_run rfl (.tmp 52) (.tmp 54) 43 rfl rfl rfl Hr.out ?_)
            | fail)
          go_ret
          exact ⟨_, rfl, by rw [HF.out]; exact HS4.out, HB4.out⟩
end Go.Proofs.Ytdohepngandajaa
