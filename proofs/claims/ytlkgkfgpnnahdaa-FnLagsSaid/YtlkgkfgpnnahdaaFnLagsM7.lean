/-
  Texts of this claim joined: laws for its walks, contracts of the functions that the law reaches.
-/
import Derived.Test.YtlkgkfgpnnahdaaFnLagsM1
import Derived.Deep.RegionHeld3
import Derived.Deep.DeepCutAuto
import Derived.Test.YtlkgkfgpnnahdaaFnLagsM6
section
/-
  The laws of append as steps of a region that draws its order.
-/
namespace Go.Sd
open Go.RowKit Go.Deep

section
variable {P : Program} {w : World} {ops : Array Oper} {o : Oper} {a : Act} {Q : Exit → Act → World → Prop} {K : Act → World → Prop} {E : Prop}

theorem step_append_run (hw : Region.wanted o (yielded ops a.tmps) = true) (s x : Operand) (t : TypeId)
    (ho : o.op = .call { callee := .builtin .append, args := #[s, x], argTypes := #[t, t] }) {v v2 v' : Value} {w' : World} (hs : a.eval s = v) (hx : a.eval x = v2)
    (hr : (Builtin.append_ #[t, t] o.type #[v, v2]).run P w = .ok v' w') (h : K (a.put o.dst v') w') : if Region.wanted o (yielded ops a.tmps) = true then Oper.wp P o a w K Q else E := by
  rw [if_pos hw]
  unfold Oper.wp execOp
  simp only [ho, resolve, invoke, builtin, Sem.run_bind, Sem.run_pure, Result.andThen_ok, List.map_toArray, List.map_cons, List.map_nil, hs, hx, hr]
  exact h

/-- 'append(v, u)' where v is a slice of the call's own, as it stood in an earlier world w0, and u is an element made since. -/
theorem step_push {α : Type} {R : OwnRel α} (hR : Kept R) (hgd : Region.wanted o (yielded ops a.tmps) = true) (s x : Operand) (t : TypeId)
    (ho : o.op = .call { callee := .builtin .append, args := #[s, x], argTypes := #[t, t] })
    (e : TypeId) (z : Value) (bytes : Nat) (ht : P.underlying t = some (.slice e)) (hinfo : (P.info? e).map (fun i => (i.zero, i.size, i.bytes)) = some (some z, 1, bytes)) (hz1 : z.cells = #[z])
    {w0 : World} {lo : Nat} {v : Value} {xs : List α} (h0 : New (OwnOf e R) lo w0 v xs) (hlo : lo ≤ w0.heap.size) (hb : Below w0.heap.size w0 w)
    {u : Value} {y : α} (hu : New R w0.heap.size w u y) {bb : Nat} {c : Nat} (hcell : w.cell? ⟨bb, 0, none⟩ = some u)
    (hs : a.eval s = v) (hx : a.eval x = .slice (some ⟨bb, 0, none⟩) 1 c)
    (hbytes : (xs.length + 1) * bytes ≤ 140737488355328) (h63 : xs.length + 1 ≤ 9223372036854775807)
    (h : ∀ v' w', New (OwnOf e R) lo w' v' (xs ++ [y]) → w.grownBy w' v.ownBlock → (∀ k, v.ownBlock = some k → lo ≤ k ∧ k < w0.heap.size) → Below lo w0 w' → K (a.put o.dst v') w') :
    if Region.wanted o (yielded ops a.tmps) = true then Oper.wp P o a w K Q else E := by
  obtain ⟨i, hi, hzz⟩ := Option.map_eq_some_iff.1 hinfo
  simp only [Prod.mk.injEq] at hzz
  obtain ⟨hz, hsz, hby⟩ := hzz
  obtain ⟨F, ⟨us, Fs, how, hl, hr, rfl⟩, hnd, hge⟩ := h0
  obtain ⟨G, hG, hGn, hGe⟩ := hu
  have hul : us.length = xs.length := by simpa using how.1
  have hvlt : ∀ k, v.ownBlock = some k → lo ≤ k ∧ k < w0.heap.size := fun k hk => ⟨hge k (by simp [hk]), (how.lt k hk).2⟩
  have how1 : w.ownsRow 0 e 1 v xs.length us := ownsRow_keep how fun b hb' => hb.block b (hvlt b hb').2
  obtain ⟨v', w', hrun, how', hg, _, hat⟩ := run_append_own_at (P := P) w 0 t o.type e i z 1 bytes ht hi hz hsz hby (by rw [hz1]; rfl) (by decide) v xs.length us how1 ⟨bb, 0, none⟩ 1 c [u] (by simp)
    (by
      intro j u' hj
      match j, hj with
      | 0, hj =>
        simp at hj
        subst hj
        simpa [Addr.add] using hcell)
    (by
      intro u' hu'
      simp at hu'
      subst hu'
      exact hR.one _ _ _ _ hG) h63 hbytes (Nat.zero_le _)
  refine step_append_run hgd s x t ho hs hx hrun ?_
  have hlt0 : ∀ b, b ∈ Fs.flatten → b < w0.heap.size := fun b hb' => by
    obtain ⟨H, hH, hb2⟩ := List.mem_flatten.1 hb'
    obtain ⟨j, hj⟩ := List.getElem?_of_mem hH
    have hj1 : j < Fs.length := (List.getElem?_eq_some_iff.1 hj).1
    exact hR.lt _ _ _ _ (hr j us[j] xs[j] H (List.getElem?_eq_getElem (by omega)) (List.getElem?_eq_getElem (by omega)) hj) b hb2
  have hsize := hb.size
  have hGlt : ∀ b, b ∈ G → b < w.heap.size := hR.lt _ _ _ _ hG
  have hnd' := List.nodup_append.1 hnd
  have hnv : ∀ k, v.ownBlock = some k → k ∉ Fs.flatten := fun k hk hm => hnd'.2.2 k (by simp [hk]) k hm rfl
  refine h v' w' ⟨v'.ownBlock.toList ++ (Fs ++ [G]).flatten, ⟨us ++ [u], Fs ++ [G], by simpa using how', by simp [hl], ?_, rfl⟩, ?_, ?_⟩ hg hvlt ?_
  · intro j u' x' G' hu' hx' hG'
    by_cases hj : j < xs.length
    · rw [List.getElem?_append_left (by omega)] at hu' hx' hG'
      refine hR.keep _ _ _ _ _ (hr j u' x' G' hu' hx' hG') fun b hb' => ?_
      have hm : b ∈ Fs.flatten := List.mem_flatten_of_mem (List.mem_of_getElem? hG') hb'
      have h1 := hlt0 b hm
      rw [hg.block b (by omega) (fun e => hnv b e.symm hm), hb.block b h1]
    · have hj2 : j = xs.length := by
        have := (List.getElem?_eq_some_iff.1 hx').1
        simp at this; omega
      subst hj2
      rw [List.getElem?_append_right (by omega)] at hu' hx' hG'
      simp [hul, hl] at hu' hx' hG'
      subst hu' hx' hG'
      refine hR.keep _ _ _ _ _ hG fun b hb' => hg.block b (hGlt b hb') fun e => ?_
      have := hvlt b e.symm
      have := hGe b hb'
      omega
  · simp only [List.flatten_append, List.flatten_cons, List.flatten_nil, List.append_nil]
    refine List.nodup_append.2 ⟨by cases v'.ownBlock <;> simp, List.nodup_append.2 ⟨hnd'.2.1, hGn, ?_⟩, ?_⟩
    · intro p hp q hq e
      subst e
      have := hlt0 p hp
      have := hGe p hq
      omega
    · intro p hp q hq e
      subst e
      simp at hp
      rcases hat with hat | hat
      · rw [hat] at hp
        rcases List.mem_append.1 hq with hq | hq
        · exact hnv p hp hq
        · have := hvlt p hp
          have := hGe p hq
          omega
      · rw [hat] at hp
        simp at hp
        rcases List.mem_append.1 hq with hq | hq
        · have := hlt0 p hq; omega
        · have := hGlt p hq; omega
  · intro b hb'
    rcases List.mem_append.1 hb' with hb' | hb'
    · simp at hb'
      rcases hat with hat | hat
      · rw [hat] at hb'; exact (hvlt b hb').1
      · rw [hat] at hb'; simp at hb'; omega
    · simp at hb'
      rcases hb' with ⟨H, hH, hb'⟩ | hb'
      · exact hge b (by simp; exact Or.inr ⟨H, hH, hb'⟩)
      · have := hGe b hb'; omega
  · exact (hb.mono hlo).grown hg (by omega) (fun k hk => (hvlt k hk).1)

theorem step_append_none (hgd : Region.wanted o (yielded ops a.tmps) = true) (s x : Operand) (t : TypeId)
    (ho : o.op = .call { callee := .builtin .append, args := #[s, x], argTypes := #[t, t] })
    (base : Nat) (e : TypeId) (i : TypeInfo) (size : Nat) (ht : P.underlying t = some (.slice e)) (hi : P.info? e = some i)
    (v : Value) (n : Nat) (xs : List Value) (hs : a.eval s = v) (hown : w.ownsRow base e size v n xs) (hx : a.eval x = .slice none 0 0)
    (h : K (a.put o.dst v) w) : if Region.wanted o (yielded ops a.tmps) = true then Oper.wp P o a w K Q else E :=
  step_append_run hgd s x t ho hs hx (run_append_owned_none (P := P) w base t o.type e i size ht hi v n xs hown) h

theorem step_append_vals {α : Type} {f : α → Value} (hf : ∀ x, (f x).oneCell' = true) (hgd : Region.wanted o (yielded ops a.tmps) = true) (s x : Operand) (t : TypeId)
    (ho : o.op = .call { callee := .builtin .append, args := #[s, x], argTypes := #[t, t] })
    (e : TypeId) (z : Value) (bytes : Nat) (ht : P.underlying t = some (.slice e)) (hinfo : (P.info? e).map (fun i => (i.zero, i.size, i.bytes)) = some (some z, 1, bytes)) (hz1 : z.cells = #[z])
    {lo : Nat} {v : Value} {ys : List α} (h0 : New (OwnOf e (OValR f)) lo w v ys) (hlo : lo ≤ w.heap.size)
    {v2 : Value} {xs : List α} (h2 : SlOf (ValR f) w v2 xs)
    (hs : a.eval s = v) (hx : a.eval x = v2)
    (hbytes : (ys.length + xs.length) * bytes ≤ 140737488355328) (h63 : ys.length + xs.length ≤ 9223372036854775807)
    (h : ∀ v' w', New (OwnOf e (OValR f)) lo w' v' (ys ++ xs) → w.grownBy w' v.ownBlock → (∀ k, v.ownBlock = some k → lo ≤ k ∧ k < w.heap.size) → Below lo w w' → K (a.put o.dst v') w') :
    if Region.wanted o (yielded ops a.tmps) = true then Oper.wp P o a w K Q else E := by
  obtain ⟨i, hi, hzz⟩ := Option.map_eq_some_iff.1 hinfo
  simp only [Prod.mk.injEq] at hzz
  obtain ⟨hz, hsz, hby⟩ := hzz
  have h0' := h0
  obtain ⟨F, ⟨us, Fs, how, hl, hr, rfl⟩, hnd, hge⟩ := h0
  have hul : us.length = ys.length := by simpa using how.1
  have hvlt : ∀ k, v.ownBlock = some k → lo ≤ k ∧ k < w.heap.size := fun k hk => ⟨hge k (by simp [hk]), (how.lt k hk).2⟩
  obtain ⟨vs, hsl, hvl, hvr⟩ := h2
  have hvs : vs = xs.map f := by
    apply List.ext_getElem?
    intro j
    by_cases hj : j < xs.length
    · rw [List.getElem?_map, List.getElem?_eq_getElem hj, List.getElem?_eq_getElem (by omega)]
      exact congrArg some (hvr j _ _ (List.getElem?_eq_getElem (by omega)) (List.getElem?_eq_getElem hj))
    · rw [List.getElem?_eq_none (by omega), List.getElem?_eq_none (by simp; omega)]
  subst hvs
  obtain ⟨_, ad, c, hv2, _, _, hn, hcells⟩ := hsl
  simp only [List.length_map] at hv2
  have key : ∀ (ad : Addr), (∀ (j : Nat) (u : Value), (xs.map f)[j]? = some u → w.cell? (ad.add j) = some u) → v2 = .slice (some ad) xs.length c → (if Region.wanted o (yielded ops a.tmps) = true then Oper.wp P o a w K Q else E) := by
    intro ad had hv2'
    obtain ⟨v', w', hrun, how', hg, _, hat⟩ := run_append_own_at (P := P) w 0 t o.type e i z 1 bytes ht hi hz hsz hby (by rw [hz1]; rfl) (by decide) v ys.length us how ad xs.length c (xs.map f) (by simp) had
      (by
        intro u hu
        obtain ⟨y, _, rfl⟩ := List.mem_map.1 hu
        exact hf y) h63 hbytes (Nat.zero_le _)
    refine step_append_run hgd s x t ho hs (by rw [hx, hv2']) hrun ?_
    have hFs : ∀ G, G ∈ Fs → G = [] := fun G hG => by
      obtain ⟨j, hj⟩ := List.getElem?_of_mem hG
      have hj1 : j < Fs.length := (List.getElem?_eq_some_iff.1 hj).1
      exact (hr j us[j] ys[j] G (List.getElem?_eq_getElem (by omega)) (List.getElem?_eq_getElem (by omega)) hj).2
    have hfl : (Fs ++ List.replicate xs.length []).flatten = [] := by
      rw [List.flatten_eq_nil_iff]
      intro G hG
      rcases List.mem_append.1 hG with hG | hG
      · exact hFs G hG
      · exact (List.mem_replicate.1 hG).2
    refine h v' w' ⟨_, ⟨us ++ xs.map f, Fs ++ List.replicate xs.length [], by simpa using how', by simp [hl], ?_, rfl⟩, ?_, ?_⟩ hg hvlt (Below.of_grown hg hlo fun k hk => (hvlt k hk).1)
    · intro j u' x' G' hu' hx' hG'
      by_cases hj : j < ys.length
      · rw [List.getElem?_append_left (by omega)] at hu' hx' hG'
        exact hr j u' x' G' hu' hx' hG'
      · rw [List.getElem?_append_right (by omega)] at hu' hx' hG'
        rw [hul, List.getElem?_map, hx'] at hu'
        simp at hu'
        exact ⟨hu'.symm, (List.mem_replicate.1 (List.mem_of_getElem? hG')).2⟩
    · rw [hfl]
      cases v'.ownBlock <;> simp
    · intro b hb
      rw [hfl] at hb
      simp at hb
      rcases hat with hat | hat
      · rw [hat] at hb; exact (hvlt b hb).1
      · rw [hat] at hb; simp at hb; omega
  cases ad with
  | none =>
    have hx0 : xs = [] := by
      rcases hcells with h | ⟨b, o, h, _⟩
      · simpa using h
      · cases h
    subst hx0
    have := hn rfl
    subst this
    refine step_append_none hgd s x t ho 0 e i 1 ht hi v _ us hs how (by rw [hx, hv2]; rfl) ?_
    exact h v w (by rw [List.append_nil]; exact h0') ⟨rfl, rfl, rfl, Nat.le_refl _, fun _ _ _ => rfl⟩ hvlt (Below.refl _ _)
  | some ad =>
    rcases hcells with hnil | ⟨b, o, had, _, hc⟩
    · exact key ad (by rw [hnil]; simp) hv2
    · cases had
      refine key _ (fun j u hj => ?_) hv2
      have := hc j u hj
      cases j <;> simpa [Addr.add] using this
end
end Go.Sd
end

section
/-
  A table without a row and a column: the program's.
-/
namespace Go.Proofs.Ytlkgkfgpnnahdaa
open Go.RowKit Go.Deep Go.Sd
set_option linter.unusedSimpArgs false
set_option maxHeartbeats 1000000 in
set_option maxRecDepth 100000 in
theorem without_c {w : World} {va : Value} {m : List (List Int)} {I J n : Nat} (h1 : Tab w va m) (hm : Sq n m) (hI : I < n) (hJ : J < n) (hn : n ≤ 9) :
    Calls Try.prog 235 #[va, .int .i64 I, .int .i64 J] w (Makes (OTab 3 33) w (minorT m I J n)) := by
  have hn0 : 0 < n := by omega
  obtain ⟨ab, ao, ac, rfl, hab, hae⟩ := h1.entAt hm.1 hm.2 hn0
  clear h1 hm
  go_enter Try.func235, Try.ntmps235
  go_wp2
  go_loopg [7, 13] n (fun g v ii wr => ∃ (k : Nat), ii = .int .i64 k ∧ k + g = n ∧ New (OTab 3 33) w.heap.size wr v ((minorT m I J n).take (cnt I k)) ∧ Below w.heap.size w wr)
  case atStart => exact ⟨0, rfl, by omega, by rw [cnt_zero]; exact New.empty w (Nat.le_refl _), (Below.refl _ _).alloc (Nat.le_refl _) _⟩
  case round =>
    obtain ⟨k, rfl, hk, hnew, hbel⟩ := hrel
    have hle := hbel.size
    have hae1 := hae.frame hab hbel
    have hab1 : ab < wr.heap.size := by omega
    obtain ⟨oa, on', oc, rfl⟩ := hnew.slice
    have Hn := Lib.hid hnew
    have Hb := Lib.hid hbel
    have Hlk := Lib.hid (show ((minorT m I J n).take (cnt I k)).length ≤ n from by have := cnt_le I k; rw [List.length_take]; omega)
    clear hnew hbel hae
    by_cases hlt : k < n
    · obtain ⟨rb, ro, rc, hA1, hrb, hIn, hA2⟩ := hae1.at hlt hn0
      by_cases hkI : k = I
      · have t1 : ((k : Int) != (I : Int)) = false := by simp [hkI]
        have Hs := Lib.hid (cnt_same I)
        have HkI := Lib.hid hkI
        clear hkI hae1 hIn hA2
        go_wp2
        go_roundg (n - (k + 1))
        case measure => omega
        case rel => exact ⟨k + 1, by go_num, by omega, by have e := HkI.out; have h := Hn.out; rw [e] at h ⊢; rw [Hs.out]; exact h, Hb.out⟩
      · have t1 : ((k : Int) != (I : Int)) = true := by simp; omega
        have hcap := Ints.capn hIn
        have hcp1 : n ≤ rc := hcap.2.1
        have hcp2 : rc ≤ 9223372036854775807 := hcap.2.2
        have Hp1 := Lib.hid (Ints.part hA2 hrb (s := 0) (len := J) (c := rc) (by omega) (by omega) hcp2)
        have Hp2 := Lib.hid (fun (hr : J + 1 < rc) => Ints.part hA2 hrb (s := J + 1) (len := n - (J + 1)) (c := rc - (J + 1)) (by omega) (by omega) (by omega))
        have Hat := Lib.hid (show (minorT m I J n)[cnt I k]? = some (rowOf' (n - 1) (fun l => ent m k (skip J l))) from by unfold minorT; rw [tabOf_at (cnt_lt hkI hI hlt), skip_cnt hkI])
        have Hcn := Lib.hid (cnt_next hkI)
        have hrb2 := hrb
        have Hsp := Lib.hid (rowOf_split hJ (ent m k))
        clear hkI hIn hcap hA2 hae1
        by_cases hrc : J + 1 < rc
        · have Hp2' := Lib.hid (Hp2.out hrc)
          clear Hp2
          have hne : ¬ rc = J + 1 := by omega
          have hJrc : J ≤ rc := by omega
          have hJi : (J : Int) ≤ (rc : Int) := by omega
          have hw1 : IntKind.i64.wrap ((J : Int) + 1) = (J : Int) + 1 := IntWalk.i64_in _ (by omega)
          have hw2 : (0 : Int) ≤ (J : Int) + 1 := by omega
          have hw3 : (J : Int) + 1 ≤ (n : Int) := by omega
          have hw4 : ((J : Int) + 1).toNat = J + 1 := by omega
          obtain ⟨w1, e1⟩ : ∃ x, x = (wr.alloc (.cells #[] 3)).drew := ⟨_, rfl⟩
          have hb1 : Below wr.heap.size wr w1 := by rw [e1]; exact ((Below.refl wr.heap.size wr).alloc (Nat.le_refl _) _).drew
          have hn1 : New (OwnOf 3 (OValR (Value.int .i64))) wr.heap.size w1 (.slice (some ⟨wr.heap.size, 0, none⟩) 0 0) [] := by rw [e1]; exact New.empty (R := OValR (Value.int .i64)) (lo := wr.heap.size) wr (Nat.le_refl _)
          obtain ⟨v2, w2, hr1, hn2, -, hb2⟩ := run_vals (P := Try.prog) (f := Value.int .i64) (fun _ => rfl) 33 33 3 (.int .i64 0) 8 Try.underlying33 infoI rfl hn1 hb1.size (Ints.frame _ _ _ _ Hp1.out hb1) (by rw [rowOf_len]; simp; omega) (by rw [rowOf_len]; simp; omega)
          obtain ⟨xa, xn, xc, rfl⟩ := hn2.slice
          have hb2' := hb1.trans hb2
          obtain ⟨v3, w3, hr2, hn3, -, hb3⟩ := run_vals (P := Try.prog) (f := Value.int .i64) (fun _ => rfl) 33 33 3 (.int .i64 0) 8 Try.underlying33 infoI rfl hn2 hb2'.size (Ints.frame _ _ _ _ Hp2'.out hb2') (by simp only [List.length_append, rowOf_len, List.length_nil]; omega) (by simp only [List.length_append, rowOf_len, List.length_nil]; omega)
          obtain ⟨ya, yn, yc, rfl⟩ := hn3.slice
          have hb3' := hb2'.trans hb3
          have hn3' : New (OInts 3) wr.heap.size w3 (.slice ya yn yc) (rowOf' (n - 1) (fun l => ent m k (skip J l))) := by rw [← Hsp.out]; exact hn3
          obtain ⟨w4, e4⟩ : ∃ x, x = w3.alloc (.cells #[.slice ya yn yc] 33) := ⟨_, rfl⟩
          obtain ⟨v5, w5, hr3, hn5, -, hb5⟩ := run_push (P := Try.prog) (w := w4) (OInts.kept _) 24 24 33 (.slice none 0 0) 24 Try.underlying24 infoR rfl Hn.out hle (by rw [e4]; exact hb3'.alloc hb3'.size _) (New.keep (OInts.kept _) hn3' (show Below w3.heap.size w3 w4 from by rw [e4]; exact (Below.refl w3.heap.size _).alloc (Nat.le_refl _) _) (Nat.le_refl _)) (bb := w3.heap.size) (c := 1) (by rw [e4]; simp) (by have := Hlk.out; omega) (by have := Hlk.out; omega)
          have Hr1 := Lib.hid hr1
          have Hr2 := Lib.hid hr2
          have Hr3 := Lib.hid hr3
          have Hn5 := Lib.hid hn5
          have Hb5 := Lib.hid hb5
          clear hb1 hn1 hr1 hn2 hb2 hb2' hr2 hn3 hb3 hb3' hn3' hr3 hn5 hb5
          go_wp2
          refine wp_region_L (fun w' => True) (by kernel_rfl) ?_
          refine wpAnyL_take 0 (v := ?_) rfl (by kernel_rfl) (by kernel_rfl) (by kernel_rfl) (by kernel_rfl) (fun _ _ _ h => h) (Or.inl ⟨by rfl, ?_⟩) trivial ?_
          rotate_left
          · (intro w hSw; (try dsimp only at hSw); go_simp) <;> (try with_reducible rfl)
          try simp only [Act.put, List.getElem_toArray, List.getElem_cons_zero, List.getElem_cons_succ, List.setIfInBounds_toArray, List.set_cons_zero, List.set_cons_succ]
          refine wpAnyL_take 2 (v := ?_) rfl (by kernel_rfl) (by kernel_rfl) (by kernel_rfl) (by kernel_rfl) (fun _ _ _ h => h) (Or.inl ⟨by rfl, ?_⟩) trivial ?_
          rotate_left
          · (intro w hSw; (try dsimp only at hSw); go_simp) <;> (try with_reducible rfl)
          try simp only [Act.put, List.getElem_toArray, List.getElem_cons_zero, List.getElem_cons_succ, List.setIfInBounds_toArray, List.set_cons_zero, List.set_cons_succ]
          refine wpAnyL_take 3 (v := ?_) rfl (by kernel_rfl) (by kernel_rfl) (by kernel_rfl) (by kernel_rfl) (fun _ _ _ h => h) (Or.inl ⟨by rfl, ?_⟩) trivial ?_
          rotate_left
          · (intro w hSw; (try dsimp only at hSw); go_simp) <;> (try with_reducible rfl)
          try simp only [Act.put, List.getElem_toArray, List.getElem_cons_zero, List.getElem_cons_succ, List.setIfInBounds_toArray, List.set_cons_zero, List.set_cons_succ]
          refine wpAnyL_take 4 (v := ?_) rfl (by kernel_rfl) (by kernel_rfl) (by kernel_rfl) (by kernel_rfl) (fun _ _ _ h => h) (Or.inl ⟨by rfl, ?_⟩) trivial ?_
          rotate_left
          · (intro w hSw; (try dsimp only at hSw); go_simp) <;> (try with_reducible rfl)
          try simp only [Act.put, List.getElem_toArray, List.getElem_cons_zero, List.getElem_cons_succ, List.setIfInBounds_toArray, List.set_cons_zero, List.set_cons_succ]
          refine wpAnyL_take 6 (v := ?_) rfl (by kernel_rfl) (by kernel_rfl) (by kernel_rfl) (by kernel_rfl) (fun _ _ _ h => h) (Or.inl ⟨by rfl, ?_⟩) trivial ?_
          rotate_left
          · (intro w hSw; (try dsimp only at hSw); go_simp) <;> (try with_reducible rfl)
          try simp only [Act.put, List.getElem_toArray, List.getElem_cons_zero, List.getElem_cons_succ, List.setIfInBounds_toArray, List.set_cons_zero, List.set_cons_succ]
          refine wpAnyL_take 7 (v := ?_) rfl (by kernel_rfl) (by kernel_rfl) (by kernel_rfl) (by kernel_rfl) (fun _ _ _ h => h) (Or.inl ⟨by rfl, ?_⟩) trivial ?_
          rotate_left
          · (intro w hSw; (try dsimp only at hSw); go_simp) <;> (try with_reducible rfl)
          try simp only [Act.put, List.getElem_toArray, List.getElem_cons_zero, List.getElem_cons_succ, List.setIfInBounds_toArray, List.set_cons_zero, List.set_cons_succ]
          refine wpAnyL_take 8 (v := ?_) rfl (by kernel_rfl) (by kernel_rfl) (by kernel_rfl) (by kernel_rfl) (fun _ _ _ h => h) (Or.inl ⟨by rfl, ?_⟩) trivial ?_
          rotate_left
          · (intro w hSw; (try dsimp only at hSw); go_simp) <;> (try with_reducible rfl)
          try simp only [Act.put, List.getElem_toArray, List.getElem_cons_zero, List.getElem_cons_succ, List.setIfInBounds_toArray, List.set_cons_zero, List.set_cons_succ]
          refine wpAnyL_take 9 (v := ?_) rfl (by kernel_rfl) (by kernel_rfl) (by kernel_rfl) (by kernel_rfl) (fun _ _ _ h => h) (Or.inl ⟨by rfl, ?_⟩) trivial ?_
          rotate_left
          · (intro w hSw; (try dsimp only at hSw); go_simp) <;> (try with_reducible rfl)
          try simp only [Act.put, List.getElem_toArray, List.getElem_cons_zero, List.getElem_cons_succ, List.setIfInBounds_toArray, List.set_cons_zero, List.set_cons_succ]
          refine wpAnyL_one 1 (by kernel_rfl) rfl (fun K hK => ?_)
          go_simp
          refine hK.out _ _ (fun _ => trivial) ?_
          clear hK K
          try simp only [Act.put, List.getElem_toArray, List.getElem_cons_zero, List.getElem_cons_succ, List.setIfInBounds_toArray, List.set_cons_zero, List.set_cons_succ]
          rw [← e1]
          refine wpAnyL_one 5 (by kernel_rfl) rfl (fun K hK => ?_)
          refine step_append_run (by rfl) (.tmp 22) (.tmp 25) 33 (by rfl) (by rfl) (by rfl) Hr1.out ?_
          refine hK.out _ _ (fun _ => trivial) ?_
          clear hK K
          try simp only [Act.put, List.getElem_toArray, List.getElem_cons_zero, List.getElem_cons_succ, List.setIfInBounds_toArray, List.set_cons_zero, List.set_cons_succ]
          refine wpAnyL_one 10 (by kernel_rfl) rfl (fun K hK => ?_)
          refine step_append_run (by rfl) (.tmp 26) (.tmp 30) 33 (by rfl) (by rfl) (by rfl) Hr2.out ?_
          refine hK.out _ _ (fun _ => trivial) ?_
          clear hK K
          try simp only [Act.put, List.getElem_toArray, List.getElem_cons_zero, List.getElem_cons_succ, List.setIfInBounds_toArray, List.set_cons_zero, List.set_cons_succ]
          refine wpAnyL_one 11 (by kernel_rfl) rfl (fun K hK => ?_)
          go_simp
          refine hK.out _ _ (fun _ => trivial) ?_
          clear hK K
          try simp only [Act.put, List.getElem_toArray, List.getElem_cons_zero, List.getElem_cons_succ, List.setIfInBounds_toArray, List.set_cons_zero, List.set_cons_succ]
          rw [← e4]
          refine wpAnyL_one 12 (by kernel_rfl) rfl (fun K hK => ?_)
          refine step_append_run (by rfl) (.tmp 21) (.tmp 32) 24 (by rfl) (by rfl) (by rfl) Hr3.out ?_
          refine hK.out _ _ (fun _ => trivial) ?_
          clear hK K
          try simp only [Act.put, List.getElem_toArray, List.getElem_cons_zero, List.getElem_cons_succ, List.setIfInBounds_toArray, List.set_cons_zero, List.set_cons_succ]
          refine wpAnyL_one 13 (by kernel_rfl) rfl (fun K hK => ?_)
          go_simp
          refine hK.out _ _ (fun h => absurd h (not_rem (by kernel_rfl))) ?_
          clear hK K
          try simp only [Act.put, List.getElem_toArray, List.getElem_cons_zero, List.getElem_cons_succ, List.setIfInBounds_toArray, List.set_cons_zero, List.set_cons_succ]
          refine wpAnyL_done (by kernel_rfl) ?_ _
          go_wp2
          go_roundg (n - (k + 1))
          case measure => omega
          case rel => exact ⟨k + 1, by go_num, by omega, by rw [Hcn.out, ← take_snoc' Hat.out]; exact Hn5.out, Hb.out.trans Hb5.out⟩
        · have hne : rc = J + 1 := by omega
          have hnJ : n = J + 1 := by omega
          have Hp2' := Lib.hid (show Ints wr (.slice (some ⟨rb, ro, none⟩) 0 0) (rowOf' (n - (J + 1)) (fun t => ent m k (J + 1 + t))) from by
            rw [show n - (J + 1) = 0 from by omega]
            exact ⟨[], ⟨by simp, _, 0, rfl, by simp, by simp, by simp, Or.inl rfl⟩, rfl, by simp⟩)
          clear Hp2
          have HnJ := Lib.hid hnJ
          subst hne
          clear hnJ
          have hJi : (J : Int) ≤ (J : Int) + 1 := by omega
          have hw1 : IntKind.i64.wrap ((J : Int) + 1) = (J : Int) + 1 := IntWalk.i64_in _ (by have := HnJ.out; omega)
          have hw2 : (0 : Int) ≤ (J : Int) + 1 := by omega
          have hw3 : (J : Int) + 1 ≤ (n : Int) := by have := HnJ.out; omega
          have hw4 : ((J : Int) + 1).toNat = J + 1 := by omega
          have hw5 : n - (J + 1) = 0 := by have := HnJ.out; omega
          obtain ⟨w1, e1⟩ : ∃ x, x = (wr.alloc (.cells #[] 3)).drew := ⟨_, rfl⟩
          have hb1 : Below wr.heap.size wr w1 := by rw [e1]; exact ((Below.refl wr.heap.size wr).alloc (Nat.le_refl _) _).drew
          have hn1 : New (OwnOf 3 (OValR (Value.int .i64))) wr.heap.size w1 (.slice (some ⟨wr.heap.size, 0, none⟩) 0 0) [] := by rw [e1]; exact New.empty (R := OValR (Value.int .i64)) (lo := wr.heap.size) wr (Nat.le_refl _)
          obtain ⟨v2, w2, hr1, hn2, -, hb2⟩ := run_vals (P := Try.prog) (f := Value.int .i64) (fun _ => rfl) 33 33 3 (.int .i64 0) 8 Try.underlying33 infoI rfl hn1 hb1.size (Ints.frame _ _ _ _ Hp1.out hb1) (by rw [rowOf_len]; simp; omega) (by rw [rowOf_len]; simp; omega)
          obtain ⟨xa, xn, xc, rfl⟩ := hn2.slice
          have hb2' := hb1.trans hb2
          obtain ⟨v3, w3, hr2, hn3, -, hb3⟩ := run_vals (P := Try.prog) (f := Value.int .i64) (fun _ => rfl) 33 33 3 (.int .i64 0) 8 Try.underlying33 infoI rfl hn2 hb2'.size (Ints.frame _ _ _ _ Hp2'.out hb2') (by simp only [List.length_append, rowOf_len, List.length_nil]; omega) (by simp only [List.length_append, rowOf_len, List.length_nil]; omega)
          obtain ⟨ya, yn, yc, rfl⟩ := hn3.slice
          have hb3' := hb2'.trans hb3
          have hn3' : New (OInts 3) wr.heap.size w3 (.slice ya yn yc) (rowOf' (n - 1) (fun l => ent m k (skip J l))) := by rw [← Hsp.out]; exact hn3
          obtain ⟨w4, e4⟩ : ∃ x, x = w3.alloc (.cells #[.slice ya yn yc] 33) := ⟨_, rfl⟩
          obtain ⟨v5, w5, hr3, hn5, -, hb5⟩ := run_push (P := Try.prog) (w := w4) (OInts.kept _) 24 24 33 (.slice none 0 0) 24 Try.underlying24 infoR rfl Hn.out hle (by rw [e4]; exact hb3'.alloc hb3'.size _) (New.keep (OInts.kept _) hn3' (show Below w3.heap.size w3 w4 from by rw [e4]; exact (Below.refl w3.heap.size _).alloc (Nat.le_refl _) _) (Nat.le_refl _)) (bb := w3.heap.size) (c := 1) (by rw [e4]; simp) (by have := Hlk.out; omega) (by have := Hlk.out; omega)
          have Hr1 := Lib.hid hr1
          have Hr2 := Lib.hid hr2
          have Hr3 := Lib.hid hr3
          have Hn5 := Lib.hid hn5
          have Hb5 := Lib.hid hb5
          clear hb1 hn1 hr1 hn2 hb2 hb2' hr2 hn3 hb3 hb3' hn3' hr3 hn5 hb5
          go_wp2
          refine wp_region_L (fun w' => True) (by kernel_rfl) ?_
          refine wpAnyL_take 0 (v := ?_) rfl (by kernel_rfl) (by kernel_rfl) (by kernel_rfl) (by kernel_rfl) (fun _ _ _ h => h) (Or.inl ⟨by rfl, ?_⟩) trivial ?_
          rotate_left
          · (intro w hSw; (try dsimp only at hSw); go_simp) <;> (try with_reducible rfl)
          try simp only [Act.put, List.getElem_toArray, List.getElem_cons_zero, List.getElem_cons_succ, List.setIfInBounds_toArray, List.set_cons_zero, List.set_cons_succ]
          refine wpAnyL_take 2 (v := ?_) rfl (by kernel_rfl) (by kernel_rfl) (by kernel_rfl) (by kernel_rfl) (fun _ _ _ h => h) (Or.inl ⟨by rfl, ?_⟩) trivial ?_
          rotate_left
          · (intro w hSw; (try dsimp only at hSw); go_simp) <;> (try with_reducible rfl)
          try simp only [Act.put, List.getElem_toArray, List.getElem_cons_zero, List.getElem_cons_succ, List.setIfInBounds_toArray, List.set_cons_zero, List.set_cons_succ]
          refine wpAnyL_take 3 (v := ?_) rfl (by kernel_rfl) (by kernel_rfl) (by kernel_rfl) (by kernel_rfl) (fun _ _ _ h => h) (Or.inl ⟨by rfl, ?_⟩) trivial ?_
          rotate_left
          · (intro w hSw; (try dsimp only at hSw); go_simp) <;> (try with_reducible rfl)
          try simp only [Act.put, List.getElem_toArray, List.getElem_cons_zero, List.getElem_cons_succ, List.setIfInBounds_toArray, List.set_cons_zero, List.set_cons_succ]
          refine wpAnyL_take 4 (v := ?_) rfl (by kernel_rfl) (by kernel_rfl) (by kernel_rfl) (by kernel_rfl) (fun _ _ _ h => h) (Or.inl ⟨by rfl, ?_⟩) trivial ?_
          rotate_left
          · (intro w hSw; (try dsimp only at hSw); go_simp) <;> (try with_reducible rfl)
          try simp only [Act.put, List.getElem_toArray, List.getElem_cons_zero, List.getElem_cons_succ, List.setIfInBounds_toArray, List.set_cons_zero, List.set_cons_succ]
          refine wpAnyL_take 6 (v := ?_) rfl (by kernel_rfl) (by kernel_rfl) (by kernel_rfl) (by kernel_rfl) (fun _ _ _ h => h) (Or.inl ⟨by rfl, ?_⟩) trivial ?_
          rotate_left
          · (intro w hSw; (try dsimp only at hSw); go_simp) <;> (try with_reducible rfl)
          try simp only [Act.put, List.getElem_toArray, List.getElem_cons_zero, List.getElem_cons_succ, List.setIfInBounds_toArray, List.set_cons_zero, List.set_cons_succ]
          refine wpAnyL_take 7 (v := ?_) rfl (by kernel_rfl) (by kernel_rfl) (by kernel_rfl) (by kernel_rfl) (fun _ _ _ h => h) (Or.inl ⟨by rfl, ?_⟩) trivial ?_
          rotate_left
          · (intro w hSw; (try dsimp only at hSw); go_simp) <;> (try with_reducible rfl)
          try simp only [Act.put, List.getElem_toArray, List.getElem_cons_zero, List.getElem_cons_succ, List.setIfInBounds_toArray, List.set_cons_zero, List.set_cons_succ]
          refine wpAnyL_take 8 (v := ?_) rfl (by kernel_rfl) (by kernel_rfl) (by kernel_rfl) (by kernel_rfl) (fun _ _ _ h => h) (Or.inl ⟨by rfl, ?_⟩) trivial ?_
          rotate_left
          · (intro w hSw; (try dsimp only at hSw); go_simp) <;> (try with_reducible rfl)
          try simp only [Act.put, List.getElem_toArray, List.getElem_cons_zero, List.getElem_cons_succ, List.setIfInBounds_toArray, List.set_cons_zero, List.set_cons_succ]
          refine wpAnyL_take 9 (v := ?_) rfl (by kernel_rfl) (by kernel_rfl) (by kernel_rfl) (by kernel_rfl) (fun _ _ _ h => h) (Or.inl ⟨by rfl, ?_⟩) trivial ?_
          rotate_left
          · (intro w hSw; (try dsimp only at hSw); go_simp) <;> (try with_reducible rfl)
          try simp only [Act.put, List.getElem_toArray, List.getElem_cons_zero, List.getElem_cons_succ, List.setIfInBounds_toArray, List.set_cons_zero, List.set_cons_succ]
          refine wpAnyL_one 1 (by kernel_rfl) rfl (fun K hK => ?_)
          go_simp
          refine hK.out _ _ (fun _ => trivial) ?_
          clear hK K
          try simp only [Act.put, List.getElem_toArray, List.getElem_cons_zero, List.getElem_cons_succ, List.setIfInBounds_toArray, List.set_cons_zero, List.set_cons_succ]
          rw [← e1]
          refine wpAnyL_one 5 (by kernel_rfl) rfl (fun K hK => ?_)
          refine step_append_run (by rfl) (.tmp 22) (.tmp 25) 33 (by rfl) (by rfl) (by rfl) Hr1.out ?_
          refine hK.out _ _ (fun _ => trivial) ?_
          clear hK K
          try simp only [Act.put, List.getElem_toArray, List.getElem_cons_zero, List.getElem_cons_succ, List.setIfInBounds_toArray, List.set_cons_zero, List.set_cons_succ]
          refine wpAnyL_one 10 (by kernel_rfl) rfl (fun K hK => ?_)
          refine step_append_run (by rfl) (.tmp 26) (.tmp 30) 33 (by rfl) (by rfl) (by rfl) Hr2.out ?_
          refine hK.out _ _ (fun _ => trivial) ?_
          clear hK K
          try simp only [Act.put, List.getElem_toArray, List.getElem_cons_zero, List.getElem_cons_succ, List.setIfInBounds_toArray, List.set_cons_zero, List.set_cons_succ]
          refine wpAnyL_one 11 (by kernel_rfl) rfl (fun K hK => ?_)
          go_simp
          refine hK.out _ _ (fun _ => trivial) ?_
          clear hK K
          try simp only [Act.put, List.getElem_toArray, List.getElem_cons_zero, List.getElem_cons_succ, List.setIfInBounds_toArray, List.set_cons_zero, List.set_cons_succ]
          rw [← e4]
          refine wpAnyL_one 12 (by kernel_rfl) rfl (fun K hK => ?_)
          refine step_append_run (by rfl) (.tmp 21) (.tmp 32) 24 (by rfl) (by rfl) (by rfl) Hr3.out ?_
          refine hK.out _ _ (fun _ => trivial) ?_
          clear hK K
          try simp only [Act.put, List.getElem_toArray, List.getElem_cons_zero, List.getElem_cons_succ, List.setIfInBounds_toArray, List.set_cons_zero, List.set_cons_succ]
          refine wpAnyL_one 13 (by kernel_rfl) rfl (fun K hK => ?_)
          go_simp
          refine hK.out _ _ (fun h => absurd h (not_rem (by kernel_rfl))) ?_
          clear hK K
          try simp only [Act.put, List.getElem_toArray, List.getElem_cons_zero, List.getElem_cons_succ, List.setIfInBounds_toArray, List.set_cons_zero, List.set_cons_succ]
          refine wpAnyL_done (by kernel_rfl) ?_ _
          go_wp2
          go_roundg (n - (k + 1))
          case measure => omega
          case rel => exact ⟨k + 1, by go_num, by omega, by rw [Hcn.out, ← take_snoc' Hat.out]; exact Hn5.out, Hb.out.trans Hb5.out⟩
    · have e : k = n := by omega
      subst e
      have hr := Hn.out
      rw [cnt_full hI, show (minorT m I J k).take (k - 1) = minorT m I J k from tabOf_full] at hr
      have Hr := Lib.hid hr
      clear hr
      go_wp2
      go_ret
      exact ⟨_, rfl, Hr.out, Hb.out⟩
end Go.Proofs.Ytlkgkfgpnnahdaa
end

section
/-
  Determinants, both sides.
-/
namespace Go.Proofs.Ytlkgkfgpnnahdaa
open Go.RowKit Go.Deep Go.Sd
set_option linter.unusedSimpArgs false
def minF (n : Nat) (m : List (List Int)) (j : Nat) : Int := detR n (minorT m 0 j (n + 1))
theorem detR_succ (n : Nat) (m : List (List Int)) : detR (n + 1) m = detSum m (minF n m) (n + 1) := rfl
theorem detSum_zero (m : List (List Int)) (f : Nat → Int) {j : Nat} (h : ent m 0 j = 0) : detSum m f (j + 1) = detSum m f j := by
  rw [detSum, if_neg (by simp [h])]
theorem detSum_next (m : List (List Int)) (f : Nat → Int) {j : Nat} (h : ent m 0 j ≠ 0) : detSum m f (j + 1) = detSum m f j + sgn j * ent m 0 j * f j := by
  rw [detSum, if_pos h]
theorem minF_bd {n : Nat} {m : List (List Int)} (hn : n ≤ 3) (hs : Sq (n + 1) m) (h : Bd 9 m) (j : Nat) : -4374 ≤ minF n m j ∧ minF n m j ≤ 4374 := by
  have h1 := detR_bd n (minorT m 0 j (n + 1)) (by omega) (minorT_sq m 0 j (n + 1)) (minorT_bd hs h)
  have h2 : detB n ≤ 4374 := by
    match n, hn with
    | 0, _ | 1, _ | 2, _ | 3, _ => decide
  unfold minF
  omega
theorem detSum_lim {n : Nat} {m : List (List Int)} (hn : n ≤ 3) (hs : Sq (n + 1) m) (h : Bd 9 m) {j : Nat} (hj : j ≤ n + 1) : -157464 ≤ detSum m (minF n m) j ∧ detSum m (minF n m) j ≤ 157464 := by
  have h1 := detSum_bd (f := minF n m) (Y := 4374) hs (by omega) h (fun j _ => minF_bd hn hs h j) (by decide) j hj
  omega
set_option maxHeartbeats 2000000 in
set_option maxRecDepth 100000 in
theorem impl_det_c : ∀ (n : Nat), n ≤ 4 → ∀ {w : World} {va : Value} {m : List (List Int)}, Tab w va m → Sq n m → Bd 9 m →
    Calls Try.prog 208 #[va] w fun e w' => e = .returned (.int .i64 (detR n m)) ∧ Below w.heap.size w w'
  | 0, _, w, va, m, h, hs, _ => by
    obtain ⟨a, c, rfl, -⟩ := h.shape
    have hl : m.length = 0 := hs.1
    rw [hl]
    go_enter Try.func208, Try.ntmps208
    go_wp2
    go_ret
    exact ⟨rfl, Below.refl _ _⟩
  | n + 1, hn, w, va, m, h, hs, hbd => by
    have IH := Lib.hid (fun (w : World) (va : Value) (m : List (List Int)) => impl_det_c n (by omega) (w := w) (va := va) (m := m))
    have Hb1 := Lib.hid (fun (j : Nat) => minorT_bd (i := 0) (j := j) hs hbd)
    have Hlim := Lib.hid (fun (j : Nat) (hj : j ≤ n + 1) => detSum_lim (by omega) hs hbd hj)
    have HmF := Lib.hid (fun (j : Nat) => minF_bd (by omega) hs hbd j)
    have Hent := Lib.hid (fun (j : Nat) (hj : j < n + 1) => hbd.ent (i := 0) (j := j) hs.2 (by rw [hs.1]; omega) hj)
    have HC := Lib.hid (fun (w1 : World) (hb : Below w.heap.size w w1) (j : Nat) (hj : j < n + 1) => (show Calls Try.prog 235 #[va, .int .i64 0, .int .i64 j] w1 (Makes (OTab 3 33) w1 (minorT m 0 j (n + 1))) from without_c (I := 0) (Tab.frame _ _ _ _ h hb) hs (by omega) hj (by omega)))
    have HD := Lib.hid (fun (w1 : World) (v : Value) (j : Nat) (h1 : Tab w1 v (minorT m 0 j (n + 1))) => (show Calls Try.prog 208 #[v] w1 (fun e w' => e = .returned (.int .i64 (minF n m j)) ∧ Below w1.heap.size w1 w') from IH.out _ _ _ h1 (minorT_sq m 0 j (n + 1)) (Hb1.out j)))
    have HS0 := Lib.hid (fun (j : Nat) (h : ent m 0 j = 0) => detSum_zero m (minF n m) h)
    have HS1 := Lib.hid (fun (j : Nat) (h : ent m 0 j ≠ 0) => detSum_next m (minF n m) h)
    have HR := Lib.hid (detR_succ n m)
    generalize detR (n + 1) m = R at HR ⊢
    obtain ⟨ab, ao, ac, rfl, hab, hae⟩ := h.entAt hs.1 hs.2 (by omega)
    obtain ⟨rb, ro, rc, g0, hrb, hri, hA⟩ := hae.at (i := 0) (by omega) (by omega)
    rw [Nat.add_zero] at g0
    clear h hs hbd hae hri IH Hb1
    obtain ⟨n1, hn1⟩ : ∃ x, x = n + 1 := ⟨_, rfl⟩
    rw [← hn1] at HR g0 hA Hlim Hent HC ⊢
    have Hn1 := Lib.hid hn1
    have hn4 : n1 ≤ 4 := by omega
    have hn0 : 0 < n1 := by omega
    have hz0 : ((n1 : Int) == 0) = false := by simp; omega
    clear hn1 hn
    go_enter Try.func208, Try.ntmps208
    go_wp2
    go_loopg [3, 4, 14] n1 (fun g vs sg i wr => ∃ (j : Nat) (S s : Int), vs = .int .i64 S ∧ sg = .int .i64 s ∧ i = .int .i64 j ∧ j + g = n1 ∧ Hid (S = detSum m (minF n m) j ∧ s = sgn j) ∧ Hid (Below w.heap.size w wr))
    case atStart => exact ⟨0, 0, 1, rfl, rfl, rfl, by omega, Lib.hid ⟨rfl, rfl⟩, Lib.hid (Below.refl _ _)⟩
    case round =>
      obtain ⟨j, S, s, rfl, rfl, rfl, hj, HX, HB⟩ := hrel
      obtain ⟨wj, rfl⟩ : ∃ x, x = wr := ⟨_, rfl⟩
      by_cases hjn : j < n1
      · have hji : (j : Int) < (n1 : Int) := by omega
        obtain ⟨g, rfl⟩ : ∃ x, gk = x + 1 := ⟨gk - 1, by omega⟩
        have hSb := Hlim.out j (by omega)
        rw [← HX.out.1] at hSb
        have hsb : s = 1 ∨ s = -1 := by rw [HX.out.2]; exact sgn_bd j
        have hxb := Hent.out j hjn
        have hfb := HmF.out j
        have HZ := Lib.hid (HS0.out j)
        have HY := Lib.hid (HS1.out j)
        have HCj := Lib.hid (fun w1 hb => HC.out w1 hb j hjn)
        have HDj := Lib.hid (fun w1 v h => HD.out w1 v j h)
        have hneg : IntKind.i64.wrap (-s) = -s := IntWalk.i64_in _ (by omega)
        have hsb2 : -1 ≤ s ∧ s ≤ 1 := by omega
        have gA := (HB.out.cell (p := ⟨rb, ro + j, none⟩) hrb).trans (hA j hjn)
        have gB := (HB.out.cell (p := ⟨ab, ao, none⟩) hab).trans g0
        have hrbj : rb < wj.heap.size := Nat.lt_of_lt_of_le hrb HB.out.size
        have habj : ab < wj.heap.size := Nat.lt_of_lt_of_le hab HB.out.size
        obtain ⟨x, hx⟩ : ∃ x, x = ent m 0 j := ⟨_, rfl⟩
        rw [← hx] at hxb gA
        have Hx := Lib.hid hx
        have HSg := Lib.hid (show -s = sgn (j + 1) from by rw [sgn_next, HX.out.2])
        clear HC HD HS0 HS1 hx hsb
        by_cases hx0 : x = 0
        · have hne : (x != 0) = false := by simp [hx0]
          have HS2 := Lib.hid (show S = detSum m (minF n m) (j + 1) from by rw [HZ.out (by rw [← Hx.out]; exact hx0)]; exact HX.out.1)
          clear hx0 HX HCj HDj HZ HY hSb hfb
          go_wp2
          go_roundg g
          case measure => omega
          case rel => exact ⟨j + 1, S, -s, rfl, by rfl, by go_num, by omega, Lib.hid ⟨HS2.out, HSg.out⟩, HB⟩
        · have hne : (x != 0) = true := by simp [hx0]
          obtain ⟨D, hD⟩ : ∃ D, D = minF n m j := ⟨_, rfl⟩
          have HS2 := Lib.hid (show S + s * x * D = detSum m (minF n m) (j + 1) from by rw [HY.out (by rw [← Hx.out]; exact hx0), HX.out.1, HX.out.2, Hx.out, hD])
          rw [← hD] at hfb
          have HDk := Lib.hid (fun w1 v (h : Tab w1 v (minorT m 0 j n1)) => (show Calls Try.prog 208 #[v] w1 (fun e w' => e = .returned (.int .i64 D) ∧ Below w1.heap.size w1 w') from by rw [hD]; exact HDj.out w1 v (by rw [← Hn1.out]; exact h)))
          have hp1 : -9 ≤ s * x ∧ s * x ≤ 9 := by
            have := prod_bd (X := 1) (Y := 9) hsb2 hxb
            omega
          have hp2 : -39366 ≤ s * x * D ∧ s * x * D ≤ 39366 := by
            have := prod_bd (X := 9) (Y := 4374) hp1 hfb
            omega
          have hw1 : IntKind.i64.wrap (s * x) = s * x := IntWalk.i64_in _ (by omega)
          have hw2 : IntKind.i64.wrap (s * x * D) = s * x * D := IntWalk.i64_in _ (by omega)
          have hw3 : IntKind.i64.wrap (S + s * x * D) = S + s * x * D := IntWalk.i64_in _ (by omega)
          have hfb2 := hfb
          clear hx0 HX HDj HZ HY hSb hfb hp1 hp2 hD
          go_wp2_with fail
          (with_reducible refine (HCj.out _ HB.out).mono ?_)
          rintro e w1 ⟨v1, rfl, hn1, hb1⟩
          have HB1 := Lib.hid (HB.out.trans (hb1.mono HB.out.size))
          have HDl := Lib.hid (HDk.out w1 v1 hn1.tab)
          clear hn1 hb1 HB HCj HDk
          go_wp2_with fail
          (with_reducible refine HDl.out.mono ?_)
          rintro e w2 ⟨rfl, hb2⟩
          have HB2 := Lib.hid (HB1.out.trans (hb2.mono HB1.out.size))
          clear hb2 HB1 HDl
          go_wp2
          go_roundg g
          case measure => omega
          case rel => exact ⟨j + 1, _, -s, rfl, by rfl, by go_num, by omega, Lib.hid ⟨HS2.out, HSg.out⟩, HB2⟩
      · have hji : ¬ ((j : Int) < (n1 : Int)) := by omega
        have HF := Lib.hid (show R = S from by rw [HR.out, HX.out.1, show n1 = j from by omega])
        clear HX HR
        go_wp2
        go_ret
        exact ⟨by rw [HF.out]; rfl, HB.out⟩
set_option maxHeartbeats 2000000 in
set_option maxRecDepth 100000 in
theorem spec_det_c : ∀ (n : Nat), n ≤ 4 → ∀ {w : World} {va : Value} {m : List (List Int)}, Tab w va m → Sq n m → Bd 9 m →
    Calls Try.prog 210 #[va] w fun e w' => e = .returned (.int .i64 (detR n m)) ∧ Below w.heap.size w w'
  | 0, _, w, va, m, h, hs, _ => by
    obtain ⟨a, c, rfl, -⟩ := h.shape
    have hl : m.length = 0 := hs.1
    rw [hl]
    go_enter Try.func210, Try.ntmps210
    go_wp2
    go_ret
    exact ⟨rfl, Below.refl _ _⟩
  | n + 1, hn, w, va, m, h, hs, hbd => by
    have IH := Lib.hid (fun (w : World) (va : Value) (m : List (List Int)) => spec_det_c n (by omega) (w := w) (va := va) (m := m))
    have Hb1 := Lib.hid (fun (j : Nat) => minorT_bd (i := 0) (j := j) hs hbd)
    have Hlim := Lib.hid (fun (j : Nat) (hj : j ≤ n + 1) => detSum_lim (by omega) hs hbd hj)
    have HmF := Lib.hid (fun (j : Nat) => minF_bd (by omega) hs hbd j)
    have Hent := Lib.hid (fun (j : Nat) (hj : j < n + 1) => hbd.ent (i := 0) (j := j) hs.2 (by rw [hs.1]; omega) hj)
    have HC := Lib.hid (fun (w1 : World) (hb : Below w.heap.size w w1) (j : Nat) (hj : j < n + 1) => (show Calls Try.prog 82 #[va, .int .i64 0, .int .i64 j] w1 (Makes (OTab 3 33) w1 (minorT m 0 j (n + 1))) from l7Minor_c (I := 0) (Tab.frame _ _ _ _ h hb) hs (by omega) hj (by omega)))
    have HD := Lib.hid (fun (w1 : World) (v : Value) (j : Nat) (h1 : Tab w1 v (minorT m 0 j (n + 1))) => (show Calls Try.prog 210 #[v] w1 (fun e w' => e = .returned (.int .i64 (minF n m j)) ∧ Below w1.heap.size w1 w') from IH.out _ _ _ h1 (minorT_sq m 0 j (n + 1)) (Hb1.out j)))
    have HS0 := Lib.hid (fun (j : Nat) (h : ent m 0 j = 0) => detSum_zero m (minF n m) h)
    have HS1 := Lib.hid (fun (j : Nat) (h : ent m 0 j ≠ 0) => detSum_next m (minF n m) h)
    have HR := Lib.hid (detR_succ n m)
    generalize detR (n + 1) m = R at HR ⊢
    obtain ⟨ab, ao, ac, rfl, hab, hae⟩ := h.entAt hs.1 hs.2 (by omega)
    obtain ⟨rb, ro, rc, g0, hrb, hri, hA⟩ := hae.at (i := 0) (by omega) (by omega)
    rw [Nat.add_zero] at g0
    clear h hs hbd hae hri IH Hb1
    obtain ⟨n1, hn1⟩ : ∃ x, x = n + 1 := ⟨_, rfl⟩
    rw [← hn1] at HR g0 hA Hlim Hent HC ⊢
    have Hn1 := Lib.hid hn1
    have hn4 : n1 ≤ 4 := by omega
    have hn0 : 0 < n1 := by omega
    have hz0 : ((n1 : Int) == 0) = false := by simp; omega
    clear hn1 hn
    go_enter Try.func210, Try.ntmps210
    go_wp2
    go_loopg [3, 4, 5] n1 (fun g vs sg i wr => ∃ (j : Nat) (S s : Int), vs = .int .i64 S ∧ sg = .int .i64 s ∧ i = .int .i64 j ∧ j + g = n1 ∧ Hid (S = detSum m (minF n m) j ∧ s = sgn j) ∧ Hid (Below w.heap.size w wr))
    case atStart => exact ⟨0, 0, 1, rfl, rfl, rfl, by omega, Lib.hid ⟨rfl, rfl⟩, Lib.hid (Below.refl _ _)⟩
    case round =>
      obtain ⟨j, S, s, rfl, rfl, rfl, hj, HX, HB⟩ := hrel
      obtain ⟨wj, rfl⟩ : ∃ x, x = wr := ⟨_, rfl⟩
      by_cases hjn : j < n1
      · have hji : (j : Int) < (n1 : Int) := by omega
        obtain ⟨g, rfl⟩ : ∃ x, gk = x + 1 := ⟨gk - 1, by omega⟩
        have hSb := Hlim.out j (by omega)
        rw [← HX.out.1] at hSb
        have hsb : s = 1 ∨ s = -1 := by rw [HX.out.2]; exact sgn_bd j
        have hxb := Hent.out j hjn
        have hfb := HmF.out j
        have HZ := Lib.hid (HS0.out j)
        have HY := Lib.hid (HS1.out j)
        have HCj := Lib.hid (fun w1 hb => HC.out w1 hb j hjn)
        have HDj := Lib.hid (fun w1 v h => HD.out w1 v j h)
        have hneg : IntKind.i64.wrap (-s) = -s := IntWalk.i64_in _ (by omega)
        have hsb2 : -1 ≤ s ∧ s ≤ 1 := by omega
        have gA := (HB.out.cell (p := ⟨rb, ro + j, none⟩) hrb).trans (hA j hjn)
        have gB := (HB.out.cell (p := ⟨ab, ao, none⟩) hab).trans g0
        have hrbj : rb < wj.heap.size := Nat.lt_of_lt_of_le hrb HB.out.size
        have habj : ab < wj.heap.size := Nat.lt_of_lt_of_le hab HB.out.size
        obtain ⟨x, hx⟩ : ∃ x, x = ent m 0 j := ⟨_, rfl⟩
        rw [← hx] at hxb gA
        have Hx := Lib.hid hx
        have HSg := Lib.hid (show -s = sgn (j + 1) from by rw [sgn_next, HX.out.2])
        clear HC HD HS0 HS1 hx hsb
        by_cases hx0 : x = 0
        · have hne : (x != 0) = false := by simp [hx0]
          have HS2 := Lib.hid (show S = detSum m (minF n m) (j + 1) from by rw [HZ.out (by rw [← Hx.out]; exact hx0)]; exact HX.out.1)
          clear hx0 HX HCj HDj HZ HY hSb hfb
          go_wp2
          go_roundg g
          case measure => omega
          case rel => exact ⟨j + 1, S, -s, rfl, by rfl, by go_num, by omega, Lib.hid ⟨HS2.out, HSg.out⟩, HB⟩
        · have hne : (x != 0) = true := by simp [hx0]
          obtain ⟨D, hD⟩ : ∃ D, D = minF n m j := ⟨_, rfl⟩
          have HS2 := Lib.hid (show S + s * x * D = detSum m (minF n m) (j + 1) from by rw [HY.out (by rw [← Hx.out]; exact hx0), HX.out.1, HX.out.2, Hx.out, hD])
          rw [← hD] at hfb
          have HDk := Lib.hid (fun w1 v (h : Tab w1 v (minorT m 0 j n1)) => (show Calls Try.prog 210 #[v] w1 (fun e w' => e = .returned (.int .i64 D) ∧ Below w1.heap.size w1 w') from by rw [hD]; exact HDj.out w1 v (by rw [← Hn1.out]; exact h)))
          have hp1 : -9 ≤ s * x ∧ s * x ≤ 9 := by
            have := prod_bd (X := 1) (Y := 9) hsb2 hxb
            omega
          have hp2 : -39366 ≤ s * x * D ∧ s * x * D ≤ 39366 := by
            have := prod_bd (X := 9) (Y := 4374) hp1 hfb
            omega
          have hw1 : IntKind.i64.wrap (s * x) = s * x := IntWalk.i64_in _ (by omega)
          have hw2 : IntKind.i64.wrap (s * x * D) = s * x * D := IntWalk.i64_in _ (by omega)
          have hw3 : IntKind.i64.wrap (S + s * x * D) = S + s * x * D := IntWalk.i64_in _ (by omega)
          have hfb2 := hfb
          clear hx0 HX HDj HZ HY hSb hfb hp1 hp2 hD
          go_wp2
          have hS0 : wj.cell? ⟨ab, ao, none⟩ = some (.slice (some ⟨rb, ro, none⟩) n1 rc) ∧ wj.cell? ⟨rb, ro + j, none⟩ = some (.int .i64 x) := ⟨gB, gA⟩
          have hSd : wj.drew.cell? ⟨ab, ao, none⟩ = some (.slice (some ⟨rb, ro, none⟩) n1 rc) ∧ wj.drew.cell? ⟨rb, ro + j, none⟩ = some (.int .i64 x) := hS0
          have HS := Lib.hid (fun (wz : World) (hb3 : Below wj.heap.size wj wz) => (show wz.cell? ⟨ab, ao, none⟩ = some (.slice (some ⟨rb, ro, none⟩) n1 rc) ∧ wz.cell? ⟨rb, ro + j, none⟩ = some (.int .i64 x) from ⟨(hb3.cell (p := ⟨ab, ao, none⟩) habj).trans gB, (hb3.cell (p := ⟨rb, ro + j, none⟩) hrbj).trans gA⟩))
          have HC1 := Lib.hid (HCj.out _ HB.out.drew)
          have B1 := (Below.refl wj.heap.size wj).drew
          clear HCj
          go_region_held3 (fun w' => w'.cell? ⟨ab, ao, none⟩ = some (.slice (some ⟨rb, ro, none⟩) n1 rc) ∧ w'.cell? ⟨rb, ro + j, none⟩ = some (.int .i64 x))
            (first | with_reducible exact hS2 | with_reducible exact hS1 | with_reducible exact hSd | with_reducible exact hS0 | go_keep)
            ((first
              | (go_at_call 210; (with_reducible refine (HDk.out _ _ hn1.tab).mono ?_); rintro e w2 ⟨rfl, hb⟩; have B3 := B2.trans (hb.mono B2.size); have hS2 := HS.out _ B3; clear hb)
              | (go_at_call 82; (with_reducible refine HC1.out.mono ?_); rintro e w1 ⟨v1, rfl, hn1, hb⟩; have B2 := B1.trans (hb.mono B1.size); have hS1 := HS.out _ B2; clear hb)
              | fail))
          have HB2 := Lib.hid (HB.out.trans (B3.mono HB.out.size))
          clear hS0 hSd HS HC1 B1 B2 B3 hS1 hS2 hn1 HB HDk
          go_wp2
          go_roundg g
          case measure => omega
          case rel => exact ⟨j + 1, _, -s, rfl, by rfl, by go_num, by omega, Lib.hid ⟨HS2.out, HSg.out⟩, HB2⟩
      · have hji : ¬ ((j : Int) < (n1 : Int)) := by omega
        have HF := Lib.hid (show R = S from by rw [HR.out, HX.out.1, show n1 = j from by omega])
        clear HX HR
        go_wp2
        go_ret
        exact ⟨by rw [HF.out]; rfl, HB.out⟩
end Go.Proofs.Ytlkgkfgpnnahdaa
end
