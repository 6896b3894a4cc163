/-
  StepsFrom, the reference's: the whole.
-/
import Derived.Test.YtdohepngandajaaStpC
import Derived.Test.YtdohepngandajaaStpD
import Derived.Test.YtdohepngandajaaTurnC
import Derived.Test.YtdohepngandajaaPartsT
import Derived.Test.YtdohepngandajaaSplitSpec
import Derived.Test.YtdohepngandajaaJoinSpec
import Derived.Test.YtdohepngandajaaJoinIn
namespace Go.Proofs.Ytdohepngandajaa
open Go.RowKit Go.Deep Go.Sd
set_option linter.unusedSimpArgs false
set_option maxHeartbeats 4000000 in
set_option maxRecDepth 100000 in
theorem spec_StepsFrom_c {w : World} {vm : Value} {m : Tbl} (h : Tab w vm m) :
    Calls Try.prog 30 #[vm] w (Makes (OTabs 3 50 41) w (stepsV m)) := by
  have Hfr := Lib.hid (fun w' (hb : Below w.heap.size w w') => Tab.frame _ _ _ _ h hb)
  have HI := Lib.hid (fun w' (hb : Below w.heap.size w w') => spec_IsMatrix_c (Tab.frame _ _ _ _ h hb))
  obtain ⟨va, vc, rfl, -⟩ := h.shape
  have hlen := h.len
  obtain ⟨w1, e1⟩ : ∃ x, x = w.alloc (.cells #[] 41) := ⟨_, rfl⟩
  have hb1 : Below w.heap.size w w1 := by rw [e1]; exact (Below.refl _ _).alloc (Nat.le_refl _) _
  have hn1 : New (OTabs 3 50 41) w.heap.size w1 (.slice (some ⟨w.heap.size, 0, none⟩) 0 0) [] := by rw [e1]; exact New.empty w (Nat.le_refl _)
  have hz1 := hb1.size
  have HN1 := Lib.hid hn1
  have HB1 := Lib.hid hb1
  have e1s := e1.symm
  have HI1 := Lib.hid (HI.out w1 hb1)
  have H0 := Lib.hid (fun (h : isMat m = false) => (show stepsV m = [] from by unfold stepsV; rw [if_neg (by rw [h]; simp)]))
  have H4 := Lib.hid (fun (h : 4 < m.length) => (show stepsV m = [] from by unfold stepsV; rw [if_neg (by rintro ⟨-, h2⟩; omega)]))
  have HSp := Lib.hid (fun hm h4 => stepsV_spec m hm h4)
  clear h e1 hb1 hn1 HI
  cases him : isMat m with
  | false =>
    have HF := Lib.hid (H0.out him)
    rw [him] at HI1
    clear H0 H4 HSp Hfr him
    go_enter Try.func30, Try.ntmps30
    go_wp2_with fail
    refine HI1.out.mono ?_
    rintro e w2 ⟨rfl, rfl⟩
    go_wp2
    go_ret
    exact ⟨_, rfl, by rw [HF.out]; exact HN1.out, HB1.out⟩
  | true =>
  rw [him] at HI1
  have Him := Lib.hid him
  clear him H0
  by_cases h4 : 4 < m.length
  · have HF := Lib.hid (H4.out h4)
    have h4i : (4 : Int) < (m.length : Int) := by omega
    clear H4 HSp Hfr
    go_enter Try.func30, Try.ntmps30
    go_wp2_with fail
    refine HI1.out.mono ?_
    rintro e w2 ⟨rfl, rfl⟩
    go_wp2
    go_ret
    exact ⟨_, rfl, by rw [HF.out]; exact HN1.out, HB1.out⟩
  have h4i : ¬ ((4 : Int) < (m.length : Int)) := by omega
  have HE := Lib.hid (HSp.out Him.out (by omega))
  have HS1 := Lib.hid (Sep.one (OTabs.kept 3 50 41).held HN1.out)
  have hm4 : m.length ≤ 4 := by omega
  have HJ := Lib.hid (fun (w2 : World) (hb : Below w.heap.size w w2) (sl : Value) (L : List Tbl) (hs : Sep w.heap.size w2 [Res.tabs sl L]) (hl : L.length ≤ 50000) => l19JoiO_c (fun w' hb' => Hfr.out w' (hb.trans hb')) Him.out hm4 hs hb.size (by omega))
  have HJ2 := Lib.hid (fun (w2 : World) (hb : Below w.heap.size w w2) (sl : Value) (L : List Tbl) (hs : Sep w.heap.size w2 [Res.tabs sl L]) (hl : L.length ≤ 60000) => l19JoiI_c (fun w' hb' => Hfr.out w' (hb.trans hb')) Him.out hm4 hs hb.size (by omega))
  have hj4 : ∀ L : List Tbl, (overN (joiO m) m.length 0 L).length ≤ L.length + 16 := fun L => by
    have h1 := overN_len (f := joiO m) (c := 4) (fun i o => by
      have h := overN_len (f := fun j o => addT o (joinV m i j) (joinOk m i j)) (c := 1) (fun j o => addT_len o _ _) (m.length - (i + 1)) (i + 1) o
      unfold joiO
      omega) m.length 0 L
    omega
  have Hj4 := Lib.hid hj4
  clear HSp H4 hj4 h4
  by_cases h3 : m.length < 4
  · have h3i : (m.length : Int) < 4 := by omega
    have HE2 := Lib.hid (show stepsV m = overN (joiI m) m.length 0 (overN (joiO m) m.length 0 (overN (splI m) m.length 0 (overN (splO m) m.length 0 []))) from by rw [HE.out, if_pos h3])
    have HA := Lib.hid (l19SplO_c (fun w' hb' => Hfr.out w' (HB1.out.trans hb')) Him.out hm4 HS1.out hz1 (by simp))
    have HA2 := Lib.hid (fun (w2 : World) (hb : Below w.heap.size w w2) (sl : Value) (L : List Tbl) (hs : Sep w.heap.size w2 [Res.tabs sl L]) (hl : L.length ≤ 50000) => l19SplI_c (fun w' hb' => Hfr.out w' (hb.trans hb')) Him.out hm4 hs hb.size hl)
    have hl1 := overN_len (f := splO m) (c := 256) (splO_len m) m.length 0 []
    have hl2 := overN_len (f := splI m) (c := 256) (splI_len m) m.length 0 (overN (splO m) m.length 0 [])
    simp only [List.length_nil] at hl1
    generalize overN (splO m) m.length 0 [] = L1 at HA HE2 hl1 hl2
    obtain ⟨L2, hL2⟩ : ∃ L, L = overN (splI m) m.length 0 L1 := ⟨_, rfl⟩
    rw [← hL2] at HE2 hl2
    have HL2e := Lib.hid hL2.symm
    clear hL2
    have HL1 := Lib.hid (show L1.length ≤ 4000 from by omega)
    have HL2 := Lib.hid (show L2.length ≤ 8000 from by omega)
    clear hl1 hl2 HE h3 Hfr HS1 HN1
    go_enter Try.func30, Try.ntmps30
    go_wp2_with fail
    refine HI1.out.mono ?_
    rintro e w2 ⟨rfl, rfl⟩
    go_wp2_with fail
    refine HA.out.mono ?_
    rintro e w3 ⟨s1, rfl, hs1, hb1⟩
    obtain ⟨a1, c1, rfl, -⟩ := (New.tabs hs1.headNew).shape
    have HB3 := Lib.hid (HB1.out.trans hb1)
    have HC := Lib.hid (HA2.out w3 HB3.out _ _ hs1 (by have := HL1.out; omega))
    rw [HL2e.out] at HC
    generalize L1.length = ln1 at *
    clear hs1 hb1 HA HA2
    go_wp2_with fail
    refine HC.out.mono ?_
    rintro e w4 ⟨s2, rfl, hs2, hb2⟩
    obtain ⟨a2, c2, rfl, -⟩ := (New.tabs hs2.headNew).shape
    have HB4 := Lib.hid (HB3.out.trans hb2)
    have HD := Lib.hid (HJ.out w4 HB4.out _ _ hs2 (by have := HL2.out; omega))
    clear hs2 hb2 HC HB3
    go_wp2_with fail
    refine HD.out.mono ?_
    rintro e w5 ⟨s3, rfl, hs3, hb3⟩
    obtain ⟨a3, c3, rfl, -⟩ := (New.tabs hs3.headNew).shape
    have HB5 := Lib.hid (HB4.out.trans hb3)
    have HK := Lib.hid (HJ2.out w5 HB5.out _ _ hs3 (by have := Hj4.out L2; have := HL2.out; omega))
    generalize overN (joiO m) m.length 0 L2 = L3 at HK HE2 hs3
    try generalize L3.length = ln3 at *
    clear hs3 hb3 HD HB4
    go_wp2_with fail
    refine HK.out.mono ?_
    rintro e w6 ⟨s4, rfl, hs4, hb4⟩
    obtain ⟨a4, c4, rfl, -⟩ := (New.tabs hs4.headNew).shape
    have HN6 := Lib.hid hs4.headNew
    have HB6 := Lib.hid (HB5.out.trans hb4)
    clear hs4 hb4 HK
    go_wp2
    go_ret
    exact ⟨_, rfl, by rw [HE2.out]; exact HN6.out, HB6.out⟩
  · have h3i : ¬ ((m.length : Int) < 4) := by omega
    have HE2 := Lib.hid (show stepsV m = overN (joiI m) m.length 0 (overN (joiO m) m.length 0 []) from by rw [HE.out, if_neg h3])
    have HL2 := Lib.hid (show ([] : List Tbl).length ≤ 8000 from by simp)
    obtain ⟨L2, hL2⟩ : ∃ L : List Tbl, L = [] := ⟨_, rfl⟩
    rw [← hL2] at HE2 HL2
    have HS2 := Lib.hid (show Sep w.heap.size w1 [Res.tabs (.slice (some ⟨w.heap.size, 0, none⟩) 0 0) L2] from by rw [hL2]; exact HS1.out)
    clear HE h3 Hfr HS1 HN1 hL2
    go_enter Try.func30, Try.ntmps30
    go_wp2_with fail
    refine HI1.out.mono ?_
    rintro e w2 ⟨rfl, rfl⟩
    have HB4 := HB1
    have HD := Lib.hid (HJ.out w1 HB1.out _ _ HS2.out (by have := HL2.out; omega))
    clear HS2
    go_wp2_with fail
    refine HD.out.mono ?_
    rintro e w5 ⟨s3, rfl, hs3, hb3⟩
    obtain ⟨a3, c3, rfl, -⟩ := (New.tabs hs3.headNew).shape
    have HB5 := Lib.hid (HB4.out.trans hb3)
    have HK := Lib.hid (HJ2.out w5 HB5.out _ _ hs3 (by have := Hj4.out L2; have := HL2.out; omega))
    generalize overN (joiO m) m.length 0 L2 = L3 at HK HE2 hs3
    try generalize L3.length = ln3 at *
    clear hs3 hb3 HD HB4
    go_wp2_with fail
    refine HK.out.mono ?_
    rintro e w6 ⟨s4, rfl, hs4, hb4⟩
    obtain ⟨a4, c4, rfl, -⟩ := (New.tabs hs4.headNew).shape
    have HN6 := Lib.hid hs4.headNew
    have HB6 := Lib.hid (HB5.out.trans hb4)
    clear hs4 hb4 HK
    go_wp2
    go_ret
    exact ⟨_, rfl, by rw [HE2.out]; exact HN6.out, HB6.out⟩
end Go.Proofs.Ytdohepngandajaa
