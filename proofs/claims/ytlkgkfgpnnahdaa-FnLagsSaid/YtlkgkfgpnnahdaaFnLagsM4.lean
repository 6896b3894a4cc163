/-
  Texts of this claim joined: laws for its walks, contracts of the functions that the law reaches.
-/
import Derived.Test.YtlkgkfgpnnahdaaRows
import Derived.Test.YtlkgkfgpnnahdaaFnLagsM1
import Derived.Test.YtlkgkfgpnnahdaaFnLagsM3
import Derived.Deep.DeepMust
import Derived.StillTailTactics
section
/-
  Two matrices that are alike: the program's search for places and the reference's answer alike.
-/
namespace Go.Proofs.Ytlkgkfgpnnahdaa
open Go.RowKit Go.Deep Go.Sd

/-- The places that are given fit with p as the next one. -/
def okL (a b : List (List Int)) (k p : Nat) : List Nat → Nat → Bool
  | [], _ => true
  | q :: qs, i => (decide (q ≠ p) && decide (ent a k i = ent b p q) && decide (ent a i k = ent b q p)) && okL a b k p qs (i + 1)
def okAt (a b : List (List Int)) (ps : List Nat) (p : Nat) : Bool := decide (ent a ps.length ps.length = ent b p p) && okL a b ps.length p ps 0

/-- Some number from p on, of the next g ones. -/
def anyF (h : Nat → Bool) : Nat → Nat → Bool
  | 0, _ => false
  | g + 1, p => if h p then true else anyF h g (p + 1)

def fitM (a b : List (List Int)) (n : Nat) : Nat → List Nat → Bool
  | 0, _ => true
  | f + 1, ps => anyF (fun p => okAt a b ps p && fitM a b n f (ps ++ [p])) n 0

def alikeM (a b : List (List Int)) : Bool := isMat a && isMat b && decide (a.length = b.length) && decide (a.length ≤ 6) && fitM a b a.length a.length []

def nats (ps : List Nat) : List Int := ps.map fun (q : Nat) => (q : Int)
theorem nats_at {ps : List Nat} {i q : Nat} (h : ps[i]? = some q) : (nats ps)[i]? = some (q : Int) := by simp [nats, h]

theorem isMat_sq {m : List (List Int)} (h : isMat m = true) : Sq m.length m ∧ 1 ≤ m.length ∧ m.length ≤ 9 := by
  unfold isMat at h
  simp only [Bool.and_eq_true, decide_eq_true_eq, List.all_eq_true] at h
  refine ⟨⟨rfl, fun r hr => ?_⟩, h.1.1, h.1.2⟩
  have := h.2 r hr
  unfold rowOk at this
  simp at this
  exact this.1

set_option maxHeartbeats 4000000 in
set_option maxRecDepth 100000 in
theorem fits_c (a b : List (List Int)) (n : Nat) (ha : Sq n a) (hb : Sq n b) (hn0 : 0 < n) (hn : n ≤ 9) : ∀ (f : Nat) (ps : List Nat) (w : World) (va vb vp : Value), ps.length + f = n → (∀ q, q ∈ ps → q < n) → Tab w va a → Tab w vb b → Ints w vp (nats ps) →
    Calls Try.prog 98 #[va, vb, vp] w fun e w' => e = .returned (.bool (fitM a b n f ps)) ∧ Below w.heap.size w w' := by
  intro f
  induction f with
  | zero =>
    intro ps w va vb vp hf hq h1 h2 h3
    obtain ⟨ab, ao, ac, rfl, _⟩ := h1.entAt ha.1 ha.2 hn0
    have h3l : (nats ps).length = n := by unfold nats; simp; omega
    obtain ⟨pa, pc, rfl, _, _, _⟩ := h3.shape
    rw [h3l]
    go_enter Try.func98, Try.ntmps98
    go_wp2
    go_ret
    exact ⟨rfl, Below.refl _ _⟩
  | succ f ih =>
    intro ps w va vb vp hf hq h1 h2 h3
    have h1' := h1
    have h2' := h2
    have h3' := h3
    obtain ⟨ab, ao, ac, rfl, hab, hae⟩ := h1.entAt ha.1 ha.2 hn0
    obtain ⟨bb, bo, bc, rfl, hbb, hbe⟩ := h2.entAt hb.1 hb.2 hn0
    obtain ⟨pa, pc, rfl, hp1, _, hpc⟩ := h3.shape
    have h3l : (nats ps).length = ps.length := by unfold nats; simp
    rw [h3l] at hp1 hpc h3' ⊢
    have H0 := Lib.hid (show fitM a b n (f + 1) ps = anyF (fun p => okAt a b ps p && fitM a b n f (ps ++ [p])) n 0 from rfl)
    obtain ⟨G, hG⟩ : ∃ G : Nat → Bool, G = (fun p => okAt a b ps p && fitM a b n f (ps ++ [p])) := ⟨_, rfl⟩
    rw [← hG] at H0
    have HG := Lib.hid hG
    have Ih := Lib.hid ih
    have Hq := Lib.hid hq
    have t0 : ((ps.length : Int) == (n : Int)) = false := by simp; omega
    have hk1 : ps.length < n := by omega
    generalize fitM a b n (f + 1) ps = R at H0
    have Hf := Lib.hid hf
    clear hG ih hq h1 h2 h3 hf
    go_enter Try.func98, Try.ntmps98
    go_wp2
    go_loopg [20] n (fun g i wr => ∃ (p : Nat), i = .int .i64 p ∧ p + g = n ∧ Hid (R = anyF G g p) ∧ Below w.heap.size w wr)
    case atStart => exact ⟨0, rfl, by omega, H0, Below.refl _ _⟩
    case round =>
      obtain ⟨p, rfl, hp, H, hbel⟩ := hrel
      obtain ⟨wo, rfl⟩ : ∃ wo : World, wo = wr := ⟨_, rfl⟩
      obtain ⟨g, hg⟩ : ∃ g, g = gk := ⟨_, rfl⟩
      rw [← hg] at H hp
      by_cases hlt : p < n
      · obtain ⟨g', rfl⟩ : ∃ q, g = q + 1 := ⟨g - 1, by omega⟩
        have H1 := Lib.hid (show R = if G p then true else anyF G g' (p + 1) from H.out)
        obtain ⟨ab1, ao1, ac1, hA1, hab1, _, hA2⟩ := hae.at hk1 hn0
        obtain ⟨bb1, bo1, bc1, hB1, hbb1, _, hB2⟩ := hbe.at hlt hn0
        have hA3 := hA2 ps.length hk1
        have hB3 := hB2 p hlt
        have hrule := hbel.rule
        have hi1 : (ps.length : Int) < (n : Int) := by omega
        have hi2 : (p : Int) < (n : Int) := by omega
        clear H H0
        obtain ⟨e0, he0⟩ : ∃ e0 : Bool, e0 = (ent a ps.length ps.length == ent b p p) := ⟨_, rfl⟩
        have He0 := Lib.hid he0
        rw [eq_comm] at he0
        go_wp2
        go_quiet (fail)
        go_wp2
        clear he0
        go_loopg [9, 40] (ps.length) (fun g okv i w2 => ∃ (j : Nat) (fl : Bool), i = .int .i64 j ∧ okv = .bool fl ∧ j + g = ps.length ∧ Hid (okAt a b ps p = (fl && okL a b ps.length p (ps.drop j) j)) ∧ Drawn wo w2)
        case atStart => exact ⟨0, e0, rfl, rfl, by omega, Lib.hid (by rw [He0.out]; rfl), (Drawn.refl _).drewN _⟩
        case round =>
          obtain ⟨j, fl, rfl, rfl, hj, H, hdr⟩ := hrel
          have hrule2 := hdr.cell
          by_cases hlt2 : j < ps.length
          · obtain ⟨q, hqj, hqd⟩ := at_lt hlt2
            have hqn := Hq.out q (List.mem_of_getElem? hqj)
            obtain ⟨pb, po, rfl, hpb, hpx⟩ := hpc (by omega)
            obtain ⟨u, hu, rfl⟩ := hpx j (q : Int) (nats_at hqj)
            obtain ⟨ab2, ao2, ac2, hA4, hab2, _, hA5⟩ := hae.at (i := j) (by omega) hn0
            obtain ⟨bb2, bo2, bc2, hB4, hbb2, _, hB5⟩ := hbe.at hqn hn0
            have H2 := Lib.hid (show okAt a b ps p = (fl && ((decide (q ≠ p) && decide (ent a ps.length j = ent b p q) && decide (ent a j ps.length = ent b q p)) && okL a b ps.length p (ps.drop (j + 1)) (j + 1))) from by rw [H.out, hqd]; rfl)
            have hA6 := hA2 j (by omega)
            have hA7 := hA5 ps.length hk1
            have hB6 := hB2 q hqn
            have hB7 := hB5 p hlt
            have hi3 : (j : Int) < (n : Int) := by omega
            have hi4 : (q : Int) < (n : Int) := by omega
            have hi5 : (j : Int) < (ps.length : Int) := by omega
            clear H hqj hqd hpx hpc hA2 hA5 hB2 hB5 hA3 hB3 hae hbe
            cases fl with
            | false =>
              have H3 := Lib.hid (show okAt a b ps p = (false && okL a b ps.length p (ps.drop (j + 1)) (j + 1)) from by rw [H2.out]; rfl)
              clear H2
              go_wp2
              go_quiet (fail)
              go_wp2
              go_roundg (ps.length - (j + 1))
              case measure => omega
              case rel => exact ⟨j + 1, false, by go_num, rfl, by omega, H3, hdr.drewN _⟩
            | true =>
              by_cases hqp : q = p
              · have H3 := Lib.hid (show okAt a b ps p = (false && okL a b ps.length p (ps.drop (j + 1)) (j + 1)) from by rw [H2.out]; simp [hqp])
                have t1 : ((q : Int) != (p : Int)) = false := by simp [hqp]
                clear H2 hqp
                go_wp2
                go_quiet (fail)
                go_wp2
                go_roundg (ps.length - (j + 1))
                case measure => omega
                case rel => exact ⟨j + 1, false, by go_num, rfl, by omega, H3, hdr.drewN _⟩
              have t1 : ((q : Int) != (p : Int)) = true := by simp; omega
              by_cases hq1 : ent a ps.length j = ent b p q
              · have t2 : (ent a ps.length j == ent b p q) = true := by simp [hq1]
                by_cases hq2 : ent a j ps.length = ent b q p
                · have t3 : (ent a j ps.length == ent b q p) = true := by simp [hq2]
                  have H3 := Lib.hid (show okAt a b ps p = (true && okL a b ps.length p (ps.drop (j + 1)) (j + 1)) from by rw [H2.out]; simp [hqp, hq1, hq2])
                  clear H2 hqp hq1 hq2
                  go_wp2
                  go_quiet (fail)
                  go_wp2
                  go_roundg (ps.length - (j + 1))
                  case measure => omega
                  case rel => exact ⟨j + 1, true, by go_num, rfl, by omega, H3, hdr.drewN _⟩
                · have t3 : (ent a j ps.length == ent b q p) = false := by simp [hq2]
                  have H3 := Lib.hid (show okAt a b ps p = (false && okL a b ps.length p (ps.drop (j + 1)) (j + 1)) from by rw [H2.out]; simp [hq2])
                  clear H2 hqp hq1 hq2
                  go_wp2
                  go_quiet (fail)
                  go_wp2
                  go_roundg (ps.length - (j + 1))
                  case measure => omega
                  case rel => exact ⟨j + 1, false, by go_num, rfl, by omega, H3, hdr.drewN _⟩
              · have t2 : (ent a ps.length j == ent b p q) = false := by simp [hq1]
                have H3 := Lib.hid (show okAt a b ps p = (false && okL a b ps.length p (ps.drop (j + 1)) (j + 1)) from by rw [H2.out]; simp [hq1])
                clear H2 hqp hq1
                go_wp2
                go_quiet (fail)
                go_wp2
                go_roundg (ps.length - (j + 1))
                case measure => omega
                case rel => exact ⟨j + 1, false, by go_num, rfl, by omega, H3, hdr.drewN _⟩
          · have H2 := Lib.hid (show okAt a b ps p = fl from by rw [H.out, drop_len hlt2]; simp [okL])
            clear H hA3 hB3 hA2 hB2 hA1 hB1 hae hbe hpc
            cases fl with
            | false =>
              have H3 := Lib.hid (show R = anyF G g' (p + 1) from by rw [H1.out, HG.out]; simp [H2.out])
              clear H1 H2
              go_wp2
              go_roundg g'
              case measure => omega
              case rel => exact ⟨p + 1, by go_num, by omega, H3, hbel.trans (hdr.below _)⟩
            | true =>
              have H3 := Lib.hid (show R = if fitM a b n f (ps ++ [p]) then true else anyF G g' (p + 1) from by rw [H1.out, HG.out]; simp [H2.out])
              have hb2 : Below w.heap.size w wr := hbel.trans (hdr.below _)
              have Hsrc := Lib.hid (show SlOf (ValR (Value.int .i64)) (wr.alloc (.cells #[] 3)) (.slice pa ps.length pc) (nats ps) from Ints.frame _ _ _ _ h3' (hb2.alloc hb2.size _))
              have hle2 : w.heap.size ≤ wr.heap.size := hb2.size
              clear H1 H2 hrule hrule2 hbel hdr t0 h3'
              have Hb2 := Lib.hid hb2
              have H1t := Lib.hid h1'
              have H2t := Lib.hid h2'
              clear hb2 h1' h2'
              have Hl3 := Lib.hid h3l
              clear h3l
              go_wp2_with (first
                | (at_builtin; refine wpl_append_vals (f := Value.int .i64) (fun _ => rfl) rfl (.tmp 90) (.tmp 91) 33 rfl 3 (.int .i64 0) 8 Try.underlying33 infoI rfl (New.empty (R := OValR (Value.int .i64)) (lo := wr.heap.size) wr (Nat.le_refl _)) (by simp) Hsrc.out rfl rfl (by rw [Hl3.out]; simp; omega) (by rw [Hl3.out]; simp; omega) ?_; intro v1 w3 hn1 hg1 hv1 hb3; have Hn1 := Lib.hid hn1; have Hb3 := Lib.hid hb3; clear hn1 hg1 hv1 hb3)
                | (at_builtin; refine wpl_push (w0 := w3) (lo := wr.heap.size) (y := (p : Int)) OIntR.kept rfl (.tmp 92) (.tmp 94) 33 rfl 3 (.int .i64 0) 8 Try.underlying33 infoI rfl Hn1.out (by have := Hb3.out.size; simp at this; omega) ((Below.refl _ _).alloc (Nat.le_refl _) _) ⟨[], ⟨rfl, rfl⟩, by simp [Fresh]⟩ (bb := w3.heap.size) (c := 1) (by simp) rfl rfl (by simp [Hl3.out]; omega) (by simp [Hl3.out]; omega) ?_; intro v2 w4 hn2 hg2 hv2 hb4; have Hn2 := Lib.hid hn2; have Hb4 := Lib.hid hb4; clear hn2 hg2 hv2 hb4))
              have hb4 : Below w.heap.size w w4 := ((Hb2.out.alloc hle2 _).trans (Hb3.out.mono hle2)).trans (Hb4.out.mono hle2)
              have hnats : nats (ps ++ [p]) = [] ++ nats ps ++ [(p : Int)] := by simp [nats]
              refine (Ih.out (ps ++ [p]) w4 _ _ _ (by have := Hf.out; simp; omega) (by intro q hq; rcases List.mem_append.1 hq with hq | hq; exact Hq.out q hq; simp at hq; omega) (Tab.frame _ _ _ _ H1t.out hb4) (Tab.frame _ _ _ _ H2t.out hb4) (by rw [hnats]; exact New.ints Hn2.out)).mono ?_
              rintro e w5 ⟨rfl, hb5⟩
              clear hnats
              have Hb5 := Lib.hid (hb4.trans (hb5.mono hb4.size))
              clear hb4 hb5
              generalize fitM a b n f (ps ++ [p]) = fm at H3 ⊢
              cases fm with
              | true =>
                have H4 := Lib.hid (show R = true from H3.out)
                clear H3
                go_wp2
                go_ret
                exact ⟨by rw [H4.out]; rfl, Hb5.out⟩
              | false =>
                have H4 := Lib.hid (show R = anyF G g' (p + 1) from H3.out)
                clear H3
                go_wp2
                go_roundg g'
                case measure => omega
                case rel => exact ⟨p + 1, by go_num, by omega, H4, Hb5.out⟩
      · have : g = 0 := by omega
        subst this
        have H1 := Lib.hid (show R = false from H.out)
        clear H
        go_wp2
        go_ret
        exact ⟨by rw [H1.out]; rfl, hbel⟩

set_option maxHeartbeats 4000000 in
set_option maxRecDepth 100000 in
theorem l18Match_c (a b : List (List Int)) (n : Nat) (ha : Sq n a) (hb : Sq n b) (hn0 : 0 < n) (hn : n ≤ 9) : ∀ (f : Nat) (ps : List Nat) (w : World) (va vb vp : Value), ps.length + f = n → (∀ q, q ∈ ps → q < n) → Tab w va a → Tab w vb b → Ints w vp (nats ps) →
    Calls Try.prog 99 #[va, vb, vp] w fun e w' => e = .returned (.bool (fitM a b n f ps)) ∧ Below w.heap.size w w' := by
  intro f
  induction f with
  | zero =>
    intro ps w va vb vp hf hq h1 h2 h3
    obtain ⟨ab, ao, ac, rfl, _⟩ := h1.entAt ha.1 ha.2 hn0
    have h3l : (nats ps).length = n := by unfold nats; simp; omega
    obtain ⟨pa, pc, rfl, _, _, _⟩ := h3.shape
    rw [h3l]
    go_enter Try.func99, Try.ntmps99
    go_wp2
    go_ret
    exact ⟨rfl, Below.refl _ _⟩
  | succ f ih =>
    intro ps w va vb vp hf hq h1 h2 h3
    have h1' := h1
    have h2' := h2
    have h3' := h3
    obtain ⟨ab, ao, ac, rfl, hab, hae⟩ := h1.entAt ha.1 ha.2 hn0
    obtain ⟨bb, bo, bc, rfl, hbb, hbe⟩ := h2.entAt hb.1 hb.2 hn0
    obtain ⟨pa, pc, rfl, hp1, _, hpc⟩ := h3.shape
    have h3l : (nats ps).length = ps.length := by unfold nats; simp
    rw [h3l] at hp1 hpc h3' ⊢
    have H0 := Lib.hid (show fitM a b n (f + 1) ps = anyF (fun p => okAt a b ps p && fitM a b n f (ps ++ [p])) n 0 from rfl)
    obtain ⟨G, hG⟩ : ∃ G : Nat → Bool, G = (fun p => okAt a b ps p && fitM a b n f (ps ++ [p])) := ⟨_, rfl⟩
    rw [← hG] at H0
    have HG := Lib.hid hG
    have Ih := Lib.hid ih
    have Hq := Lib.hid hq
    have t0 : ((ps.length : Int) == (n : Int)) = false := by simp; omega
    have hk1 : ps.length < n := by omega
    generalize fitM a b n (f + 1) ps = R at H0
    have Hf := Lib.hid hf
    clear hG ih hq h1 h2 h3 hf
    go_enter Try.func99, Try.ntmps99
    go_wp2
    go_loopg [8] n (fun g i wr => ∃ (p : Nat), i = .int .i64 p ∧ p + g = n ∧ Hid (R = anyF G g p) ∧ Below w.heap.size w wr)
    case atStart => exact ⟨0, rfl, by omega, H0, Below.refl _ _⟩
    case round =>
      obtain ⟨p, rfl, hp, H, hbel⟩ := hrel
      obtain ⟨wo, rfl⟩ : ∃ wo : World, wo = wr := ⟨_, rfl⟩
      obtain ⟨g, hg⟩ : ∃ g, g = gk := ⟨_, rfl⟩
      rw [← hg] at H hp
      by_cases hlt : p < n
      · obtain ⟨g', rfl⟩ : ∃ q, g = q + 1 := ⟨g - 1, by omega⟩
        have H1 := Lib.hid (show R = if G p then true else anyF G g' (p + 1) from H.out)
        obtain ⟨ab1, ao1, ac1, hA1, hab1, _, hA2⟩ := hae.at hk1 hn0
        obtain ⟨bb1, bo1, bc1, hB1, hbb1, _, hB2⟩ := hbe.at hlt hn0
        have hA3 := hA2 ps.length hk1
        have hB3 := hB2 p hlt
        have hrule := hbel.rule
        have hi1 : (ps.length : Int) < (n : Int) := by omega
        have hi2 : (p : Int) < (n : Int) := by omega
        clear H H0
        obtain ⟨e0, he0⟩ : ∃ e0 : Bool, e0 = (ent a ps.length ps.length == ent b p p) := ⟨_, rfl⟩
        have He0 := Lib.hid he0
        rw [eq_comm] at he0
        go_wp2
        go_quiet (fail)
        go_wp2
        clear he0
        go_loopg [9, 10] (ps.length) (fun g okv i w2 => ∃ (j : Nat) (fl : Bool), i = .int .i64 j ∧ okv = .bool fl ∧ j + g = ps.length ∧ Hid (okAt a b ps p = (fl && okL a b ps.length p (ps.drop j) j)) ∧ Drawn wo w2)
        case atStart => exact ⟨0, e0, rfl, rfl, by omega, Lib.hid (by rw [He0.out]; rfl), (Drawn.refl _).drewN _⟩
        case round =>
          obtain ⟨j, fl, rfl, rfl, hj, H, hdr⟩ := hrel
          have hrule2 := hdr.cell
          cases fl with
          | false =>
            have H2 := Lib.hid (show okAt a b ps p = false from by rw [H.out]; rfl)
            clear H hA3 hB3 hA2 hB2 hA1 hB1 hae hbe hpc
            have H3 := Lib.hid (show R = anyF G g' (p + 1) from by rw [H1.out, HG.out]; simp [H2.out])
            clear H1 H2
            by_cases hlt2 : j < ps.length
            all_goals
              go_wp2
              go_roundg g'
              case measure => omega
              case rel => exact ⟨p + 1, by go_num, by omega, H3, hbel.trans (hdr.below _)⟩
          | true =>
            by_cases hlt2 : j < ps.length
            · obtain ⟨q, hqj, hqd⟩ := at_lt hlt2
              have hqn := Hq.out q (List.mem_of_getElem? hqj)
              obtain ⟨pb, po, rfl, hpb, hpx⟩ := hpc (by omega)
              obtain ⟨u, hu, rfl⟩ := hpx j (q : Int) (nats_at hqj)
              obtain ⟨ab2, ao2, ac2, hA4, hab2, _, hA5⟩ := hae.at (i := j) (by omega) hn0
              obtain ⟨bb2, bo2, bc2, hB4, hbb2, _, hB5⟩ := hbe.at hqn hn0
              have H2 := Lib.hid (show okAt a b ps p = (true && ((decide (q ≠ p) && decide (ent a ps.length j = ent b p q) && decide (ent a j ps.length = ent b q p)) && okL a b ps.length p (ps.drop (j + 1)) (j + 1))) from by rw [H.out, hqd]; rfl)
              have hA6 := hA2 j (by omega)
              have hA7 := hA5 ps.length hk1
              have hB6 := hB2 q hqn
              have hB7 := hB5 p hlt
              have hi3 : (j : Int) < (n : Int) := by omega
              have hi4 : (q : Int) < (n : Int) := by omega
              have hi5 : (j : Int) < (ps.length : Int) := by omega
              clear H hqj hqd hpx hpc hA2 hA5 hB2 hB5 hA3 hB3 hae hbe
              by_cases hqp : q = p
              · have H3 := Lib.hid (show okAt a b ps p = (false && okL a b ps.length p (ps.drop (j + 1)) (j + 1)) from by rw [H2.out]; simp [hqp])
                have t1 : ((q : Int) != (p : Int)) = false := by simp [hqp]
                clear H2 hqp
                go_wp2
                go_quiet (fail)
                go_wp2
                go_roundg (ps.length - (j + 1))
                case measure => omega
                case rel => exact ⟨j + 1, false, by go_num, rfl, by omega, H3, hdr.drewN _⟩
              have t1 : ((q : Int) != (p : Int)) = true := by simp; omega
              by_cases hq1 : ent a ps.length j = ent b p q
              · have t2 : (ent a ps.length j == ent b p q) = true := by simp [hq1]
                by_cases hq2 : ent a j ps.length = ent b q p
                · have t3 : (ent a j ps.length == ent b q p) = true := by simp [hq2]
                  have H3 := Lib.hid (show okAt a b ps p = (true && okL a b ps.length p (ps.drop (j + 1)) (j + 1)) from by rw [H2.out]; simp [hqp, hq1, hq2])
                  clear H2 hqp hq1 hq2
                  go_wp2
                  go_quiet (fail)
                  go_wp2
                  go_roundg (ps.length - (j + 1))
                  case measure => omega
                  case rel => exact ⟨j + 1, true, by go_num, rfl, by omega, H3, hdr.drewN _⟩
                · have t3 : (ent a j ps.length == ent b q p) = false := by simp [hq2]
                  have H3 := Lib.hid (show okAt a b ps p = (false && okL a b ps.length p (ps.drop (j + 1)) (j + 1)) from by rw [H2.out]; simp [hq2])
                  clear H2 hqp hq1 hq2
                  go_wp2
                  go_quiet (fail)
                  go_wp2
                  go_roundg (ps.length - (j + 1))
                  case measure => omega
                  case rel => exact ⟨j + 1, false, by go_num, rfl, by omega, H3, hdr.drewN _⟩
              · have t2 : (ent a ps.length j == ent b p q) = false := by simp [hq1]
                have H3 := Lib.hid (show okAt a b ps p = (false && okL a b ps.length p (ps.drop (j + 1)) (j + 1)) from by rw [H2.out]; simp [hq1])
                clear H2 hqp hq1
                go_wp2
                go_quiet (fail)
                go_wp2
                go_roundg (ps.length - (j + 1))
                case measure => omega
                case rel => exact ⟨j + 1, false, by go_num, rfl, by omega, H3, hdr.drewN _⟩
            · have H2 := Lib.hid (show okAt a b ps p = true from by rw [H.out, drop_len hlt2]; rfl)
              clear H hA3 hB3 hA2 hB2 hA1 hB1 hae hbe hpc
              have H3 := Lib.hid (show R = if fitM a b n f (ps ++ [p]) then true else anyF G g' (p + 1) from by rw [H1.out, HG.out]; simp [H2.out])
              have hb2 : Below w.heap.size w wr := hbel.trans (hdr.below _)
              have Hsrc := Lib.hid (show SlOf (ValR (Value.int .i64)) (wr.alloc (.cells #[] 3)) (.slice pa ps.length pc) (nats ps) from Ints.frame _ _ _ _ h3' (hb2.alloc hb2.size _))
              have hle2 : w.heap.size ≤ wr.heap.size := hb2.size
              clear H1 H2 hrule hrule2 hbel hdr t0 h3'
              have Hb2 := Lib.hid hb2
              have H1t := Lib.hid h1'
              have H2t := Lib.hid h2'
              clear hb2 h1' h2'
              have Hl3 := Lib.hid h3l
              clear h3l
              go_wp2_with (first
                | (at_builtin; refine wpl_append_vals (f := Value.int .i64) (fun _ => rfl) rfl (.tmp 96) (.tmp 97) 33 rfl 3 (.int .i64 0) 8 Try.underlying33 infoI rfl (New.empty (R := OValR (Value.int .i64)) (lo := wr.heap.size) wr (Nat.le_refl _)) (by simp) Hsrc.out rfl rfl (by rw [Hl3.out]; simp; omega) (by rw [Hl3.out]; simp; omega) ?_; intro v1 w3 hn1 hg1 hv1 hb3; have Hn1 := Lib.hid hn1; have Hb3 := Lib.hid hb3; clear hn1 hg1 hv1 hb3)
                | (at_builtin; refine wpl_push (w0 := w3) (lo := wr.heap.size) (y := (p : Int)) OIntR.kept rfl (.tmp 98) (.tmp 100) 33 rfl 3 (.int .i64 0) 8 Try.underlying33 infoI rfl Hn1.out (by have := Hb3.out.size; simp at this; omega) ((Below.refl _ _).alloc (Nat.le_refl _) _) ⟨[], ⟨rfl, rfl⟩, by simp [Fresh]⟩ (bb := w3.heap.size) (c := 1) (by simp) rfl rfl (by simp [Hl3.out]; omega) (by simp [Hl3.out]; omega) ?_; intro v2 w4 hn2 hg2 hv2 hb4; have Hn2 := Lib.hid hn2; have Hb4 := Lib.hid hb4; clear hn2 hg2 hv2 hb4))
              have hb4 : Below w.heap.size w w4 := ((Hb2.out.alloc hle2 _).trans (Hb3.out.mono hle2)).trans (Hb4.out.mono hle2)
              have hnats : nats (ps ++ [p]) = [] ++ nats ps ++ [(p : Int)] := by simp [nats]
              refine (Ih.out (ps ++ [p]) w4 _ _ _ (by have := Hf.out; simp; omega) (by intro q hq; rcases List.mem_append.1 hq with hq | hq; exact Hq.out q hq; simp at hq; omega) (Tab.frame _ _ _ _ H1t.out hb4) (Tab.frame _ _ _ _ H2t.out hb4) (by rw [hnats]; exact New.ints Hn2.out)).mono ?_
              rintro e w5 ⟨rfl, hb5⟩
              clear hnats
              have Hb5 := Lib.hid (hb4.trans (hb5.mono hb4.size))
              clear hb4 hb5
              generalize fitM a b n f (ps ++ [p]) = fm at H3 ⊢
              cases fm with
              | true =>
                have H4 := Lib.hid (show R = true from H3.out)
                clear H3
                go_wp2
                go_ret
                exact ⟨by rw [H4.out]; rfl, Hb5.out⟩
              | false =>
                have H4 := Lib.hid (show R = anyF G g' (p + 1) from H3.out)
                clear H3
                go_wp2
                go_roundg g'
                case measure => omega
                case rel => exact ⟨p + 1, by go_num, by omega, H4, Hb5.out⟩
      · have : g = 0 := by omega
        subst this
        have H1 := Lib.hid (show R = false from H.out)
        clear H
        go_wp2
        go_ret
        exact ⟨by rw [H1.out]; rfl, hbel⟩
end Go.Proofs.Ytlkgkfgpnnahdaa
end

section
/-
  Tables of zeros, the reference's and the program's; copies of tables.
-/
namespace Go.Proofs.Ytlkgkfgpnnahdaa
open Go.RowKit Go.Deep Go.Sd

theorem replicate_snoc {α : Type} (k : Nat) (x : α) : List.replicate k x ++ [x] = List.replicate (k + 1) x := by
  rw [List.replicate_succ']

set_option maxHeartbeats 400000 in
theorem l4Zero_c {w : World} {p r : Nat} (hp : p ≤ 1048576) (hr : r ≤ 1048576) :
    Calls Try.prog 164 #[.int .i64 p, .int .i64 r] w (Makes (OTab 3 33) w (List.replicate p (List.replicate r 0))) := by
  have hmk := run_make_row' (P := Try.prog) 33 3 (.int .i64 0) 8 Try.underlying33 infoI rfl .i64 .i64 r (by omega) (by omega)
  go_enter Try.func164, Try.ntmps164
  go_wp2
  go_loopg [5, 6] p (fun g v i wr => ∃ (k : Nat), i = .int .i64 k ∧ k + g = p ∧ New (OTab 3 33) w.heap.size wr v (List.replicate k (List.replicate r 0)) ∧ Below w.heap.size w wr)
  case atStart => exact ⟨0, rfl, by omega, New.empty w (Nat.le_refl _), (Below.refl _ _).alloc (Nat.le_refl _) _⟩
  case round =>
    obtain ⟨k, rfl, hk, hnew, hbel⟩ := hrel
    by_cases hlt : k < p
    · have hle := hbel.size
      have Hn := Lib.hid hnew
      have Hb := Lib.hid hbel
      have Hr := Lib.hid (show New (OInts 3) wr.heap.size ((wr.alloc (.cells (madeCells #[.int .i64 0] r) 3)).alloc (.cells #[.slice (some ⟨wr.heap.size, 0, none⟩) r r] 33)) (.slice (some ⟨wr.heap.size, 0, none⟩) r r) (List.replicate r 0) from
        New.keep (OInts.kept _) (New.made 3 wr (.int .i64 0) 0 r (Nat.le_refl _) (by omega) OIntR.zero) ((Below.refl _ _).alloc (Nat.le_refl _) _) (Nat.le_refl _))
      clear hnew hbel
      go_wp2_with (at_builtin; refine wpl_push (w0 := wr) (lo := w.heap.size) (OInts.kept _) rfl (.tmp 13) (.tmp 16) 24 rfl 33 (.slice none 0 0) 24 Try.underlying24 infoR rfl Hn.out hle (((Below.refl _ _).alloc (Nat.le_refl _) _).alloc (by simp) _) Hr.out (bb := wr.heap.size + 1) (c := 1) (by simp) rfl rfl (by simp; omega) (by simp; omega) ?_; intro v1 w1 hn1 _ _ hb1)
      go_roundg (p - (k + 1))
      case measure => omega
      case rel => exact ⟨k + 1, by go_num, by omega, by rw [← replicate_snoc]; exact hn1, Hb.out.trans hb1⟩
    · have e : k = p := by omega
      subst e
      clear hmk
      go_wp2
      go_ret
      exact ⟨_, rfl, hnew, hbel⟩
set_option maxHeartbeats 400000 in
theorem zeros_c {w : World} {p : Nat} (hp : p ≤ 1048576) :
    Calls Try.prog 93 #[.int .i64 p] w (Makes (OTab 3 33) w (List.replicate p (List.replicate p 0))) := by
  have hmk := run_make_row' (P := Try.prog) 33 3 (.int .i64 0) 8 Try.underlying33 infoI rfl .i64 .i64 p (by omega) (by omega)
  go_enter Try.func93, Try.ntmps93
  go_wp2
  go_loopg [3, 6] p (fun g v i wr => ∃ (k : Nat), i = .int .i64 k ∧ k + g = p ∧ New (OTab 3 33) w.heap.size wr v (List.replicate k (List.replicate p 0)) ∧ Below w.heap.size w wr)
  case atStart => exact ⟨0, rfl, by omega, New.empty w (Nat.le_refl _), (Below.refl _ _).alloc (Nat.le_refl _) _⟩
  case round =>
    obtain ⟨k, rfl, hk, hnew, hbel⟩ := hrel
    by_cases hlt : k < p
    · have hle := hbel.size
      have Hn := Lib.hid hnew
      have Hb := Lib.hid hbel
      have Hr := Lib.hid (show New (OInts 3) wr.heap.size ((wr.alloc (.cells (madeCells #[.int .i64 0] p) 3)).alloc (.cells #[.slice (some ⟨wr.heap.size, 0, none⟩) p p] 33)) (.slice (some ⟨wr.heap.size, 0, none⟩) p p) (List.replicate p 0) from
        New.keep (OInts.kept _) (New.made 3 wr (.int .i64 0) 0 p (Nat.le_refl _) (by omega) OIntR.zero) ((Below.refl _ _).alloc (Nat.le_refl _) _) (Nat.le_refl _))
      clear hnew hbel
      go_wp2_with (at_builtin; refine wpl_push (w0 := wr) (lo := w.heap.size) (OInts.kept _) rfl (.tmp 8) (.tmp 11) 24 rfl 33 (.slice none 0 0) 24 Try.underlying24 infoR rfl Hn.out hle (((Below.refl _ _).alloc (Nat.le_refl _) _).alloc (by simp) _) Hr.out (bb := wr.heap.size + 1) (c := 1) (by simp) rfl rfl (by simp; omega) (by simp; omega) ?_; intro v1 w1 hn1 _ _ hb1)
      go_roundg (p - (k + 1))
      case measure => omega
      case rel => exact ⟨k + 1, by go_num, by omega, by rw [← replicate_snoc]; exact hn1, Hb.out.trans hb1⟩
    · have e : k = p := by omega
      subst e
      clear hmk
      go_wp2
      go_ret
      exact ⟨_, rfl, hnew, hbel⟩
set_option maxHeartbeats 400000 in
theorem copied_c {w : World} {v : Value} {m : List (List Int)} (h : Tab w v m) (hp : m.length ≤ 1048576) (hr : ∀ r, r ∈ m → r.length ≤ 1048576) :
    Calls Try.prog 77 #[v] w (Makes (OTab 3 33) w m) := by
  obtain ⟨a, c, rfl, _, _, hcell⟩ := h.shape
  have Hsr := Lib.hid hr
  clear h hr
  go_enter Try.func77, Try.ntmps77
  go_wp2
  go_loopg [3, 9] (m.length) (fun g x i wr => ∃ (k : Nat), i = .int .i64 k ∧ k + g = m.length ∧ New (OTab 3 33) w.heap.size wr x (m.take k) ∧ Below w.heap.size w wr)
  case atStart => exact ⟨0, rfl, by omega, New.empty w (Nat.le_refl _), (Below.refl _ _).alloc (Nat.le_refl _) _⟩
  case round =>
    obtain ⟨k, rfl, hk, hnew, hbel⟩ := hrel
    by_cases hlt : k < m.length
    · obtain ⟨b, o, rfl, hb, hx0⟩ := hcell (by omega)
      obtain ⟨r, hr, _⟩ := at_lt hlt
      obtain ⟨u, hu, hru⟩ := hx0 k r hr
      have hrl := Hsr.out r (List.mem_of_getElem? hr)
      have hle := hbel.size
      have hu1 : wr.cell? ⟨b, o + k, none⟩ = some u := (hbel.cell (p := ⟨b, o + k, none⟩) hb).trans hu
      have hbr : b < wr.heap.size := by omega
      have hku : (m.take k).length = k := by simp; omega
      have Hk := Lib.hid hku
      have Hn := Lib.hid hnew
      have Hb := Lib.hid hbel
      have Hx := Lib.hid hr
      have Hsrc := Lib.hid (show SlOf (ValR (Value.int .i64)) (wr.alloc (.cells #[] 3)) u r from Ints.frame _ _ _ _ (Ints.frame _ _ _ _ hru hbel) ((Below.refl _ _).alloc (Nat.le_refl _) _))
      obtain ⟨ra, rc, rfl, _, _, _⟩ := hru.shape
      clear hnew hbel hru hr hu hx0 hcell hku
      go_wp2_with (first
        | (at_builtin; refine wpl_append_vals (f := Value.int .i64) (fun _ => rfl) rfl (.tmp 14) (.tmp 15) 33 rfl 3 (.int .i64 0) 8 Try.underlying33 infoI rfl (New.empty (R := OValR (Value.int .i64)) (lo := wr.heap.size) wr (Nat.le_refl _)) (by simp) Hsrc.out rfl rfl (by simp; omega) (by simp; omega) ?_; intro v1 w1 hn1 _ _ hb1; obtain ⟨xa, xn, xc, rfl⟩ := hn1.slice; have Hn1 := Lib.hid hn1; have Hb1 := Lib.hid (((Below.refl wr.heap.size wr).alloc (Nat.le_refl _) _).trans hb1); clear hn1 hb1)
        | (at_builtin; refine wpl_push (w0 := wr) (lo := w.heap.size) (y := r) (OInts.kept _) rfl (.tmp 13) (.tmp 17) 24 rfl 33 (.slice none 0 0) 24 Try.underlying24 infoR rfl Hn.out hle (Hb1.out.alloc Hb1.out.size _) (New.keep (OInts.kept _) (B := w1.heap.size) Hn1.out ((Below.refl _ _).alloc (Nat.le_refl _) _) (Nat.le_refl _)) (bb := w1.heap.size) (c := 1) (by simp) rfl rfl (by rw [Hk.out]; omega) (by rw [Hk.out]; omega) ?_; intro v2 w2 hn2 _ _ hb2; have Hn2 := Lib.hid hn2; have Hb2 := Lib.hid hb2; clear hn2 hb2))
      go_roundg (m.length - (k + 1))
      case measure => omega
      case rel => exact ⟨k + 1, by go_num, by omega, by rw [← take_snoc' Hx.out]; exact Hn2.out, Hb.out.trans Hb2.out⟩
    · have e : m.take k = m := List.take_of_length_le (by omega)
      rw [e] at hnew
      clear hcell e
      go_wp2
      go_ret
      exact ⟨_, rfl, hnew, hbel⟩
set_option maxHeartbeats 400000 in
theorem l4Copy_c {w : World} {v : Value} {m : List (List Int)} (h : Tab w v m) (hp : m.length ≤ 1048576) (hr : ∀ r, r ∈ m → r.length ≤ 1048576) :
    Calls Try.prog 81 #[v] w (Makes (OTab 3 33) w m) := by
  obtain ⟨a, c, rfl, _, _, hcell⟩ := h.shape
  have Hsr := Lib.hid hr
  clear h hr
  go_enter Try.func81, Try.ntmps81
  go_wp2
  go_loopg [3, 4] (m.length) (fun g x i wr => ∃ (k : Nat), i = .int .i64 k ∧ k + g = m.length ∧ New (OTab 3 33) w.heap.size wr x (m.take k) ∧ Below w.heap.size w wr)
  case atStart => exact ⟨0, rfl, by omega, New.empty w (Nat.le_refl _), (Below.refl _ _).alloc (Nat.le_refl _) _⟩
  case round =>
    obtain ⟨k, rfl, hk, hnew, hbel⟩ := hrel
    by_cases hlt : k < m.length
    · obtain ⟨b, o, rfl, hb, hx0⟩ := hcell (by omega)
      obtain ⟨r, hr, _⟩ := at_lt hlt
      obtain ⟨u, hu, hru⟩ := hx0 k r hr
      have hrl := Hsr.out r (List.mem_of_getElem? hr)
      have hle := hbel.size
      have hu1 : wr.cell? ⟨b, o + k, none⟩ = some u := (hbel.cell (p := ⟨b, o + k, none⟩) hb).trans hu
      have hbr : b < wr.heap.size := by omega
      have hku : (m.take k).length = k := by simp; omega
      have Hk := Lib.hid hku
      have Hn := Lib.hid hnew
      have Hb := Lib.hid hbel
      have Hx := Lib.hid hr
      have Hsrc := Lib.hid (show SlOf (ValR (Value.int .i64)) (wr.alloc (.cells #[] 3)) u r from Ints.frame _ _ _ _ (Ints.frame _ _ _ _ hru hbel) ((Below.refl _ _).alloc (Nat.le_refl _) _))
      obtain ⟨ra, rc, rfl, _, _, _⟩ := hru.shape
      clear hnew hbel hru hr hu hx0 hcell hku
      go_wp2_with (first
        | (at_builtin; refine wpl_append_vals (f := Value.int .i64) (fun _ => rfl) rfl (.tmp 13) (.tmp 17) 33 rfl 3 (.int .i64 0) 8 Try.underlying33 infoI rfl (New.empty (R := OValR (Value.int .i64)) (lo := wr.heap.size) wr (Nat.le_refl _)) (by simp) Hsrc.out rfl rfl (by simp; omega) (by simp; omega) ?_; intro v1 w1 hn1 _ _ hb1; obtain ⟨xa, xn, xc, rfl⟩ := hn1.slice; have Hn1 := Lib.hid hn1; have Hb1 := Lib.hid (((Below.refl wr.heap.size wr).alloc (Nat.le_refl _) _).trans hb1); clear hn1 hb1)
        | (at_builtin; refine wpl_push (w0 := wr) (lo := w.heap.size) (y := r) (OInts.kept _) rfl (.tmp 12) (.tmp 19) 24 rfl 33 (.slice none 0 0) 24 Try.underlying24 infoR rfl Hn.out hle (Hb1.out.alloc Hb1.out.size _) (New.keep (OInts.kept _) (B := w1.heap.size) Hn1.out ((Below.refl _ _).alloc (Nat.le_refl _) _) (Nat.le_refl _)) (bb := w1.heap.size) (c := 1) (by simp) rfl rfl (by rw [Hk.out]; omega) (by rw [Hk.out]; omega) ?_; intro v2 w2 hn2 _ _ hb2; have Hn2 := Lib.hid hn2; have Hb2 := Lib.hid hb2; clear hn2 hb2))
      go_roundg (m.length - (k + 1))
      case measure => omega
      case rel => exact ⟨k + 1, by go_num, by omega, by rw [← take_snoc' Hx.out]; exact Hn2.out, Hb.out.trans Hb2.out⟩
    · have e : m.take k = m := List.take_of_length_le (by omega)
      rw [e] at hnew
      clear hcell e
      go_wp2
      go_ret
      exact ⟨_, rfl, hnew, hbel⟩
end Go.Proofs.Ytlkgkfgpnnahdaa
end

section
/-
  Products of tables, the program's and the reference's.
-/
namespace Go.Proofs.Ytlkgkfgpnnahdaa
open Go.RowKit Go.Deep Go.Sd

set_option maxHeartbeats 2000000 in
theorem times_c {w : World} {va vb : Value} {a b : List (List Int)} {p q r : Nat} (h1 : Tab w va a) (h2 : Tab w vb b) (hap : a.length = p) (har : ∀ x, x ∈ a → x.length = q) (hbp : b.length = q) (hbr : ∀ x, x ∈ b → x.length = r)
    (hp0 : 0 < p) (hq0 : 0 < q) (hr0 : 0 < r) (hp : p ≤ 9) (hq : q ≤ 9) (hr : r ≤ 9) (ba : Bd 1000000 a) (bb : Bd 1000000 b) :
    Calls Try.prog 175 #[va, vb] w (Makes (OTab 3 33) w (prodT a b p q r)) := by
  obtain ⟨ab, ao, ac, rfl, hab, hae⟩ := h1.entAt hap har hp0
  obtain ⟨bb', bo, bc, rfl, hbb, hbe⟩ := h2.entAt hbp hbr hq0
  have Hd := Lib.hid (fun i j (hi : i < p) (hj : j < r) => dotU_bd ba bb hap har hbp hbr hi hj)
  have Hm := Lib.hid (fun i j k (hi : i < p) (hj : j < r) (hk : k < q) => mul_bd (ba.ent har (by omega : i < a.length) hk) (bb.ent hbr (by omega : k < b.length) hj))
  have hmk := run_make_row' (P := Try.prog) 33 3 (.int .i64 0) 8 Try.underlying33 infoI rfl .i64 .i64 r (by omega) (by omega)
  clear h1 h2 hap har hbp hbr ba bb
  go_enter Try.func175, Try.ntmps175
  go_wp2
  go_loopg [5, 16] p (fun g v ii wr => ∃ (i : Nat), ii = .int .i64 i ∧ i + g = p ∧ New (OTab 3 33) w.heap.size wr v ((prodT a b p q r).take i) ∧ Below w.heap.size w wr)
  case atStart => exact ⟨0, rfl, by omega, New.empty w (Nat.le_refl _), (Below.refl _ _).alloc (Nat.le_refl _) _⟩
  case round =>
    obtain ⟨i, rfl, hi, hnew, hbel⟩ := hrel
    obtain ⟨wo, rfl⟩ : ∃ wo : World, wo = wr := ⟨_, rfl⟩
    by_cases hlt : i < p
    · have hle := hbel.size
      have hae1 := hae.frame hab hbel
      have hbe1 := hbe.frame hbb hbel
      obtain ⟨rb, ro, rc, hA1, hrb, _, hA2⟩ := hae1.at hlt hq0
      obtain ⟨zb, zo, zc, hB1, hzb, _, _⟩ := hbe1.at hq0 hr0
      have hab' : ab < wo.heap.size := by omega
      have hbb'' : bb' < wo.heap.size := by omega
      have hB1' : wo.cell? ⟨bb', bo, none⟩ = some (.slice (some ⟨zb, zo, none⟩) r zc) := hB1
      have Hn := Lib.hid hnew
      have Hb := Lib.hid hbel
      have hku : ((prodT a b p q r).take i).length = i := by unfold prodT; rw [List.length_take, tabOf_len]; omega
      have Hk := Lib.hid hku
      clear hnew hbel hae hbe hae1 hku hB1
      go_wp2
      go_loopg [27] q (fun g kk wi => ∃ (k : Nat), kk = .int .i64 k ∧ k + g = q ∧ New (OInts 3) wo.heap.size wi (.slice (some ⟨wo.heap.size, 0, none⟩) r r) (lineF a b i r k 0) ∧ Below wo.heap.size wo wi)
      case atStart => exact ⟨0, rfl, by omega, by rw [lineF_start]; exact New.made 3 wo (.int .i64 0) 0 r (Nat.le_refl _) (by omega) OIntR.zero, (Below.refl _ _).alloc (Nat.le_refl _) _⟩
      case round =>
        obtain ⟨k, rfl, hk, hnew, hbel⟩ := hrel
        obtain ⟨wi, rfl⟩ : ∃ wi : World, wi = wr := ⟨_, rfl⟩
        by_cases hlt2 : k < q
        · have hrule := hbel.rule
          have hA3 := hA2 k hlt2
          obtain ⟨sb, so, sc, hS1, hsb, _, hS2⟩ := hbe1.at hlt2 hr0
          have Hb2 := Lib.hid hbel
          have hi1 : (k : Int) < (q : Int) := by omega
          clear hA2 hbe1 hbel
          go_wp2
          go_loopg [37] r (fun g jj wj => ∃ (j : Nat), jj = .int .i64 j ∧ j + g = r ∧ New (OInts 3) wo.heap.size wj (.slice (some ⟨wo.heap.size, 0, none⟩) r r) (lineF a b i r k j) ∧ Below wo.heap.size wo wj)
          case atStart => exact ⟨0, rfl, by omega, hnew, Hb2.out⟩
          case round =>
            obtain ⟨j, rfl, hj, hnew3, hbel3⟩ := hrel
            clear hnew hrule
            by_cases hlt3 : j < r
            · have hrule := hbel3.rule
              have hS3 := hS2 j hlt3
              obtain ⟨b', c', hv, _, _, hlt', hcl, hfr, hst⟩ := hnew3.int_at (lineF_at hlt3)
              obtain rfl : b' = wo.heap.size := by simp at hv; exact hv.1.symm
              have Hst := Lib.hid (by have := hst (dotU a b i j (k + 1)); rw [lineF_set] at this; exact this)
              have hd1 := Hd.out i j hlt hlt3 k (by omega)
              have hm1 := Hm.out i j k hlt hlt3 hlt2
              have hd2 : dotU a b i j (k + 1) = dotU a b i j k + ent a i k * ent b k j := rfl
              obtain ⟨hd3, hd4⟩ := hd1
              obtain ⟨hm3, hm4⟩ := hm1
              have hk9 : (k : Int) ≤ 9 := by omega
              have Hb3 := Lib.hid (hbel3.setCell (p := ⟨wo.heap.size, j, none⟩) (Nat.le_refl _) (.int .i64 (dotU a b i j (k + 1))))
              rw [hd2] at Hst Hb3
              generalize dotU a b i j k = D at *
              generalize ent a i k = X at *
              generalize ent b k j = Y at *
              clear hv hst hnew3 hS2 hbel3 hd2
              go_wp2
              go_roundg (r - (j + 1))
              case measure => omega
              case rel => exact ⟨j + 1, by go_num, by omega, Hst.out, Hb3.out⟩
            · have e : j = r := by omega
              subst e
              rw [lineF_end] at hnew3
              go_wp2
              go_roundg (q - (k + 1))
              case measure => omega
              case rel => exact ⟨k + 1, by go_num, by omega, hnew3, hbel3⟩
        · have e : k = q := by omega
          subst e
          rw [lineF_full] at hnew
          have Hr := Lib.hid hnew
          have Hb2 := Lib.hid hbel
          have hle2 := hbel.size
          clear hnew hbel hA2 hbe1 hmk
          go_wp2_with (at_builtin; refine wpl_push (w0 := wo) (lo := w.heap.size) (OInts.kept _) rfl (.tmp 53) (.tmp 55) 24 rfl 33 (.slice none 0 0) 24 Try.underlying24 infoR rfl Hn.out hle (Hb2.out.alloc hle2 _) (New.keep (OInts.kept _) Hr.out ((Below.refl wi.heap.size _).alloc (Nat.le_refl _) _) (Nat.le_refl _)) (bb := wi.heap.size) (c := 1) (by simp) rfl rfl (by rw [Hk.out]; omega) (by rw [Hk.out]; omega) ?_; intro v1 w1 hn1 _ _ hb1)
          go_roundg (p - (i + 1))
          case measure => omega
          case rel => exact ⟨i + 1, by go_num, by omega, by unfold prodT at hn1 ⊢; rw [← tabOf_take hlt]; exact hn1, Hb.out.trans hb1⟩
    · have e : i = p := by omega
      subst e
      rw [show (prodT a b i q r).take i = prodT a b i q r from tabOf_full] at hnew
      clear hae hbe hmk
      go_wp2
      go_ret
      exact ⟨_, rfl, hnew, hbel⟩

set_option maxHeartbeats 2000000 in
set_option maxRecDepth 100000 in
theorem l4Times_c {w : World} {va vb : Value} {a b : List (List Int)} {p q r : Nat} (h1 : Tab w va a) (h2 : Tab w vb b) (hap : a.length = p) (har : ∀ x, x ∈ a → x.length = q) (hbp : b.length = q) (hbr : ∀ x, x ∈ b → x.length = r)
    (hp0 : 0 < p) (hq0 : 0 < q) (hr0 : 0 < r) (hp : p ≤ 9) (hq : q ≤ 9) (hr : r ≤ 9) (ba : Bd 1000000 a) (bb : Bd 1000000 b) :
    Calls Try.prog 114 #[va, vb, .int .i64 r] w (Makes (OTab 3 33) w (prodT a b p q r)) := by
  obtain ⟨ab, ao, ac, rfl, hab, hae⟩ := h1.entAt hap har hp0
  obtain ⟨bb', bo, bc, rfl, hbb, hbe⟩ := h2.entAt hbp hbr hq0
  have Hd := Lib.hid (fun i j (hi : i < p) (hj : j < r) => dotU_bd ba bb hap har hbp hbr hi hj)
  have Hm := Lib.hid (fun i j k (hi : i < p) (hj : j < r) (hk : k < q) => mul_bd (ba.ent har (by omega : i < a.length) hk) (bb.ent hbr (by omega : k < b.length) hj))
  have Hz := Lib.hid (l4Zero_c (w := w) (p := p) (r := r) (by omega) (by omega))
  clear h1 h2 hap har hbp hbr ba bb
  go_enter Try.func114, Try.ntmps114
  go_wp2_with fail
  refine Hz.out.mono ?_
  rintro e w1 ⟨v1, rfl, hn1, hb1⟩
  rw [← prodF_start a b p q r] at hn1
  obtain ⟨gb, gc, _, _, rfl, _, hgb, hgb2, _⟩ := hn1.tab_at (prodF_row hp0) (prodF_at hr0)
  rw [show (prodF a b p q r 0 0 0).length = p from tabOf_len _ _ _] at hn1 ⊢
  have Hn1 := Lib.hid hn1
  have Hb1 := Lib.hid hb1
  clear hn1 hb1 Hz
  go_wp2
  go_loopg [8] p (fun g ii wr => ∃ (i : Nat), ii = .int .i64 i ∧ i + g = p ∧ New (OTab 3 33) w.heap.size wr (.slice (some ⟨gb, 0, none⟩) p gc) (prodF a b p q r i 0 0) ∧ Below w.heap.size w wr)
  case atStart => exact ⟨0, rfl, by omega, Hn1.out, Hb1.out⟩
  case round =>
    obtain ⟨i, rfl, hi, hnew, hbel⟩ := hrel
    have Hn := Lib.hid hnew
    have Hb := Lib.hid hbel
    clear hnew hbel
    by_cases hlt : i < p
    · go_wp2
      go_loopg [9] r (fun g jj wr => ∃ (j : Nat), jj = .int .i64 j ∧ j + g = r ∧ New (OTab 3 33) w.heap.size wr (.slice (some ⟨gb, 0, none⟩) p gc) (prodF a b p q r i j 0) ∧ Below w.heap.size w wr)
      case atStart => exact ⟨0, rfl, by omega, Hn.out, Hb.out⟩
      case round =>
        clear Hn Hb
        obtain ⟨j, rfl, hj, hnew, hbel⟩ := hrel
        have Hn := Lib.hid hnew
        have Hb := Lib.hid hbel
        clear hnew hbel
        by_cases hlt2 : j < r
        · go_wp2
          go_loopg [10] q (fun g kk wr => ∃ (k : Nat), kk = .int .i64 k ∧ k + g = q ∧ New (OTab 3 33) w.heap.size wr (.slice (some ⟨gb, 0, none⟩) p gc) (prodF a b p q r i j k) ∧ Below w.heap.size w wr)
          case atStart => exact ⟨0, rfl, by omega, Hn.out, Hb.out⟩
          case round =>
            clear Hn Hb
            obtain ⟨k, rfl, hk, hnew, hbel⟩ := hrel
            by_cases hlt3 : k < q
            · obtain ⟨rb, ro, rc, hA1, hrb, _, hA2⟩ := hae.at hlt hq0
              obtain ⟨zb, zo, zc, hB1, hzb, _, hB2⟩ := hbe.at hlt3 hr0
              have hA3 := hA2 k hlt3
              have hB3 := hB2 j hlt2
              obtain ⟨b', c', sb, sc, hv, _, _, _, hcl1, _, hsb, _, hcl2, hfr, hst⟩ := hnew.tab_at (prodF_row hlt) (prodF_at hlt2)
              obtain rfl : b' = gb := by simp at hv; exact hv.1.symm
              rw [rowOf_len] at hcl1
              have Hst := Lib.hid (by have := hst (dotU a b i j (k + 1)); rw [prodF_set] at this; exact this)
              have hd1 := Hd.out i j hlt hlt2 k (by omega)
              have hm1 := Hm.out i j k hlt hlt2 hlt3
              have hd2 : dotU a b i j (k + 1) = dotU a b i j k + ent a i k * ent b k j := rfl
              obtain ⟨hd3, hd4⟩ := hd1
              obtain ⟨hm3, hm4⟩ := hm1
              have hk9 : (k : Int) ≤ 9 := by omega
              have Hb3 := Lib.hid (hbel.setCell (p := ⟨sb, j, none⟩) hsb (.int .i64 (dotU a b i j (k + 1))))
              have hrule := hbel.rule
              rw [hd2] at Hst Hb3
              have hi1 : (i : Int) < (p : Int) := by omega
              have hi2 : (j : Int) < (r : Int) := by omega
              have hi3 : (k : Int) < (q : Int) := by omega
              generalize dotU a b i j k = D at *
              generalize ent a i k = X at *
              generalize ent b k j = Y at *
              clear hv hst hnew hA2 hB2 hbel hd2
              go_wp2
              go_still_tail 29, (by kernel_rfl)
              go_wp2
              go_roundg (q - (k + 1))
              case measure => omega
              case rel => exact ⟨k + 1, by go_num, by omega, New.heap (OTab.kept _ _) Hst.out rfl, Hb3.out.drew⟩
            · have e : k = q := by omega
              subst e
              rw [prodF_nextj] at hnew
              go_wp2
              go_roundg (r - (j + 1))
              case measure => omega
              case rel => exact ⟨j + 1, by go_num, by omega, hnew, hbel⟩
        · have e : j = r := by omega
          subst e
          have Hn2 := Hn.out
          rw [prodF_nexti] at Hn2
          have Hn3 := Lib.hid Hn2
          clear Hn2
          go_wp2
          go_roundg (p - (i + 1))
          case measure => omega
          case rel => exact ⟨i + 1, by go_num, by omega, Hn3.out, Hb.out⟩
    · have e : i = p := by omega
      subst e
      have Hn2 := Hn.out
      rw [prodF_end] at Hn2
      have Hn3 := Lib.hid Hn2
      clear Hn2
      go_wp2
      go_ret
      exact ⟨_, rfl, Hn3.out, Hb.out⟩
end Go.Proofs.Ytlkgkfgpnnahdaa
end
