/-
  Two matrices that are alike: the program's search for places and the reference's answer alike.
-/
import Derived.Test.YtdohepngandajaaRows
import Derived.Test.YtdohepngandajaaBase
import Derived.Test.YtdohepngandajaaHarn
import Derived.Test.YtdohepngandajaaMat
import Derived.Deep.DeepMust
namespace Go.Proofs.Ytdohepngandajaa
open Go.RowKit Go.Deep Go.Sd

/-- The places that are given fit with p as the next one. -/
def okL (a b : List (List Int)) (k p : Nat) : List Nat → Nat → Bool
  | [], _ => true
  | q :: qs, i => (decide (q ≠ p) && decide (ent a k i = ent b p q) && decide (ent a i k = ent b q p)) && okL a b k p qs (i + 1)
def okAt (a b : List (List Int)) (ps : List Nat) (p : Nat) : Bool := decide (ent a ps.length ps.length = ent b p p) && okL a b ps.length p ps 0

/-- Some number from p on, of the next g ones. -/
def anyF (h : Nat → Bool) : Nat → Nat → Bool
  | 0, _ => false
  | g + 1, p => if h p then true else anyF h g (p + 1)

def fitM (a b : List (List Int)) (n : Nat) : Nat → List Nat → Bool
  | 0, _ => true
  | f + 1, ps => anyF (fun p => okAt a b ps p && fitM a b n f (ps ++ [p])) n 0

def alikeM (a b : List (List Int)) : Bool := isMat a && isMat b && decide (a.length = b.length) && decide (a.length ≤ 6) && fitM a b a.length a.length []

def nats (ps : List Nat) : List Int := ps.map fun (q : Nat) => (q : Int)
theorem nats_at {ps : List Nat} {i q : Nat} (h : ps[i]? = some q) : (nats ps)[i]? = some (q : Int) := by simp [nats, h]

theorem isMat_sq {m : List (List Int)} (h : isMat m = true) : Sq m.length m ∧ 1 ≤ m.length ∧ m.length ≤ 9 := by
  unfold isMat at h
  simp only [Bool.and_eq_true, decide_eq_true_eq, List.all_eq_true] at h
  refine ⟨⟨rfl, fun r hr => ?_⟩, h.1.1, h.1.2⟩
  have := h.2 r hr
  unfold rowOk at this
  simp at this
  exact this.1

set_option maxHeartbeats 4000000 in
set_option maxRecDepth 100000 in
theorem fits_c (a b : List (List Int)) (n : Nat) (ha : Sq n a) (hb : Sq n b) (hn0 : 0 < n) (hn : n ≤ 9) : ∀ (f : Nat) (ps : List Nat) (w : World) (va vb vp : Value), ps.length + f = n → (∀ q, q ∈ ps → q < n) → Tab w va a → Tab w vb b → Ints w vp (nats ps) →
    Calls Try.prog 167 #[va, vb, vp] w fun e w' => e = .returned (.bool (fitM a b n f ps)) ∧ Below w.heap.size w w' := by
  intro f
  induction f with
  | zero =>
    intro ps w va vb vp hf hq h1 h2 h3
    obtain ⟨ab, ao, ac, rfl, _⟩ := h1.entAt ha.1 ha.2 hn0
    have h3l : (nats ps).length = n := by unfold nats; simp; omega
    obtain ⟨pa, pc, rfl, _, _, _⟩ := h3.shape
    rw [h3l]
    go_enter Try.func167, Try.ntmps167
    go_wp2
    go_ret
    exact ⟨rfl, Below.refl _ _⟩
  | succ f ih =>
    intro ps w va vb vp hf hq h1 h2 h3
    have h1' := h1
    have h2' := h2
    have h3' := h3
    obtain ⟨ab, ao, ac, rfl, hab, hae⟩ := h1.entAt ha.1 ha.2 hn0
    obtain ⟨bb, bo, bc, rfl, hbb, hbe⟩ := h2.entAt hb.1 hb.2 hn0
    obtain ⟨pa, pc, rfl, hp1, _, hpc⟩ := h3.shape
    have h3l : (nats ps).length = ps.length := by unfold nats; simp
    rw [h3l] at hp1 hpc h3' ⊢
    have H0 := Lib.hid (show fitM a b n (f + 1) ps = anyF (fun p => okAt a b ps p && fitM a b n f (ps ++ [p])) n 0 from rfl)
    obtain ⟨G, hG⟩ : ∃ G : Nat → Bool, G = (fun p => okAt a b ps p && fitM a b n f (ps ++ [p])) := ⟨_, rfl⟩
    rw [← hG] at H0
    have HG := Lib.hid hG
    have Ih := Lib.hid ih
    have Hq := Lib.hid hq
    have t0 : ((ps.length : Int) == (n : Int)) = false := by simp; omega
    have hk1 : ps.length < n := by omega
    generalize fitM a b n (f + 1) ps = R at H0
    have Hf := Lib.hid hf
    clear hG ih hq h1 h2 h3 hf
    go_enter Try.func167, Try.ntmps167
    go_wp2
    go_loopg [20] n (fun g i wr => ∃ (p : Nat), i = .int .i64 p ∧ p + g = n ∧ Hid (R = anyF G g p) ∧ Below w.heap.size w wr)
    case atStart => exact ⟨0, rfl, by omega, H0, Below.refl _ _⟩
    case round =>
      obtain ⟨p, rfl, hp, H, hbel⟩ := hrel
      obtain ⟨wo, rfl⟩ : ∃ wo : World, wo = wr := ⟨_, rfl⟩
      obtain ⟨g, hg⟩ : ∃ g, g = gk := ⟨_, rfl⟩
      rw [← hg] at H hp
      by_cases hlt : p < n
      · obtain ⟨g', rfl⟩ : ∃ q, g = q + 1 := ⟨g - 1, by omega⟩
        have H1 := Lib.hid (show R = if G p then true else anyF G g' (p + 1) from H.out)
        obtain ⟨ab1, ao1, ac1, hA1, hab1, _, hA2⟩ := hae.at hk1 hn0
        obtain ⟨bb1, bo1, bc1, hB1, hbb1, _, hB2⟩ := hbe.at hlt hn0
        have hA3 := hA2 ps.length hk1
        have hB3 := hB2 p hlt
        have hrule := hbel.rule
        have hi1 : (ps.length : Int) < (n : Int) := by omega
        have hi2 : (p : Int) < (n : Int) := by omega
        clear H H0
        obtain ⟨e0, he0⟩ : ∃ e0 : Bool, e0 = (ent a ps.length ps.length == ent b p p) := ⟨_, rfl⟩
        have He0 := Lib.hid he0
        rw [eq_comm] at he0
        go_wp2
        go_quiet (fail)
        go_wp2
        clear he0
        go_loopg [9, 40] (ps.length) (fun g okv i w2 => ∃ (j : Nat) (fl : Bool), i = .int .i64 j ∧ okv = .bool fl ∧ j + g = ps.length ∧ Hid (okAt a b ps p = (fl && okL a b ps.length p (ps.drop j) j)) ∧ Drawn wo w2)
        case atStart => exact ⟨0, e0, rfl, rfl, by omega, Lib.hid (by rw [He0.out]; rfl), (Drawn.refl _).drewN _⟩
        case round =>
          obtain ⟨j, fl, rfl, rfl, hj, H, hdr⟩ := hrel
          have hrule2 := hdr.cell
          by_cases hlt2 : j < ps.length
          · obtain ⟨q, hqj, hqd⟩ := at_lt hlt2
            have hqn := Hq.out q (List.mem_of_getElem? hqj)
            obtain ⟨pb, po, rfl, hpb, hpx⟩ := hpc (by omega)
            obtain ⟨u, hu, rfl⟩ := hpx j (q : Int) (nats_at hqj)
            obtain ⟨ab2, ao2, ac2, hA4, hab2, _, hA5⟩ := hae.at (i := j) (by omega) hn0
            obtain ⟨bb2, bo2, bc2, hB4, hbb2, _, hB5⟩ := hbe.at hqn hn0
            have H2 := Lib.hid (show okAt a b ps p = (fl && ((decide (q ≠ p) && decide (ent a ps.length j = ent b p q) && decide (ent a j ps.length = ent b q p)) && okL a b ps.length p (ps.drop (j + 1)) (j + 1))) from by rw [H.out, hqd]; rfl)
            have hA6 := hA2 j (by omega)
            have hA7 := hA5 ps.length hk1
            have hB6 := hB2 q hqn
            have hB7 := hB5 p hlt
            have hi3 : (j : Int) < (n : Int) := by omega
            have hi4 : (q : Int) < (n : Int) := by omega
            have hi5 : (j : Int) < (ps.length : Int) := by omega
            clear H hqj hqd hpx hpc hA2 hA5 hB2 hB5 hA3 hB3 hae hbe
            cases fl with
            | false =>
              have H3 := Lib.hid (show okAt a b ps p = (false && okL a b ps.length p (ps.drop (j + 1)) (j + 1)) from by rw [H2.out]; rfl)
              clear H2
              go_wp2
              go_quiet (fail)
              go_wp2
              go_roundg (ps.length - (j + 1))
              case measure => omega
              case rel => exact ⟨j + 1, false, by go_num, rfl, by omega, H3, hdr.drewN _⟩
            | true =>
              by_cases hqp : q = p
              · have H3 := Lib.hid (show okAt a b ps p = (false && okL a b ps.length p (ps.drop (j + 1)) (j + 1)) from by rw [H2.out]; simp [hqp])
                have t1 : ((q : Int) != (p : Int)) = false := by simp [hqp]
                clear H2 hqp
                go_wp2
                go_quiet (fail)
                go_wp2
                go_roundg (ps.length - (j + 1))
                case measure => omega
                case rel => exact ⟨j + 1, false, by go_num, rfl, by omega, H3, hdr.drewN _⟩
              have t1 : ((q : Int) != (p : Int)) = true := by simp; omega
              by_cases hq1 : ent a ps.length j = ent b p q
              · have t2 : (ent a ps.length j == ent b p q) = true := by simp [hq1]
                by_cases hq2 : ent a j ps.length = ent b q p
                · have t3 : (ent a j ps.length == ent b q p) = true := by simp [hq2]
                  have H3 := Lib.hid (show okAt a b ps p = (true && okL a b ps.length p (ps.drop (j + 1)) (j + 1)) from by rw [H2.out]; simp [hqp, hq1, hq2])
                  clear H2 hqp hq1 hq2
                  go_wp2
                  go_quiet (fail)
                  go_wp2
                  go_roundg (ps.length - (j + 1))
                  case measure => omega
                  case rel => exact ⟨j + 1, true, by go_num, rfl, by omega, H3, hdr.drewN _⟩
                · have t3 : (ent a j ps.length == ent b q p) = false := by simp [hq2]
                  have H3 := Lib.hid (show okAt a b ps p = (false && okL a b ps.length p (ps.drop (j + 1)) (j + 1)) from by rw [H2.out]; simp [hq2])
                  clear H2 hqp hq1 hq2
                  go_wp2
                  go_quiet (fail)
                  go_wp2
                  go_roundg (ps.length - (j + 1))
                  case measure => omega
                  case rel => exact ⟨j + 1, false, by go_num, rfl, by omega, H3, hdr.drewN _⟩
              · have t2 : (ent a ps.length j == ent b p q) = false := by simp [hq1]
                have H3 := Lib.hid (show okAt a b ps p = (false && okL a b ps.length p (ps.drop (j + 1)) (j + 1)) from by rw [H2.out]; simp [hq1])
                clear H2 hqp hq1
                go_wp2
                go_quiet (fail)
                go_wp2
                go_roundg (ps.length - (j + 1))
                case measure => omega
                case rel => exact ⟨j + 1, false, by go_num, rfl, by omega, H3, hdr.drewN _⟩
          · have H2 := Lib.hid (show okAt a b ps p = fl from by rw [H.out, drop_len hlt2]; simp [okL])
            clear H hA3 hB3 hA2 hB2 hA1 hB1 hae hbe hpc
            cases fl with
            | false =>
              have H3 := Lib.hid (show R = anyF G g' (p + 1) from by rw [H1.out, HG.out]; simp [H2.out])
              clear H1 H2
              go_wp2
              go_roundg g'
              case measure => omega
              case rel => exact ⟨p + 1, by go_num, by omega, H3, hbel.trans (hdr.below _)⟩
            | true =>
              have H3 := Lib.hid (show R = if fitM a b n f (ps ++ [p]) then true else anyF G g' (p + 1) from by rw [H1.out, HG.out]; simp [H2.out])
              have hb2 : Below w.heap.size w wr := hbel.trans (hdr.below _)
              have Hsrc := Lib.hid (show SlOf (ValR (Value.int .i64)) (wr.alloc (.cells #[] 3)) (.slice pa ps.length pc) (nats ps) from Ints.frame _ _ _ _ h3' (hb2.alloc hb2.size _))
              have hle2 : w.heap.size ≤ wr.heap.size := hb2.size
              clear H1 H2 hrule hrule2 hbel hdr t0 h3'
              have Hb2 := Lib.hid hb2
              have H1t := Lib.hid h1'
              have H2t := Lib.hid h2'
              clear hb2 h1' h2'
              have Hl3 := Lib.hid h3l
              clear h3l
              go_wp2_with (first
                | (at_builtin; refine wpl_append_vals (f := Value.int .i64) (fun _ => rfl) rfl (.tmp 90) (.tmp 91) 50 rfl 3 (.int .i64 0) 8 Try.underlying50 infoI rfl (New.empty (R := OValR (Value.int .i64)) (lo := wr.heap.size) wr (Nat.le_refl _)) (by simp) Hsrc.out rfl rfl (by rw [Hl3.out]; simp; omega) (by rw [Hl3.out]; simp; omega) ?_; intro v1 w3 hn1 hg1 hv1 hb3; have Hn1 := Lib.hid hn1; have Hb3 := Lib.hid hb3; clear hn1 hg1 hv1 hb3)
                | (at_builtin; refine wpl_push (w0 := w3) (lo := wr.heap.size) (y := (p : Int)) OIntR.kept rfl (.tmp 92) (.tmp 94) 50 rfl 3 (.int .i64 0) 8 Try.underlying50 infoI rfl Hn1.out (by have := Hb3.out.size; simp at this; omega) ((Below.refl _ _).alloc (Nat.le_refl _) _) ⟨[], ⟨rfl, rfl⟩, by simp [Fresh]⟩ (bb := w3.heap.size) (c := 1) (by simp) rfl rfl (by simp [Hl3.out]; omega) (by simp [Hl3.out]; omega) ?_; intro v2 w4 hn2 hg2 hv2 hb4; have Hn2 := Lib.hid hn2; have Hb4 := Lib.hid hb4; clear hn2 hg2 hv2 hb4))
              have hb4 : Below w.heap.size w w4 := ((Hb2.out.alloc hle2 _).trans (Hb3.out.mono hle2)).trans (Hb4.out.mono hle2)
              have hnats : nats (ps ++ [p]) = [] ++ nats ps ++ [(p : Int)] := by simp [nats]
              refine (Ih.out (ps ++ [p]) w4 _ _ _ (by have := Hf.out; simp; omega) (by intro q hq; rcases List.mem_append.1 hq with hq | hq; exact Hq.out q hq; simp at hq; omega) (Tab.frame _ _ _ _ H1t.out hb4) (Tab.frame _ _ _ _ H2t.out hb4) (by rw [hnats]; exact New.ints Hn2.out)).mono ?_
              rintro e w5 ⟨rfl, hb5⟩
              clear hnats
              have Hb5 := Lib.hid (hb4.trans (hb5.mono hb4.size))
              clear hb4 hb5
              generalize fitM a b n f (ps ++ [p]) = fm at H3 ⊢
              cases fm with
              | true =>
                have H4 := Lib.hid (show R = true from H3.out)
                clear H3
                go_wp2
                go_ret
                exact ⟨by rw [H4.out]; rfl, Hb5.out⟩
              | false =>
                have H4 := Lib.hid (show R = anyF G g' (p + 1) from H3.out)
                clear H3
                go_wp2
                go_roundg g'
                case measure => omega
                case rel => exact ⟨p + 1, by go_num, by omega, H4, Hb5.out⟩
      · have : g = 0 := by omega
        subst this
        have H1 := Lib.hid (show R = false from H.out)
        clear H
        go_wp2
        go_ret
        exact ⟨by rw [H1.out]; rfl, hbel⟩

set_option maxHeartbeats 4000000 in
set_option maxRecDepth 100000 in
theorem l18Match_c (a b : List (List Int)) (n : Nat) (ha : Sq n a) (hb : Sq n b) (hn0 : 0 < n) (hn : n ≤ 9) : ∀ (f : Nat) (ps : List Nat) (w : World) (va vb vp : Value), ps.length + f = n → (∀ q, q ∈ ps → q < n) → Tab w va a → Tab w vb b → Ints w vp (nats ps) →
    Calls Try.prog 166 #[va, vb, vp] w fun e w' => e = .returned (.bool (fitM a b n f ps)) ∧ Below w.heap.size w w' := by
  intro f
  induction f with
  | zero =>
    intro ps w va vb vp hf hq h1 h2 h3
    obtain ⟨ab, ao, ac, rfl, _⟩ := h1.entAt ha.1 ha.2 hn0
    have h3l : (nats ps).length = n := by unfold nats; simp; omega
    obtain ⟨pa, pc, rfl, _, _, _⟩ := h3.shape
    rw [h3l]
    go_enter Try.func166, Try.ntmps166
    go_wp2
    go_ret
    exact ⟨rfl, Below.refl _ _⟩
  | succ f ih =>
    intro ps w va vb vp hf hq h1 h2 h3
    have h1' := h1
    have h2' := h2
    have h3' := h3
    obtain ⟨ab, ao, ac, rfl, hab, hae⟩ := h1.entAt ha.1 ha.2 hn0
    obtain ⟨bb, bo, bc, rfl, hbb, hbe⟩ := h2.entAt hb.1 hb.2 hn0
    obtain ⟨pa, pc, rfl, hp1, _, hpc⟩ := h3.shape
    have h3l : (nats ps).length = ps.length := by unfold nats; simp
    rw [h3l] at hp1 hpc h3' ⊢
    have H0 := Lib.hid (show fitM a b n (f + 1) ps = anyF (fun p => okAt a b ps p && fitM a b n f (ps ++ [p])) n 0 from rfl)
    obtain ⟨G, hG⟩ : ∃ G : Nat → Bool, G = (fun p => okAt a b ps p && fitM a b n f (ps ++ [p])) := ⟨_, rfl⟩
    rw [← hG] at H0
    have HG := Lib.hid hG
    have Ih := Lib.hid ih
    have Hq := Lib.hid hq
    have t0 : ((ps.length : Int) == (n : Int)) = false := by simp; omega
    have hk1 : ps.length < n := by omega
    generalize fitM a b n (f + 1) ps = R at H0
    have Hf := Lib.hid hf
    clear hG ih hq h1 h2 h3 hf
    go_enter Try.func166, Try.ntmps166
    go_wp2
    go_loopg [8] n (fun g i wr => ∃ (p : Nat), i = .int .i64 p ∧ p + g = n ∧ Hid (R = anyF G g p) ∧ Below w.heap.size w wr)
    case atStart => exact ⟨0, rfl, by omega, H0, Below.refl _ _⟩
    case round =>
      obtain ⟨p, rfl, hp, H, hbel⟩ := hrel
      obtain ⟨wo, rfl⟩ : ∃ wo : World, wo = wr := ⟨_, rfl⟩
      obtain ⟨g, hg⟩ : ∃ g, g = gk := ⟨_, rfl⟩
      rw [← hg] at H hp
      by_cases hlt : p < n
      · obtain ⟨g', rfl⟩ : ∃ q, g = q + 1 := ⟨g - 1, by omega⟩
        have H1 := Lib.hid (show R = if G p then true else anyF G g' (p + 1) from H.out)
        obtain ⟨ab1, ao1, ac1, hA1, hab1, _, hA2⟩ := hae.at hk1 hn0
        obtain ⟨bb1, bo1, bc1, hB1, hbb1, _, hB2⟩ := hbe.at hlt hn0
        have hA3 := hA2 ps.length hk1
        have hB3 := hB2 p hlt
        have hrule := hbel.rule
        have hi1 : (ps.length : Int) < (n : Int) := by omega
        have hi2 : (p : Int) < (n : Int) := by omega
        clear H H0
        obtain ⟨e0, he0⟩ : ∃ e0 : Bool, e0 = (ent a ps.length ps.length == ent b p p) := ⟨_, rfl⟩
        have He0 := Lib.hid he0
        rw [eq_comm] at he0
        go_wp2
        go_quiet (fail)
        go_wp2
        clear he0
        go_loopg [9, 10] (ps.length) (fun g okv i w2 => ∃ (j : Nat) (fl : Bool), i = .int .i64 j ∧ okv = .bool fl ∧ j + g = ps.length ∧ Hid (okAt a b ps p = (fl && okL a b ps.length p (ps.drop j) j)) ∧ Drawn wo w2)
        case atStart => exact ⟨0, e0, rfl, rfl, by omega, Lib.hid (by rw [He0.out]; rfl), (Drawn.refl _).drewN _⟩
        case round =>
          obtain ⟨j, fl, rfl, rfl, hj, H, hdr⟩ := hrel
          have hrule2 := hdr.cell
          cases fl with
          | false =>
            have H2 := Lib.hid (show okAt a b ps p = false from by rw [H.out]; rfl)
            clear H hA3 hB3 hA2 hB2 hA1 hB1 hae hbe hpc
            have H3 := Lib.hid (show R = anyF G g' (p + 1) from by rw [H1.out, HG.out]; simp [H2.out])
            clear H1 H2
            by_cases hlt2 : j < ps.length
            all_goals
              go_wp2
              go_roundg g'
              case measure => omega
              case rel => exact ⟨p + 1, by go_num, by omega, H3, hbel.trans (hdr.below _)⟩
          | true =>
            by_cases hlt2 : j < ps.length
            · obtain ⟨q, hqj, hqd⟩ := at_lt hlt2
              have hqn := Hq.out q (List.mem_of_getElem? hqj)
              obtain ⟨pb, po, rfl, hpb, hpx⟩ := hpc (by omega)
              obtain ⟨u, hu, rfl⟩ := hpx j (q : Int) (nats_at hqj)
              obtain ⟨ab2, ao2, ac2, hA4, hab2, _, hA5⟩ := hae.at (i := j) (by omega) hn0
              obtain ⟨bb2, bo2, bc2, hB4, hbb2, _, hB5⟩ := hbe.at hqn hn0
              have H2 := Lib.hid (show okAt a b ps p = (true && ((decide (q ≠ p) && decide (ent a ps.length j = ent b p q) && decide (ent a j ps.length = ent b q p)) && okL a b ps.length p (ps.drop (j + 1)) (j + 1))) from by rw [H.out, hqd]; rfl)
              have hA6 := hA2 j (by omega)
              have hA7 := hA5 ps.length hk1
              have hB6 := hB2 q hqn
              have hB7 := hB5 p hlt
              have hi3 : (j : Int) < (n : Int) := by omega
              have hi4 : (q : Int) < (n : Int) := by omega
              have hi5 : (j : Int) < (ps.length : Int) := by omega
              clear H hqj hqd hpx hpc hA2 hA5 hB2 hB5 hA3 hB3 hae hbe
              by_cases hqp : q = p
              · have H3 := Lib.hid (show okAt a b ps p = (false && okL a b ps.length p (ps.drop (j + 1)) (j + 1)) from by rw [H2.out]; simp [hqp])
                have t1 : ((q : Int) != (p : Int)) = false := by simp [hqp]
                clear H2 hqp
                go_wp2
                go_quiet (fail)
                go_wp2
                go_roundg (ps.length - (j + 1))
                case measure => omega
                case rel => exact ⟨j + 1, false, by go_num, rfl, by omega, H3, hdr.drewN _⟩
              have t1 : ((q : Int) != (p : Int)) = true := by simp; omega
              by_cases hq1 : ent a ps.length j = ent b p q
              · have t2 : (ent a ps.length j == ent b p q) = true := by simp [hq1]
                by_cases hq2 : ent a j ps.length = ent b q p
                · have t3 : (ent a j ps.length == ent b q p) = true := by simp [hq2]
                  have H3 := Lib.hid (show okAt a b ps p = (true && okL a b ps.length p (ps.drop (j + 1)) (j + 1)) from by rw [H2.out]; simp [hqp, hq1, hq2])
                  clear H2 hqp hq1 hq2
                  go_wp2
                  go_quiet (fail)
                  go_wp2
                  go_roundg (ps.length - (j + 1))
                  case measure => omega
                  case rel => exact ⟨j + 1, true, by go_num, rfl, by omega, H3, hdr.drewN _⟩
                · have t3 : (ent a j ps.length == ent b q p) = false := by simp [hq2]
                  have H3 := Lib.hid (show okAt a b ps p = (false && okL a b ps.length p (ps.drop (j + 1)) (j + 1)) from by rw [H2.out]; simp [hq2])
                  clear H2 hqp hq1 hq2
                  go_wp2
                  go_quiet (fail)
                  go_wp2
                  go_roundg (ps.length - (j + 1))
                  case measure => omega
                  case rel => exact ⟨j + 1, false, by go_num, rfl, by omega, H3, hdr.drewN _⟩
              · have t2 : (ent a ps.length j == ent b p q) = false := by simp [hq1]
                have H3 := Lib.hid (show okAt a b ps p = (false && okL a b ps.length p (ps.drop (j + 1)) (j + 1)) from by rw [H2.out]; simp [hq1])
                clear H2 hqp hq1
                go_wp2
                go_quiet (fail)
                go_wp2
                go_roundg (ps.length - (j + 1))
                case measure => omega
                case rel => exact ⟨j + 1, false, by go_num, rfl, by omega, H3, hdr.drewN _⟩
            · have H2 := Lib.hid (show okAt a b ps p = true from by rw [H.out, drop_len hlt2]; rfl)
              clear H hA3 hB3 hA2 hB2 hA1 hB1 hae hbe hpc
              have H3 := Lib.hid (show R = if fitM a b n f (ps ++ [p]) then true else anyF G g' (p + 1) from by rw [H1.out, HG.out]; simp [H2.out])
              have hb2 : Below w.heap.size w wr := hbel.trans (hdr.below _)
              have Hsrc := Lib.hid (show SlOf (ValR (Value.int .i64)) (wr.alloc (.cells #[] 3)) (.slice pa ps.length pc) (nats ps) from Ints.frame _ _ _ _ h3' (hb2.alloc hb2.size _))
              have hle2 : w.heap.size ≤ wr.heap.size := hb2.size
              clear H1 H2 hrule hrule2 hbel hdr t0 h3'
              have Hb2 := Lib.hid hb2
              have H1t := Lib.hid h1'
              have H2t := Lib.hid h2'
              clear hb2 h1' h2'
              have Hl3 := Lib.hid h3l
              clear h3l
              go_wp2_with (first
                | (at_builtin; refine wpl_append_vals (f := Value.int .i64) (fun _ => rfl) rfl (.tmp 96) (.tmp 97) 50 rfl 3 (.int .i64 0) 8 Try.underlying50 infoI rfl (New.empty (R := OValR (Value.int .i64)) (lo := wr.heap.size) wr (Nat.le_refl _)) (by simp) Hsrc.out rfl rfl (by rw [Hl3.out]; simp; omega) (by rw [Hl3.out]; simp; omega) ?_; intro v1 w3 hn1 hg1 hv1 hb3; have Hn1 := Lib.hid hn1; have Hb3 := Lib.hid hb3; clear hn1 hg1 hv1 hb3)
                | (at_builtin; refine wpl_push (w0 := w3) (lo := wr.heap.size) (y := (p : Int)) OIntR.kept rfl (.tmp 98) (.tmp 100) 50 rfl 3 (.int .i64 0) 8 Try.underlying50 infoI rfl Hn1.out (by have := Hb3.out.size; simp at this; omega) ((Below.refl _ _).alloc (Nat.le_refl _) _) ⟨[], ⟨rfl, rfl⟩, by simp [Fresh]⟩ (bb := w3.heap.size) (c := 1) (by simp) rfl rfl (by simp [Hl3.out]; omega) (by simp [Hl3.out]; omega) ?_; intro v2 w4 hn2 hg2 hv2 hb4; have Hn2 := Lib.hid hn2; have Hb4 := Lib.hid hb4; clear hn2 hg2 hv2 hb4))
              have hb4 : Below w.heap.size w w4 := ((Hb2.out.alloc hle2 _).trans (Hb3.out.mono hle2)).trans (Hb4.out.mono hle2)
              have hnats : nats (ps ++ [p]) = [] ++ nats ps ++ [(p : Int)] := by simp [nats]
              refine (Ih.out (ps ++ [p]) w4 _ _ _ (by have := Hf.out; simp; omega) (by intro q hq; rcases List.mem_append.1 hq with hq | hq; exact Hq.out q hq; simp at hq; omega) (Tab.frame _ _ _ _ H1t.out hb4) (Tab.frame _ _ _ _ H2t.out hb4) (by rw [hnats]; exact New.ints Hn2.out)).mono ?_
              rintro e w5 ⟨rfl, hb5⟩
              clear hnats
              have Hb5 := Lib.hid (hb4.trans (hb5.mono hb4.size))
              clear hb4 hb5
              generalize fitM a b n f (ps ++ [p]) = fm at H3 ⊢
              cases fm with
              | true =>
                have H4 := Lib.hid (show R = true from H3.out)
                clear H3
                go_wp2
                go_ret
                exact ⟨by rw [H4.out]; rfl, Hb5.out⟩
              | false =>
                have H4 := Lib.hid (show R = anyF G g' (p + 1) from H3.out)
                clear H3
                go_wp2
                go_roundg g'
                case measure => omega
                case rel => exact ⟨p + 1, by go_num, by omega, H4, Hb5.out⟩
      · have : g = 0 := by omega
        subst this
        have H1 := Lib.hid (show R = false from H.out)
        clear H
        go_wp2
        go_ret
        exact ⟨by rw [H1.out]; rfl, hbel⟩
end Go.Proofs.Ytdohepngandajaa
