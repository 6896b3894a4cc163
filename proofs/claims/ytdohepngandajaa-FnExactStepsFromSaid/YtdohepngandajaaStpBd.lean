/-
  StepsFrom: how many numbers its answer has.
-/
import Derived.Test.YtdohepngandajaaStpM
import Derived.Test.YtdohepngandajaaHarn3b
import Derived.Test.YtdohepngandajaaLawKit
namespace Go.Proofs.Ytdohepngandajaa
open Go.RowKit Go.Deep Go.Sd
theorem cntSSS_good : ∀ (o : List Tbl), AllG o → cntSSS o ≤ (o.length : Int) * 16
  | [], _ => by simp [cntSSS]
  | t :: o, h => by
    have h1 := cntSSS_good o fun m hm => h m (by simp [hm])
    obtain ⟨n, hs, h0, h4⟩ := h t (by simp)
    have h2 := cntSS_bd (m := t) (p := 4) (r := 4) (by rw [hs.1]; exact h4) (fun x hx => by rw [hs.2 x hx]; exact h4)
    simp only [cntSSS, List.length_cons]
    omega
theorem stepsV_bd (m : Tbl) : cntSSS (stepsV m) ≤ 1099511627776 := by
  have h1 := cntSSS_good (stepsV m) (stepsV_good m)
  have h2 := stepsV_len m
  omega
end Go.Proofs.Ytdohepngandajaa
