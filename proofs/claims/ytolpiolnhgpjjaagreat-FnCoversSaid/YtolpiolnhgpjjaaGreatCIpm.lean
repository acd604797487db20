/- What FnIndependent leans on: both programs answer alike, and the sets are maximal independent ones. -/
import Derived.Test.YtolpiolnhgpjjaaGreatCJn43
import Derived.Test.YtolpiolnhgpjjaaGreatCJn26
import Derived.Test.YtolpiolnhgpjjaaGreatCJn31
import Derived.Test.YtolpiolnhgpjjaaGreatCDt
import Derived.Test.YtolpiolnhgpjjaaGreatCJn8
import Derived.Test.YtolpiolnhgpjjaaGreatCJn24
import Derived.Test.YtolpiolnhgpjjaaGreatCDcu
import Derived.Test.YtolpiolnhgpjjaaGreatCJn17
import Derived.Test.YtolpiolnhgpjjaaGreatCJn6
import Derived.Test.YtolpiolnhgpjjaaGreatCNw1
import Derived.Test.YtolpiolnhgpjjaaGreatCNw3
import Derived.Test.YtolpiolnhgpjjaaGreatCMtr2
import Derived.Test.YtolpiolnhgpjjaaGreatCDix
import Derived.Test.YtolpiolnhgpjjaaGreatCJn28
import Derived.Test.YtolpiolnhgpjjaaGreatCDcv
import Derived.Test.YtolpiolnhgpjjaaGreatCJn21
import Derived.Test.YtolpiolnhgpjjaaGreatCShelf
import Derived.Test.YtolpiolnhgpjjaaGreatCSp2
import Derived.Test.YtolpiolnhgpjjaaGreatCDpg
import Derived.Test.YtolpiolnhgpjjaaGreatCJn22
import Derived.Test.YtolpiolnhgpjjaaGreatCJn33
import Derived.Test.YtolpiolnhgpjjaaGreatCJn39
import Derived.Test.YtolpiolnhgpjjaaGreatCJn30
import Derived.Laws.IdiomCopy
import Derived.Laws.Slices
import Derived.StillTailTactics
import Derived.Deep.DeepCutAuto
import Derived.RegionTactic
import Derived.ChangeAlike
import Derived.Lib.BitFns
set_option linter.unusedSimpArgs false
set_option linter.unusedVariables false
namespace Go.Proofs.YtolpiolnhgpjjaaGreat
open Go Go.RowKit
section
variable {N : Net}
theorem Q1 {L : List Int} {n : Nat} (h : L.Pairwise (· < ·)) (hm : ∀ x ∈ L, 0 ≤ x ∧ x.toNat < n) : la L 0 ((n : Int) - 1) = true := by
 refine ob.2 fun i hi => ⟨?_, fun hp => ?_⟩
 ·have h1 := hm _ (List.getElem_mem hi);rw [dz, cf hi]; omega
 ·rw [cf hi, cf (show i - 1 < L.length by omega)];exact List.pairwise_iff_getElem.1 h (i - 1) i (by omega) hi (by omega)
end
end Go.Proofs.YtolpiolnhgpjjaaGreat
