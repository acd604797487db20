/- What FnIndependent leans on: both programs answer alike, and the sets are maximal independent ones. -/
import Derived.Test.YtolpiolnhgpjjaaGreatCJn45
import Derived.Test.YtolpiolnhgpjjaaGreatCJn19
import Derived.Test.YtolpiolnhgpjjaaGreatCDt
import Derived.Test.YtolpiolnhgpjjaaGreatCDso
import Derived.Test.YtolpiolnhgpjjaaGreatCJn9
import Derived.Test.YtolpiolnhgpjjaaGreatCJn21
import Derived.Test.YtolpiolnhgpjjaaGreatCDqo
import Derived.Test.YtolpiolnhgpjjaaGreatCDcv
import Derived.Test.YtolpiolnhgpjjaaGreatCShelf
import Derived.Test.YtolpiolnhgpjjaaGreatCJn11
import Derived.Test.YtolpiolnhgpjjaaGreatCDpg
import Derived.Test.YtolpiolnhgpjjaaGreatCJn26
import Derived.Test.YtolpiolnhgpjjaaGreatCJn31
import Derived.Test.YtolpiolnhgpjjaaGreatCJn41
import Derived.Test.YtolpiolnhgpjjaaGreatCJn7
import Derived.Test.YtolpiolnhgpjjaaGreatCJn25
import Derived.Laws.IdiomCopy
import Derived.Laws.Slices
import Derived.Deep.DeepCutAuto
import Derived.RegionTactic
import Derived.ChangeAlike
import Derived.Lib.BitFns
set_option linter.unusedSimpArgs false
set_option linter.unusedVariables false
namespace Go.Proofs.YtolpiolnhgpjjaaGreat
open Go Go.RowKit
section
variable {N : Net}
theorem Rw {L : List Int} {n : Nat} (h : L.Pairwise (· < ·)) (hm : ∀ x ∈ L, 0 ≤ x ∧ x.toNat < n) : js L 0 ((n : Int) - 1) = true := by
 refine o6.2 fun i hi => ⟨?_, fun hp => ?_⟩
 ·have h1 := hm _ (List.getElem_mem hi);rw [ce, bm hi]; omega
 ·rw [bm hi, bm (show i - 1 < L.length by omega)];exact List.pairwise_iff_getElem.1 h (i - 1) i (by omega) hi (by omega)
end
end Go.Proofs.YtolpiolnhgpjjaaGreat
