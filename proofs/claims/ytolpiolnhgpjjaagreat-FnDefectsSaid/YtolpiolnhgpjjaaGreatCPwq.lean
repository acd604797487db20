/- What FnPowers leans on. Plain facts. -/
import Derived.Test.YtolpiolnhgpjjaaGreatCJn24
import Derived.Test.YtolpiolnhgpjjaaGreatCPwp
import Derived.Test.YtolpiolnhgpjjaaGreatCJn36
import Derived.Test.YtolpiolnhgpjjaaGreatCJn28
import Derived.Test.YtolpiolnhgpjjaaGreatCJn19
import Derived.Test.YtolpiolnhgpjjaaGreatCDt
import Derived.Test.YtolpiolnhgpjjaaGreatCJn22
import Derived.Test.YtolpiolnhgpjjaaGreatCJn9
import Derived.Test.YtolpiolnhgpjjaaGreatCIm4
import Derived.Test.YtolpiolnhgpjjaaGreatCJn7
import Derived.Test.YtolpiolnhgpjjaaGreatCMk
import Derived.Test.YtolpiolnhgpjjaaGreatCDbf
import Derived.Test.YtolpiolnhgpjjaaGreatCDpg
import Derived.Test.YtolpiolnhgpjjaaGreatCJn29
import Derived.Test.YtolpiolnhgpjjaaGreatChecked
import Derived.Test.YtolpiolnhgpjjaaGreatCJn27
import Derived.Test.YtolpiolnhgpjjaaGreatCDcu
import Derived.Test.YtolpiolnhgpjjaaGreatCJn17
import Derived.Test.YtolpiolnhgpjjaaGreatCNw1
import Derived.Test.YtolpiolnhgpjjaaGreatCNw3
import Derived.Carry
import Derived.Maps.OwnOps
import Derived.Maps.OwnSet
import Derived.DeepKeys4
import Derived.StillTailTactics
set_option linter.unusedSimpArgs false
set_option linter.unusedVariables false
namespace Go.Proofs.YtolpiolnhgpjjaaGreat
open Go Go.RowKit
section
variable {N P : Net} {m : Nat} {ord : List Int}
theorem ye {n : Nat} {b : Nat → Bool} : ta n b = true ↔ ∃ j, j < n ∧ b j = true := by
 unfold ta;rw [List.any_eq_true];exact ⟨fun ⟨j, h1, h2⟩ => ⟨j, List.mem_range.1 h1, h2⟩, fun ⟨j, h1, h2⟩ => ⟨j, List.mem_range.2 h1, h2⟩⟩
end
end Go.Proofs.YtolpiolnhgpjjaaGreat
