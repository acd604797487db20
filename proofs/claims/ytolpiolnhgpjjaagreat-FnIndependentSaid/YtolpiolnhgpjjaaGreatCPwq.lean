/- What FnPowers leans on. Plain facts. -/
import Derived.Test.YtolpiolnhgpjjaaGreatCJn27
import Derived.Test.YtolpiolnhgpjjaaGreatCJn41
import Derived.Test.YtolpiolnhgpjjaaGreatCJn46
import Derived.Test.YtolpiolnhgpjjaaGreatCJn31
import Derived.Test.YtolpiolnhgpjjaaGreatCJn22
import Derived.Test.YtolpiolnhgpjjaaGreatCDt
import Derived.Test.YtolpiolnhgpjjaaGreatCJn25
import Derived.Test.YtolpiolnhgpjjaaGreatCJn9
import Derived.Test.YtolpiolnhgpjjaaGreatCJn35
import Derived.Test.YtolpiolnhgpjjaaGreatCJn7
import Derived.Test.YtolpiolnhgpjjaaGreatCMk
import Derived.Test.YtolpiolnhgpjjaaGreatCDix
import Derived.Test.YtolpiolnhgpjjaaGreatCJn32
import Derived.Test.YtolpiolnhgpjjaaGreatChecked
import Derived.Test.YtolpiolnhgpjjaaGreatCJn30
import Derived.Test.YtolpiolnhgpjjaaGreatCDqo
import Derived.Carry
import Derived.Maps.OwnOps
import Derived.Maps.OwnSet
import Derived.DeepKeys4
set_option linter.unusedSimpArgs false
set_option linter.unusedVariables false
namespace Go.Proofs.YtolpiolnhgpjjaaGreat
open Go Go.RowKit
section
variable {N P : Net} {m : Nat} {ord : List Int}
theorem me {n : Nat} {b : Nat → Bool} : pn n b = true ↔ ∃ j, j < n ∧ b j = true := by
 unfold pn;rw [List.any_eq_true];exact ⟨fun ⟨j, h1, h2⟩ => ⟨j, List.mem_range.1 h1, h2⟩, fun ⟨j, h1, h2⟩ => ⟨j, List.mem_range.2 h1, h2⟩⟩
end
end Go.Proofs.YtolpiolnhgpjjaaGreat
