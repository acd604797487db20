/- What FnPowers leans on. Plain facts. -/
import Derived.Test.YtolpiolnhgpjjaaGreatCJn23
import Derived.Test.YtolpiolnhgpjjaaGreatCJn37
import Derived.Test.YtolpiolnhgpjjaaGreatCJn41
import Derived.Test.YtolpiolnhgpjjaaGreatCJn26
import Derived.Test.YtolpiolnhgpjjaaGreatCJn19
import Derived.Test.YtolpiolnhgpjjaaGreatCDt
import Derived.Test.YtolpiolnhgpjjaaGreatCJn21
import Derived.Test.YtolpiolnhgpjjaaGreatCJn9
import Derived.Test.YtolpiolnhgpjjaaGreatCJn31
import Derived.Test.YtolpiolnhgpjjaaGreatCJn7
import Derived.Test.YtolpiolnhgpjjaaGreatCMk
import Derived.Test.YtolpiolnhgpjjaaGreatCJn36
import Derived.Test.YtolpiolnhgpjjaaGreatCJn29
import Derived.Test.YtolpiolnhgpjjaaGreatChecked
import Derived.Test.YtolpiolnhgpjjaaGreatCJn28
import Derived.Test.YtolpiolnhgpjjaaGreatCDqo
import Derived.Carry
import Derived.Maps.OwnOps
import Derived.Maps.OwnSet
import Derived.DeepKeys4
set_option linter.unusedSimpArgs false
set_option linter.unusedVariables false
namespace Go.Proofs.YtolpiolnhgpjjaaGreat
open Go Go.RowKit
section
variable {N P : Net} {m : Nat} {ord : List Int}
theorem ft {n : Nat} {b : Nat → Bool} : jc n b = true ↔ ∃ j, j < n ∧ b j = true := by
 unfold jc;rw [List.any_eq_true];exact ⟨fun ⟨j, h1, h2⟩ => ⟨j, List.mem_range.1 h1, h2⟩, fun ⟨j, h1, h2⟩ => ⟨j, List.mem_range.2 h1, h2⟩⟩
theorem Je {n : Nat} {b : Nat → Bool} (h : ∀ j, j < n → b j = false) : jc n b = false := by
 rw [← Bool.not_eq_true];intro h2;obtain ⟨j, h3, h4⟩ := ft.1 h2;rw [h j h3] at h4; cases h4
end
end Go.Proofs.YtolpiolnhgpjjaaGreat
