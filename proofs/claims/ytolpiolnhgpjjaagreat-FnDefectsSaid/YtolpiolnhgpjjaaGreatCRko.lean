/- Ranks of distinct numbers, and the order by them. No program in sight. -/
import Derived.Test.YtolpiolnhgpjjaaGreatCJn15
import Derived.Test.YtolpiolnhgpjjaaGreatCPwp
set_option linter.unusedSimpArgs false
set_option linter.unusedVariables false
namespace Go.Proofs.YtolpiolnhgpjjaaGreat
theorem Ic (b : Nat → Bool) : ∀ n, ct b n ≤ n
 | 0 => Nat.le_refl _
 | n + 1 => by have := Ic b n; rw [ct]; split <;> omega
section
variable {ids : List Int}
end
end Go.Proofs.YtolpiolnhgpjjaaGreat
