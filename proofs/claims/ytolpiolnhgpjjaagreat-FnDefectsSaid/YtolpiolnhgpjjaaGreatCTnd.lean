/- (*spec.l1Cur).twoNodes over data -/
import Derived.Test.YtolpiolnhgpjjaaGreatCJn19
import Derived.Test.YtolpiolnhgpjjaaGreatCJn29
import Derived.Test.YtolpiolnhgpjjaaGreatCJn24
import Derived.Test.YtolpiolnhgpjjaaGreatCSp2
import Derived.Test.YtolpiolnhgpjjaaGreatCDpg
set_option linter.unusedSimpArgs false
set_option linter.unusedVariables false
namespace Go.Proofs.YtolpiolnhgpjjaaGreat
open Go Go.RowKit
theorem Ky {n : Nat} (hn : n ≤ 60) : Tame (kv n n) :=
 ⟨by rw [H7]; omega, fun a => by
  unfold dg gl
  rcases Nat.lt_or_ge a n with h | h
  ·simp [kv, h, B7]
  ·simp [kv, h], by simp [kv], by simp [kv]; omega⟩
end Go.Proofs.YtolpiolnhgpjjaaGreat
