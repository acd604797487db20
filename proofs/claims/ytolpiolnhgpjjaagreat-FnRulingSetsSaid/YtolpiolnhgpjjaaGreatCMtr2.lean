/- Greatest and least numbers, nodes picked by a test, counts: as loops reckon them. Plain facts; no program in sight. -/
import Derived.Test.YtolpiolnhgpjjaaGreatCJn9
import Derived.Lib.Slices
set_option linter.unusedSimpArgs false
set_option linter.unusedVariables false
namespace Go.Proofs.YtolpiolnhgpjjaaGreat
def lh (p : Nat → Bool) (k : Nat) : List Int := ((List.range k).filter p).map Nat.cast
theorem Bk {p : Nat → Bool} {k : Nat} (h : p k = true) : lh p (k + 1) = lh p k ++ [(k : Int)] := by
 unfold lh;rw [List.range_succ, List.filter_append, List.map_append];simp [h]
theorem Et {p : Nat → Bool} {k : Nat} (h : p k = false) : lh p (k + 1) = lh p k := by
 unfold lh;rw [List.range_succ, List.filter_append, List.map_append];simp [h]
theorem Bl (p : Nat → Bool) : ∀ k, ((lh p k).length : Int) = cnt k p
 | 0 => rfl
 | k + 1 => by
  rw [Gg, ← Bl p k]
  cases h : p k with
  | true => rw [Bk h]; simp
  | false => rw [Et h]; simp
theorem Eu (p : Nat → Bool) (k : Nat) : (lh p k).length ≤ k := by
 have h1 := Bl p k;have h2 := Ky p k;omega
def shl (l : List Int) (D k : Nat) : List Int := tab D fun d => cnt k fun j => gi l j == d
end Go.Proofs.YtolpiolnhgpjjaaGreat
