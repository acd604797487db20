/- Greatest and least numbers, nodes picked by a test, counts: as loops reckon them. Plain facts; no program in sight. -/
import Derived.Test.YtolpiolnhgpjjaaGreatCJn8
import Derived.Lib.Slices
set_option linter.unusedSimpArgs false
set_option linter.unusedVariables false
namespace Go.Proofs.YtolpiolnhgpjjaaGreat
def ep (p : Nat → Bool) (k : Nat) : List Int := ((List.range k).filter p).map Nat.cast
theorem gg {p : Nat → Bool} {k : Nat} (h : p k = true) : ep p (k + 1) = ep p k ++ [(k : Int)] := by
 unfold ep;rw [List.range_succ, List.filter_append, List.map_append];simp [h]
theorem ld {p : Nat → Bool} {k : Nat} (h : p k = false) : ep p (k + 1) = ep p k := by
 unfold ep;rw [List.range_succ, List.filter_append, List.map_append];simp [h]
theorem Al (p : Nat → Bool) : ∀ k, ((ep p k).length : Int) = cnt k p
 | 0 => rfl
 | k + 1 => by
  rw [Ff, ← Al p k]
  cases h : p k with
  | true => rw [gg h]; simp
  | false => rw [ld h]; simp
theorem rj (p : Nat → Bool) (k : Nat) : (ep p k).length ≤ k := by
 have h1 := Al p k;have h2 := Jn p k;omega
theorem tc {p : Nat → Bool} {k : Nat} {x : Int} (h : x ∈ ep p k) : ∃ v : Nat, x = v ∧ v < k ∧ p v = true := by
 unfold ep at h;obtain ⟨v, h1, rfl⟩ := List.mem_map.1 h;obtain ⟨h2, h3⟩ := List.mem_filter.1 h1;exact ⟨v, rfl, List.mem_range.1 h2, h3⟩
def shl (l : List Int) (D k : Nat) : List Int := tab D fun d => cnt k fun j => gi l j == d
end Go.Proofs.YtolpiolnhgpjjaaGreat
