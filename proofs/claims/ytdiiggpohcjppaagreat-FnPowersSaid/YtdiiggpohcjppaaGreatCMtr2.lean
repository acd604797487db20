/- Greatest and least numbers, nodes picked by a test, counts: as loops reckon them. Plain facts; no program in sight. -/
import Derived.Test.YtdiiggpohcjppaaGreatCJn8
import Derived.Lib.Slices
set_option linter.unusedSimpArgs false
set_option linter.unusedVariables false
namespace Go.Proofs.YtdiiggpohcjppaaGreat
def eb (p : Nat → Bool) (k : Nat) : List Int := ((List.range k).filter p).map Nat.cast
theorem Jm (p : Nat → Bool) : eb p 0 = [] := rfl
theorem qr {p : Nat → Bool} {k : Nat} (h : p k = true) : eb p (k + 1) = eb p k ++ [(k : Int)] := by
 unfold eb
 rw [List.range_succ, List.filter_append, List.map_append]
 simp [h]
theorem uf {p : Nat → Bool} {k : Nat} (h : p k = false) : eb p (k + 1) = eb p k := by
 unfold eb
 rw [List.range_succ, List.filter_append, List.map_append]
 simp [h]
theorem Dh (p : Nat → Bool) : ∀ k, ((eb p k).length : Int) = cnt k p
 | 0 => rfl
 | k + 1 => by
  rw [Ic, ← Dh p k]
  cases h : p k with
  | true => rw [qr h]; simp
  | false => rw [uf h]; simp
theorem ug (p : Nat → Bool) (k : Nat) : (eb p k).length ≤ k := by
 have h1 := Dh p k
 have h2 := Mn p k
 omega
def shl (l : List Int) (D k : Nat) : List Int := tab D fun d => cnt k fun j => gi l j == d
end Go.Proofs.YtdiiggpohcjppaaGreat
