/- A round of a wave, node by node and message by message: what the programs' loops turn. Plain facts; no program in sight. -/
import Derived.Test.YtolpiolnhgpjjaaGreatCJn8
import Derived.Test.YtolpiolnhgpjjaaGreatCSp4
import Derived.Test.YtolpiolnhgpjjaaGreatCJn6
import Derived.StillTailTactics
import Derived.Lib.BitFns
set_option linter.unusedSimpArgs false
set_option linter.unusedVariables false
namespace Go.Proofs.YtolpiolnhgpjjaaGreat
def G1 (n : Nat) (a b : List Int) (k : Nat) : List Int := tab n fun j => if j < k then gi a j else gi b j
theorem x9 (n : Nat) (a b : List Int) (k : Nat) : (G1 n a b k).length = n := Ik _ _
theorem Ri {n : Nat} {a b : List Int} {k w : Nat} (hw : w < n) : gi (G1 n a b k) w = if w < k then gi a w else gi b w := O0 hw
theorem Kw {n : Nat} {a b : List Int} (hb : b.length = n) : G1 n a b 0 = b := (Gb hb fun w _ => by simp).symm
theorem Nx {n : Nat} {a b : List Int} (ha : a.length = n) : G1 n a b n = a := (Gb ha fun w hw => by rw [if_pos hw]).symm
theorem Nw {n : Nat} {a b : List Int} {k : Nat} {x : Int} (hk : k < n) (h : gi a k = x) : (G1 n a b k).set k x = G1 n a b (k + 1) := by
 refine (Gb (by rw [List.length_set, x9]) fun w hw => ?_).trans rfl;rw [md (by rw [x9]; exact hk)]
 by_cases e : w = k
 ·subst e; rw [if_pos rfl, if_pos (by omega), h]
 ·rw [if_neg e, Ri hw]
  by_cases e2 : w < k
  ·rw [if_pos e2, if_pos (by omega)]
  ·rw [if_neg e2, if_neg (by omega)]
section
variable {N : Net} {root : Nat}
end
end Go.Proofs.YtolpiolnhgpjjaaGreat
