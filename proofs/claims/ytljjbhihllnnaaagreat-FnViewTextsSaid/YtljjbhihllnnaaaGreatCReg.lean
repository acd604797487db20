/- A region of a function's code, by its number. -/
import Derived.Test.YtljjbhihllnnaaaGreatChecked
namespace Go.Proofs.YtljjbhihllnnaaaGreat
/-- the region of that number in a piece of code -/
def regOf (n : Nat) : Code → Option Code
  | .region id ops d => if id = n then some (.region id ops d) else none
  | .seq a b => match regOf n a with | some c => some c | none => regOf n b
  | .cond _ a b => match regOf n a with | some c => some c | none => regOf n b
  | .block _ c => regOf n c
  | .loop c => regOf n c
  | .scope c => regOf n c
  | _ => none
end Go.Proofs.YtljjbhihllnnaaaGreat
