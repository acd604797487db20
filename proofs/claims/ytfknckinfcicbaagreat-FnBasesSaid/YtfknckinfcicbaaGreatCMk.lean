/- Regions that draw their order, in which several operations make memory: one walk in the order of the text. No program in sight. -/
import Derived.Test.YtfknckinfcicbaaGreatCJn7
import Derived.StillTail
import Derived.Deep.Quiet
set_option linter.unusedSimpArgs false
set_option linter.unusedVariables false
namespace Go.Proofs.YtfknckinfcicbaaGreat
open Go Go.RowKit
structure Mkg where
 Y:Array Value → Value → Prop
 F:Array Value → Value → Nat → Nat → World → Prop
 st:∀ as v b e x x',Below x.heap.size x x' → F as v b e x → F as v b e x'
structure Ent where
 k:Nat
 b:Nat
 e:Nat
 F:World → Prop
 st:∀ x x',Below x.heap.size x x' → F x → F x'
section
variable {P:Program} {ops:Array Oper} {w0:World} {σ:Nat → Option Mkg}
abbrev Kt:=List Ent → Act → Prop
end
section
variable {P:Program} {ops:Array Oper} {w0:World} {σ:Nat → Option Mkg} {L:Kt} {I:List Ent} {a:Act}
end
end Go.Proofs.YtfknckinfcicbaaGreat
