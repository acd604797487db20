/-
  No cell of these rows narrows 'for every input' (looked for: loops, veiled, ifaces, maps, wideKeys, modest, calm, conditions, laid).
  DERIVED. THE GIVEN ROWS OF THIS SEAT. 4 by the template 'for every input the law returns true; each argument reads behind the call as it read before'; 0 by the template 'total and deterministic' (their statements: YtolpiolnhgpjjaaGreatTotals.lean).
  GIVEN WITH THE SEED: the statements are not yours to turn. If you find one false, say at which input.
  Laid BY PROGRAM, IN A SANDBOX (cutbox-rows.mjs): the forced cells as the released guide's own fill.sh prints them over the translation 087f2c72e9381e0f… (all of the seat's roots in one cut). By AI agents, Wed Nov 11 2026. No macro, syntax, notation, axiom, sorry.
-/
import Derived.Test.YtolpiolnhgpjjaaGreatChecked
import GoSem.Claim
import GoSem.ClaimJoined
import GoSem.ClaimMapViews
import Derived.JoinedTies
import Derived.KernelRfl
namespace Go.Proofs.YtolpiolnhgpjjaaGreat
/- THE CELL 'sum', in the pinned program and in every row, IS THE sha256 OF THE DUMP (.gsa) THAT YtolpiolnhgpjjaaGreatProg.lean LOADS. Nothing in Lean hashes anything: it is a label: what it is worth is what the hold of that sum in a sandbox is worth. -/
noncomputable def Tryz.pinned : Pinned := { name := "ytolpiolnhgpjjaagreat", sum := "087f2c72e9381e0fd18449a251510dc17c2788edd15a6e8e83ac120eee8edc80", checked := Tryz.checked }
namespace Rows
def none {H : Type} : Left H := { results := [], args := [] }

/-- 'laws.FnIndependent': WHATEVER THE INPUT: true; the input reads as it did. -/
def fnIndependentSpec : ChangeSpec := { name := "fnIndependent", fn := fun _ => fun
  | [d1, d2] => { results := [.lit (.bool true)], args := [d1, d2] }
  | _ => none }
def fnIndependentRow : OpenClaim := { program := "ytolpiolnhgpjjaagreat", sum := "087f2c72e9381e0fd18449a251510dc17c2788edd15a6e8e83ac120eee8edc80", func := "loop.example/g01084/laws.FnIndependent", spec := "fnIndependent", unfollowed := true, recurses := true, apart := false }
def FnIndependentSaid : Prop := fnIndependentRow.holds Tryz.pinned (OpenSpec.ofChange fnIndependentSpec)

/-- ITS FALSE NEIGHBOUR: 'it returns false'. Refute it at one input. -/
def fnIndependentWrong : ChangeSpec := { name := "fnIndependent", fn := fun _ => fun
  | [d1, d2] => { results := [.lit (.bool false)], args := [d1, d2] }
  | _ => none }
def FnIndependentWrongFalsely : Prop := fnIndependentRow.holds Tryz.pinned (OpenSpec.ofChange fnIndependentWrong)

/-- 'laws.FnRulingSets': WHATEVER THE INPUT: true; the input reads as it did. -/
def fnRulingSetsSpec : ChangeSpec := { name := "fnRulingSets", fn := fun _ => fun
  | [d1, d2] => { results := [.lit (.bool true)], args := [d1, d2] }
  | _ => none }
def fnRulingSetsRow : OpenClaim := { program := "ytolpiolnhgpjjaagreat", sum := "087f2c72e9381e0fd18449a251510dc17c2788edd15a6e8e83ac120eee8edc80", func := "loop.example/g01084/laws.FnRulingSets", spec := "fnRulingSets", unfollowed := true, recurses := true, apart := false }
def FnRulingSetsSaid : Prop := fnRulingSetsRow.holds Tryz.pinned (OpenSpec.ofChange fnRulingSetsSpec)

/-- ITS FALSE NEIGHBOUR: 'it returns false'. Refute it at one input. -/
def fnRulingSetsWrong : ChangeSpec := { name := "fnRulingSets", fn := fun _ => fun
  | [d1, d2] => { results := [.lit (.bool false)], args := [d1, d2] }
  | _ => none }
def FnRulingSetsWrongFalsely : Prop := fnRulingSetsRow.holds Tryz.pinned (OpenSpec.ofChange fnRulingSetsWrong)

/-- 'laws.FnDefects': WHATEVER THE INPUT: true; the input reads as it did. -/
def fnDefectsSpec : ChangeSpec := { name := "fnDefects", fn := fun _ => fun
  | [d1, d2] => { results := [.lit (.bool true)], args := [d1, d2] }
  | _ => none }
def fnDefectsRow : OpenClaim := { program := "ytolpiolnhgpjjaagreat", sum := "087f2c72e9381e0fd18449a251510dc17c2788edd15a6e8e83ac120eee8edc80", func := "loop.example/g01084/laws.FnDefects", spec := "fnDefects", unfollowed := true, recurses := true, apart := false }
def FnDefectsSaid : Prop := fnDefectsRow.holds Tryz.pinned (OpenSpec.ofChange fnDefectsSpec)

/-- ITS FALSE NEIGHBOUR: 'it returns false'. Refute it at one input. -/
def fnDefectsWrong : ChangeSpec := { name := "fnDefects", fn := fun _ => fun
  | [d1, d2] => { results := [.lit (.bool false)], args := [d1, d2] }
  | _ => none }
def FnDefectsWrongFalsely : Prop := fnDefectsRow.holds Tryz.pinned (OpenSpec.ofChange fnDefectsWrong)

/-- 'laws.FnCovers': WHATEVER THE INPUT: true; the input reads as it did. -/
def fnCoversSpec : ChangeSpec := { name := "fnCovers", fn := fun _ => fun
  | [d1, d2] => { results := [.lit (.bool true)], args := [d1, d2] }
  | _ => none }
def fnCoversRow : OpenClaim := { program := "ytolpiolnhgpjjaagreat", sum := "087f2c72e9381e0fd18449a251510dc17c2788edd15a6e8e83ac120eee8edc80", func := "loop.example/g01084/laws.FnCovers", spec := "fnCovers", unfollowed := true, recurses := true, apart := false }
def FnCoversSaid : Prop := fnCoversRow.holds Tryz.pinned (OpenSpec.ofChange fnCoversSpec)

/-- ITS FALSE NEIGHBOUR: 'it returns false'. Refute it at one input. -/
def fnCoversWrong : ChangeSpec := { name := "fnCovers", fn := fun _ => fun
  | [d1, d2] => { results := [.lit (.bool false)], args := [d1, d2] }
  | _ => none }
def FnCoversWrongFalsely : Prop := fnCoversRow.holds Tryz.pinned (OpenSpec.ofChange fnCoversWrong)

/- THE SECOND FORM. 'bulk': how many values and letters a reading holds, each counted each time it is reached (what is shared counts as often as it is met; a slice's spare places count too). A statement '..UptoSaid' is the law's where the arguments, and the package variables that the reading takes, are together of bulk at most 1048576: NARROWER than '..Said'. Prove '..Said' where nothing that the law and all that it calls make is longer than what came in: it says more and counts as full. Else prove '..UptoSaid'. A law counts once. -/
mutual
def uptoBulk {H : Type} : DataW H → Nat
  | .lit (.string bytes) => bytes.length + 1
  | .lit _ => 1
  | .nil => 1
  | .ptr d => uptoBulk d + 1
  | .slice elems spare => uptoBulkAll elems + uptoBulkAll spare + 1
  | .agg parts => uptoBulkAll parts + 1
  | .iface _ d => uptoBulk d + 1
  | .map entries => uptoBulkEntries entries + 1
  | .held _ => 1
def uptoBulkAll {H : Type} : List (DataW H) → Nat
  | [] => 0
  | d :: r => uptoBulk d + uptoBulkAll r
def uptoBulkEntries {H : Type} : List (Lit × DataW H) → Nat
  | [] => 0
  | x :: r => uptoBulkEntry x + uptoBulkEntries r
def uptoBulkEntry {H : Type} : Lit × DataW H → Nat
  | (.string bytes, d) => bytes.length + uptoBulk d + 1
  | (_, d) => uptoBulk d + 1
 end
def uptoSmall : (H : Type) → List (DataW H) → Bool := fun _ ds => decide (uptoBulkAll ds ≤ 1048576)
def OpenSpec.upto (s : _root_.Go.ChangeSpec) : _root_.Go.OpenSpec := { _root_.Go.OpenSpec.ofChange s with cond := some uptoSmall }

/-- 'laws.FnIndependent', WHERE WHAT IT READS IS OF BULK AT MOST 1048576: true; the input reads as it did. -/
def fnIndependentUptoRow : OpenClaim := { program := "ytolpiolnhgpjjaagreat", sum := "087f2c72e9381e0fd18449a251510dc17c2788edd15a6e8e83ac120eee8edc80", func := "loop.example/g01084/laws.FnIndependent", spec := "fnIndependent", unfollowed := true, recurses := true, apart := false, narrowed := true }
def FnIndependentUptoSaid : Prop := fnIndependentUptoRow.holds Tryz.pinned (OpenSpec.upto fnIndependentSpec)

/-- 'laws.FnRulingSets', WHERE WHAT IT READS IS OF BULK AT MOST 1048576: true; the input reads as it did. -/
def fnRulingSetsUptoRow : OpenClaim := { program := "ytolpiolnhgpjjaagreat", sum := "087f2c72e9381e0fd18449a251510dc17c2788edd15a6e8e83ac120eee8edc80", func := "loop.example/g01084/laws.FnRulingSets", spec := "fnRulingSets", unfollowed := true, recurses := true, apart := false, narrowed := true }
def FnRulingSetsUptoSaid : Prop := fnRulingSetsUptoRow.holds Tryz.pinned (OpenSpec.upto fnRulingSetsSpec)

/-- 'laws.FnDefects', WHERE WHAT IT READS IS OF BULK AT MOST 1048576: true; the input reads as it did. -/
def fnDefectsUptoRow : OpenClaim := { program := "ytolpiolnhgpjjaagreat", sum := "087f2c72e9381e0fd18449a251510dc17c2788edd15a6e8e83ac120eee8edc80", func := "loop.example/g01084/laws.FnDefects", spec := "fnDefects", unfollowed := true, recurses := true, apart := false, narrowed := true }
def FnDefectsUptoSaid : Prop := fnDefectsUptoRow.holds Tryz.pinned (OpenSpec.upto fnDefectsSpec)

/-- 'laws.FnCovers', WHERE WHAT IT READS IS OF BULK AT MOST 1048576: true; the input reads as it did. -/
def fnCoversUptoRow : OpenClaim := { program := "ytolpiolnhgpjjaagreat", sum := "087f2c72e9381e0fd18449a251510dc17c2788edd15a6e8e83ac120eee8edc80", func := "loop.example/g01084/laws.FnCovers", spec := "fnCovers", unfollowed := true, recurses := true, apart := false, narrowed := true }
def FnCoversUptoSaid : Prop := fnCoversUptoRow.holds Tryz.pinned (OpenSpec.upto fnCoversSpec)

end Rows
end Go.Proofs.YtolpiolnhgpjjaaGreat
