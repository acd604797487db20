/-
  No cell of these rows narrows 'for every input' (looked for: loops, veiled, ifaces, maps, wideKeys, modest, calm, conditions, laid).
  DERIVED. THE GIVEN ROWS OF THIS SEAT. 4 by the template 'for every input the law returns true; each argument reads behind the call as it read before'; 0 by the template 'total and deterministic' (their statements: YtcjghlplkbpjcaaTotals.lean).
  GIVEN WITH THE SEED: the statements are not yours to turn. If you find one false, say at which input.
  Laid BY PROGRAM, IN A SANDBOX (cutbox-rows.mjs): the forced cells as the released guide's own fill.sh prints them over the translation 1d00a7e64614689b… (all of the seat's roots in one cut). By AI agents, Wed Nov 11 2026. No macro, syntax, notation, axiom, sorry.
-/
import Derived.Test.YtcjghlplkbpjcaaChecked
import GoSem.Claim
import GoSem.ClaimJoined
import GoSem.ClaimMapViews
import Derived.JoinedTies
import Derived.KernelRfl
namespace Go.Proofs.Ytcjghlplkbpjcaa
/- THE CELL 'sum', in the pinned program and in every row, IS THE sha256 OF THE DUMP (.gsa) THAT YtcjghlplkbpjcaaProg.lean LOADS. Nothing in Lean hashes anything: it is a label: what it is worth is what the hold of that sum in a sandbox is worth. -/
noncomputable def Try.pinned : Pinned := { name := "ytcjghlplkbpjcaa", sum := "1d00a7e64614689bd25b3d2d48feec3a025333384652c3dcb173ad3723e2a457", checked := Try.checked }
namespace Rows
def none {H : Type} : Left H := { results := [], args := [] }

/-- 'laws.FnExactCutTable': WHATEVER THE INPUT: true; the input reads as it did. -/
def fnExactCutTableSpec : ChangeSpec := { name := "fnExactCutTable", fn := fun _ => fun
  | [d1, d2] => { results := [.lit (.bool true)], args := [d1, d2] }
  | _ => none }
def fnExactCutTableRow : OpenClaim := { program := "ytcjghlplkbpjcaa", sum := "1d00a7e64614689bd25b3d2d48feec3a025333384652c3dcb173ad3723e2a457", func := "loop.example/g01084/laws.FnExactCutTable", spec := "fnExactCutTable", inPlace := ["internal/abi.NoEscape", "internal/bytealg.abigen_runtime_cmpstring"], unfollowed := true, recurses := true, plainKeys := false, apart := false }
def FnExactCutTableSaid : Prop := fnExactCutTableRow.holds Try.pinned (OpenSpec.ofChange fnExactCutTableSpec)

/-- ITS FALSE NEIGHBOUR: 'it returns false'. Refute it at one input. -/
def fnExactCutTableWrong : ChangeSpec := { name := "fnExactCutTable", fn := fun _ => fun
  | [d1, d2] => { results := [.lit (.bool false)], args := [d1, d2] }
  | _ => none }
def FnExactCutTableWrongFalsely : Prop := fnExactCutTableRow.holds Try.pinned (OpenSpec.ofChange fnExactCutTableWrong)

/-- 'laws.FnExactSumUp': WHATEVER THE INPUT: true; the input reads as it did. -/
def fnExactSumUpSpec : ChangeSpec := { name := "fnExactSumUp", fn := fun _ => fun
  | [d1, d2, d3] => { results := [.lit (.bool true)], args := [d1, d2, d3] }
  | _ => none }
def fnExactSumUpRow : OpenClaim := { program := "ytcjghlplkbpjcaa", sum := "1d00a7e64614689bd25b3d2d48feec3a025333384652c3dcb173ad3723e2a457", func := "loop.example/g01084/laws.FnExactSumUp", spec := "fnExactSumUp", unfollowed := true, recurses := true, plainKeys := false, apart := false }
def FnExactSumUpSaid : Prop := fnExactSumUpRow.holds Try.pinned (OpenSpec.ofChange fnExactSumUpSpec)

/-- ITS FALSE NEIGHBOUR: 'it returns false'. Refute it at one input. -/
def fnExactSumUpWrong : ChangeSpec := { name := "fnExactSumUp", fn := fun _ => fun
  | [d1, d2, d3] => { results := [.lit (.bool false)], args := [d1, d2, d3] }
  | _ => none }
def FnExactSumUpWrongFalsely : Prop := fnExactSumUpRow.holds Try.pinned (OpenSpec.ofChange fnExactSumUpWrong)

/-- 'laws.FnNetworkChanges': WHATEVER THE INPUT: true; the input reads as it did. -/
def fnNetworkChangesSpec : ChangeSpec := { name := "fnNetworkChanges", fn := fun _ => fun
  | [d1, d2] => { results := [.lit (.bool true)], args := [d1, d2] }
  | _ => none }
def fnNetworkChangesRow : OpenClaim := { program := "ytcjghlplkbpjcaa", sum := "1d00a7e64614689bd25b3d2d48feec3a025333384652c3dcb173ad3723e2a457", func := "loop.example/g01084/laws.FnNetworkChanges", spec := "fnNetworkChanges", unfollowed := true, recurses := true, plainKeys := false, apart := false }
def FnNetworkChangesSaid : Prop := fnNetworkChangesRow.holds Try.pinned (OpenSpec.ofChange fnNetworkChangesSpec)

/-- ITS FALSE NEIGHBOUR: 'it returns false'. Refute it at one input. -/
def fnNetworkChangesWrong : ChangeSpec := { name := "fnNetworkChanges", fn := fun _ => fun
  | [d1, d2] => { results := [.lit (.bool false)], args := [d1, d2] }
  | _ => none }
def FnNetworkChangesWrongFalsely : Prop := fnNetworkChangesRow.holds Try.pinned (OpenSpec.ofChange fnNetworkChangesWrong)

/-- 'laws.FnExactCountUp': WHATEVER THE INPUT: true; the input reads as it did. -/
def fnExactCountUpSpec : ChangeSpec := { name := "fnExactCountUp", fn := fun _ => fun
  | [d1, d2] => { results := [.lit (.bool true)], args := [d1, d2] }
  | _ => none }
def fnExactCountUpRow : OpenClaim := { program := "ytcjghlplkbpjcaa", sum := "1d00a7e64614689bd25b3d2d48feec3a025333384652c3dcb173ad3723e2a457", func := "loop.example/g01084/laws.FnExactCountUp", spec := "fnExactCountUp", unfollowed := true, recurses := true, plainKeys := false, apart := false }
def FnExactCountUpSaid : Prop := fnExactCountUpRow.holds Try.pinned (OpenSpec.ofChange fnExactCountUpSpec)

/-- ITS FALSE NEIGHBOUR: 'it returns false'. Refute it at one input. -/
def fnExactCountUpWrong : ChangeSpec := { name := "fnExactCountUp", fn := fun _ => fun
  | [d1, d2] => { results := [.lit (.bool false)], args := [d1, d2] }
  | _ => none }
def FnExactCountUpWrongFalsely : Prop := fnExactCountUpRow.holds Try.pinned (OpenSpec.ofChange fnExactCountUpWrong)

/- THE SECOND FORM. 'bulk': how many values and letters a reading holds, each counted each time it is reached (what is shared counts as often as it is met; a slice's spare places count too). A statement '..UptoSaid' is the law's where the arguments, and the package variables that the reading takes, are together of bulk at most 1048576: NARROWER than '..Said'. Prove '..Said' where nothing that the law and all that it calls make is longer than what came in: it says more and counts as full. Else prove '..UptoSaid'. A law counts once. -/
mutual
def uptoBulk {H : Type} : DataW H → Nat
  | .lit (.string bytes) => bytes.length + 1
  | .lit _ => 1
  | .nil => 1
  | .ptr d => uptoBulk d + 1
  | .slice elems spare => uptoBulkAll elems + uptoBulkAll spare + 1
  | .agg parts => uptoBulkAll parts + 1
  | .iface _ d => uptoBulk d + 1
  | .map entries => uptoBulkEntries entries + 1
  | .held _ => 1
def uptoBulkAll {H : Type} : List (DataW H) → Nat
  | [] => 0
  | d :: r => uptoBulk d + uptoBulkAll r
def uptoBulkEntries {H : Type} : List (Lit × DataW H) → Nat
  | [] => 0
  | x :: r => uptoBulkEntry x + uptoBulkEntries r
def uptoBulkEntry {H : Type} : Lit × DataW H → Nat
  | (.string bytes, d) => bytes.length + uptoBulk d + 1
  | (_, d) => uptoBulk d + 1
 end
def uptoSmall : (H : Type) → List (DataW H) → Bool := fun _ ds => decide (uptoBulkAll ds ≤ 1048576)
def OpenSpec.upto (s : _root_.Go.ChangeSpec) : _root_.Go.OpenSpec := { _root_.Go.OpenSpec.ofChange s with cond := some uptoSmall }

/-- 'laws.FnExactCutTable', WHERE WHAT IT READS IS OF BULK AT MOST 1048576: true; the input reads as it did. -/
def fnExactCutTableUptoRow : OpenClaim := { program := "ytcjghlplkbpjcaa", sum := "1d00a7e64614689bd25b3d2d48feec3a025333384652c3dcb173ad3723e2a457", func := "loop.example/g01084/laws.FnExactCutTable", spec := "fnExactCutTable", inPlace := ["internal/abi.NoEscape", "internal/bytealg.abigen_runtime_cmpstring"], unfollowed := true, recurses := true, plainKeys := false, apart := false, narrowed := true }
def FnExactCutTableUptoSaid : Prop := fnExactCutTableUptoRow.holds Try.pinned (OpenSpec.upto fnExactCutTableSpec)

/-- 'laws.FnExactSumUp', WHERE WHAT IT READS IS OF BULK AT MOST 1048576: true; the input reads as it did. -/
def fnExactSumUpUptoRow : OpenClaim := { program := "ytcjghlplkbpjcaa", sum := "1d00a7e64614689bd25b3d2d48feec3a025333384652c3dcb173ad3723e2a457", func := "loop.example/g01084/laws.FnExactSumUp", spec := "fnExactSumUp", unfollowed := true, recurses := true, plainKeys := false, apart := false, narrowed := true }
def FnExactSumUpUptoSaid : Prop := fnExactSumUpUptoRow.holds Try.pinned (OpenSpec.upto fnExactSumUpSpec)

/-- 'laws.FnNetworkChanges', WHERE WHAT IT READS IS OF BULK AT MOST 1048576: true; the input reads as it did. -/
def fnNetworkChangesUptoRow : OpenClaim := { program := "ytcjghlplkbpjcaa", sum := "1d00a7e64614689bd25b3d2d48feec3a025333384652c3dcb173ad3723e2a457", func := "loop.example/g01084/laws.FnNetworkChanges", spec := "fnNetworkChanges", unfollowed := true, recurses := true, plainKeys := false, apart := false, narrowed := true }
def FnNetworkChangesUptoSaid : Prop := fnNetworkChangesUptoRow.holds Try.pinned (OpenSpec.upto fnNetworkChangesSpec)

/-- 'laws.FnExactCountUp', WHERE WHAT IT READS IS OF BULK AT MOST 1048576: true; the input reads as it did. -/
def fnExactCountUpUptoRow : OpenClaim := { program := "ytcjghlplkbpjcaa", sum := "1d00a7e64614689bd25b3d2d48feec3a025333384652c3dcb173ad3723e2a457", func := "loop.example/g01084/laws.FnExactCountUp", spec := "fnExactCountUp", unfollowed := true, recurses := true, plainKeys := false, apart := false, narrowed := true }
def FnExactCountUpUptoSaid : Prop := fnExactCountUpUptoRow.holds Try.pinned (OpenSpec.upto fnExactCountUpSpec)

end Rows
end Go.Proofs.Ytcjghlplkbpjcaa
