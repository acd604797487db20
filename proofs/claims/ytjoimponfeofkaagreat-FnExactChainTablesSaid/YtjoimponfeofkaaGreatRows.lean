/-
  No cell of these rows narrows 'for every input' (looked for: loops, veiled, ifaces, maps, wideKeys, modest, calm, conditions, laid).
  DERIVED. THE GIVEN ROWS OF THIS SEAT. 5 by the template 'for every input the law returns true; each argument reads behind the call as it read before'; 0 by the template 'total and deterministic' (their statements: YtjoimponfeofkaaGreatTotals.lean).
  GIVEN WITH THE SEED: the statements are not yours to turn. If you find one false, say at which input.
  Laid BY PROGRAM, IN A SANDBOX (cutbox-rows.mjs): the forced cells as the released guide's own fill.sh prints them over the translation e4a5934ba43e83a3… (all of the seat's roots in one cut). By AI agents, Wed Nov 11 2026. No macro, syntax, notation, axiom, sorry.
-/
import Derived.Test.YtjoimponfeofkaaGreatChecked
import GoSem.Claim
import GoSem.ClaimJoined
import GoSem.ClaimMapViews
import Derived.JoinedTies
import Derived.KernelRfl
namespace Go.Proofs.YtjoimponfeofkaaGreat
/- THE CELL 'sum', in the pinned program and in every row, IS THE sha256 OF THE DUMP (.gsa) THAT YtjoimponfeofkaaGreatProg.lean LOADS. Nothing in Lean hashes anything: it is a label: what it is worth is what the hold of that sum in a sandbox is worth. -/
noncomputable def Tryz.pinned : Pinned := { name := "ytjoimponfeofkaagreat", sum := "e4a5934ba43e83a34bafab069688306879e460ee8e0b9aa8d7edefb226648188", checked := Tryz.checked }
namespace Rows
def none {H : Type} : Left H := { results := [], args := [] }

/-- 'laws.FnExactMissingNodes': WHATEVER THE INPUT: true; the input reads as it did. -/
def fnExactMissingNodesSpec : ChangeSpec := { name := "fnExactMissingNodes", fn := fun _ => fun
  | [d1, d2] => { results := [.lit (.bool true)], args := [d1, d2] }
  | _ => none }
def fnExactMissingNodesRow : OpenClaim := { program := "ytjoimponfeofkaagreat", sum := "e4a5934ba43e83a34bafab069688306879e460ee8e0b9aa8d7edefb226648188", func := "loop.example/g01084/laws.FnExactMissingNodes", spec := "fnExactMissingNodes", inPlace := ["internal/abi.NoEscape", "internal/bytealg.abigen_runtime_cmpstring"], unfollowed := true, recurses := true, apart := false }
def FnExactMissingNodesSaid : Prop := fnExactMissingNodesRow.holds Tryz.pinned (OpenSpec.ofChange fnExactMissingNodesSpec)

/-- ITS FALSE NEIGHBOUR: 'it returns false'. Refute it at one input. -/
def fnExactMissingNodesWrong : ChangeSpec := { name := "fnExactMissingNodes", fn := fun _ => fun
  | [d1, d2] => { results := [.lit (.bool false)], args := [d1, d2] }
  | _ => none }
def FnExactMissingNodesWrongFalsely : Prop := fnExactMissingNodesRow.holds Tryz.pinned (OpenSpec.ofChange fnExactMissingNodesWrong)

/-- 'laws.FnExactRunTable': WHATEVER THE INPUT: true; the input reads as it did. -/
def fnExactRunTableSpec : ChangeSpec := { name := "fnExactRunTable", fn := fun _ => fun
  | [d1, d2] => { results := [.lit (.bool true)], args := [d1, d2] }
  | _ => none }
def fnExactRunTableRow : OpenClaim := { program := "ytjoimponfeofkaagreat", sum := "e4a5934ba43e83a34bafab069688306879e460ee8e0b9aa8d7edefb226648188", func := "loop.example/g01084/laws.FnExactRunTable", spec := "fnExactRunTable", inPlace := ["internal/abi.NoEscape", "internal/bytealg.abigen_runtime_cmpstring"], unfollowed := true, recurses := true, apart := false }
def FnExactRunTableSaid : Prop := fnExactRunTableRow.holds Tryz.pinned (OpenSpec.ofChange fnExactRunTableSpec)

/-- ITS FALSE NEIGHBOUR: 'it returns false'. Refute it at one input. -/
def fnExactRunTableWrong : ChangeSpec := { name := "fnExactRunTable", fn := fun _ => fun
  | [d1, d2] => { results := [.lit (.bool false)], args := [d1, d2] }
  | _ => none }
def FnExactRunTableWrongFalsely : Prop := fnExactRunTableRow.holds Tryz.pinned (OpenSpec.ofChange fnExactRunTableWrong)

/-- 'laws.FnExactTableOf': WHATEVER THE INPUT: true; the input reads as it did. -/
def fnExactTableOfSpec : ChangeSpec := { name := "fnExactTableOf", fn := fun _ => fun
  | [d1, d2, d3] => { results := [.lit (.bool true)], args := [d1, d2, d3] }
  | _ => none }
def fnExactTableOfRow : OpenClaim := { program := "ytjoimponfeofkaagreat", sum := "e4a5934ba43e83a34bafab069688306879e460ee8e0b9aa8d7edefb226648188", func := "loop.example/g01084/laws.FnExactTableOf", spec := "fnExactTableOf", inPlace := ["internal/abi.NoEscape", "internal/bytealg.abigen_runtime_cmpstring"], unfollowed := true, recurses := true, apart := false }
def FnExactTableOfSaid : Prop := fnExactTableOfRow.holds Tryz.pinned (OpenSpec.ofChange fnExactTableOfSpec)

/-- ITS FALSE NEIGHBOUR: 'it returns false'. Refute it at one input. -/
def fnExactTableOfWrong : ChangeSpec := { name := "fnExactTableOf", fn := fun _ => fun
  | [d1, d2, d3] => { results := [.lit (.bool false)], args := [d1, d2, d3] }
  | _ => none }
def FnExactTableOfWrongFalsely : Prop := fnExactTableOfRow.holds Tryz.pinned (OpenSpec.ofChange fnExactTableOfWrong)

/-- 'laws.FnExactDeepenOn': WHATEVER THE INPUT: true; the input reads as it did. -/
def fnExactDeepenOnSpec : ChangeSpec := { name := "fnExactDeepenOn", fn := fun _ => fun
  | [d1, d2, d3] => { results := [.lit (.bool true)], args := [d1, d2, d3] }
  | _ => none }
def fnExactDeepenOnRow : OpenClaim := { program := "ytjoimponfeofkaagreat", sum := "e4a5934ba43e83a34bafab069688306879e460ee8e0b9aa8d7edefb226648188", func := "loop.example/g01084/laws.FnExactDeepenOn", spec := "fnExactDeepenOn", inPlace := ["internal/abi.NoEscape", "internal/bytealg.abigen_runtime_cmpstring"], unfollowed := true, recurses := true, apart := false }
def FnExactDeepenOnSaid : Prop := fnExactDeepenOnRow.holds Tryz.pinned (OpenSpec.ofChange fnExactDeepenOnSpec)

/-- ITS FALSE NEIGHBOUR: 'it returns false'. Refute it at one input. -/
def fnExactDeepenOnWrong : ChangeSpec := { name := "fnExactDeepenOn", fn := fun _ => fun
  | [d1, d2, d3] => { results := [.lit (.bool false)], args := [d1, d2, d3] }
  | _ => none }
def FnExactDeepenOnWrongFalsely : Prop := fnExactDeepenOnRow.holds Tryz.pinned (OpenSpec.ofChange fnExactDeepenOnWrong)

/-- 'laws.FnExactChainTables': WHATEVER THE INPUT: true; the input reads as it did. -/
def fnExactChainTablesSpec : ChangeSpec := { name := "fnExactChainTables", fn := fun _ => fun
  | [d1, d2, d3] => { results := [.lit (.bool true)], args := [d1, d2, d3] }
  | _ => none }
def fnExactChainTablesRow : OpenClaim := { program := "ytjoimponfeofkaagreat", sum := "e4a5934ba43e83a34bafab069688306879e460ee8e0b9aa8d7edefb226648188", func := "loop.example/g01084/laws.FnExactChainTables", spec := "fnExactChainTables", inPlace := ["internal/abi.NoEscape", "internal/bytealg.abigen_runtime_cmpstring"], unfollowed := true, recurses := true, apart := false }
def FnExactChainTablesSaid : Prop := fnExactChainTablesRow.holds Tryz.pinned (OpenSpec.ofChange fnExactChainTablesSpec)

/-- ITS FALSE NEIGHBOUR: 'it returns false'. Refute it at one input. -/
def fnExactChainTablesWrong : ChangeSpec := { name := "fnExactChainTables", fn := fun _ => fun
  | [d1, d2, d3] => { results := [.lit (.bool false)], args := [d1, d2, d3] }
  | _ => none }
def FnExactChainTablesWrongFalsely : Prop := fnExactChainTablesRow.holds Tryz.pinned (OpenSpec.ofChange fnExactChainTablesWrong)

/- THE SECOND FORM. 'bulk': how many values and letters a reading holds, each counted each time it is reached (what is shared counts as often as it is met; a slice's spare places count too). A statement '..UptoSaid' is the law's where the arguments, and the package variables that the reading takes, are together of bulk at most 1048576: NARROWER than '..Said'. Prove '..Said' where nothing that the law and all that it calls make is longer than what came in: it says more and counts as full. Else prove '..UptoSaid'. A law counts once. -/
mutual
def uptoBulk {H : Type} : DataW H → Nat
  | .lit (.string bytes) => bytes.length + 1
  | .lit _ => 1
  | .nil => 1
  | .ptr d => uptoBulk d + 1
  | .slice elems spare => uptoBulkAll elems + uptoBulkAll spare + 1
  | .agg parts => uptoBulkAll parts + 1
  | .iface _ d => uptoBulk d + 1
  | .map entries => uptoBulkEntries entries + 1
  | .held _ => 1
def uptoBulkAll {H : Type} : List (DataW H) → Nat
  | [] => 0
  | d :: r => uptoBulk d + uptoBulkAll r
def uptoBulkEntries {H : Type} : List (Lit × DataW H) → Nat
  | [] => 0
  | x :: r => uptoBulkEntry x + uptoBulkEntries r
def uptoBulkEntry {H : Type} : Lit × DataW H → Nat
  | (.string bytes, d) => bytes.length + uptoBulk d + 1
  | (_, d) => uptoBulk d + 1
 end
def uptoSmall : (H : Type) → List (DataW H) → Bool := fun _ ds => decide (uptoBulkAll ds ≤ 1048576)
def OpenSpec.upto (s : _root_.Go.ChangeSpec) : _root_.Go.OpenSpec := { _root_.Go.OpenSpec.ofChange s with cond := some uptoSmall }

/-- 'laws.FnExactMissingNodes', WHERE WHAT IT READS IS OF BULK AT MOST 1048576: true; the input reads as it did. -/
def fnExactMissingNodesUptoRow : OpenClaim := { program := "ytjoimponfeofkaagreat", sum := "e4a5934ba43e83a34bafab069688306879e460ee8e0b9aa8d7edefb226648188", func := "loop.example/g01084/laws.FnExactMissingNodes", spec := "fnExactMissingNodes", inPlace := ["internal/abi.NoEscape", "internal/bytealg.abigen_runtime_cmpstring"], unfollowed := true, recurses := true, apart := false, narrowed := true }
def FnExactMissingNodesUptoSaid : Prop := fnExactMissingNodesUptoRow.holds Tryz.pinned (OpenSpec.upto fnExactMissingNodesSpec)

/-- 'laws.FnExactRunTable', WHERE WHAT IT READS IS OF BULK AT MOST 1048576: true; the input reads as it did. -/
def fnExactRunTableUptoRow : OpenClaim := { program := "ytjoimponfeofkaagreat", sum := "e4a5934ba43e83a34bafab069688306879e460ee8e0b9aa8d7edefb226648188", func := "loop.example/g01084/laws.FnExactRunTable", spec := "fnExactRunTable", inPlace := ["internal/abi.NoEscape", "internal/bytealg.abigen_runtime_cmpstring"], unfollowed := true, recurses := true, apart := false, narrowed := true }
def FnExactRunTableUptoSaid : Prop := fnExactRunTableUptoRow.holds Tryz.pinned (OpenSpec.upto fnExactRunTableSpec)

/-- 'laws.FnExactTableOf', WHERE WHAT IT READS IS OF BULK AT MOST 1048576: true; the input reads as it did. -/
def fnExactTableOfUptoRow : OpenClaim := { program := "ytjoimponfeofkaagreat", sum := "e4a5934ba43e83a34bafab069688306879e460ee8e0b9aa8d7edefb226648188", func := "loop.example/g01084/laws.FnExactTableOf", spec := "fnExactTableOf", inPlace := ["internal/abi.NoEscape", "internal/bytealg.abigen_runtime_cmpstring"], unfollowed := true, recurses := true, apart := false, narrowed := true }
def FnExactTableOfUptoSaid : Prop := fnExactTableOfUptoRow.holds Tryz.pinned (OpenSpec.upto fnExactTableOfSpec)

/-- 'laws.FnExactDeepenOn', WHERE WHAT IT READS IS OF BULK AT MOST 1048576: true; the input reads as it did. -/
def fnExactDeepenOnUptoRow : OpenClaim := { program := "ytjoimponfeofkaagreat", sum := "e4a5934ba43e83a34bafab069688306879e460ee8e0b9aa8d7edefb226648188", func := "loop.example/g01084/laws.FnExactDeepenOn", spec := "fnExactDeepenOn", inPlace := ["internal/abi.NoEscape", "internal/bytealg.abigen_runtime_cmpstring"], unfollowed := true, recurses := true, apart := false, narrowed := true }
def FnExactDeepenOnUptoSaid : Prop := fnExactDeepenOnUptoRow.holds Tryz.pinned (OpenSpec.upto fnExactDeepenOnSpec)

/-- 'laws.FnExactChainTables', WHERE WHAT IT READS IS OF BULK AT MOST 1048576: true; the input reads as it did. -/
def fnExactChainTablesUptoRow : OpenClaim := { program := "ytjoimponfeofkaagreat", sum := "e4a5934ba43e83a34bafab069688306879e460ee8e0b9aa8d7edefb226648188", func := "loop.example/g01084/laws.FnExactChainTables", spec := "fnExactChainTables", inPlace := ["internal/abi.NoEscape", "internal/bytealg.abigen_runtime_cmpstring"], unfollowed := true, recurses := true, apart := false, narrowed := true }
def FnExactChainTablesUptoSaid : Prop := fnExactChainTablesUptoRow.holds Tryz.pinned (OpenSpec.upto fnExactChainTablesSpec)

end Rows
end Go.Proofs.YtjoimponfeofkaaGreat
