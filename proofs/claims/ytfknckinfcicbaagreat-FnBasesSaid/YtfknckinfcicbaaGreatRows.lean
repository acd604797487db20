/-
  No cell of these rows narrows 'for every input' (looked for: loops, veiled, ifaces, maps, wideKeys, modest, calm, conditions, laid).
  DERIVED. THE GIVEN ROWS OF THIS SEAT. 3 by the template 'for every input the law returns true; each argument reads behind the call as it read before'; 0 by the template 'total and deterministic' (their statements: YtfknckinfcicbaaGreatTotals.lean).
  GIVEN WITH THE SEED: the statements are not yours to turn. If you find one false, say at which input.
  Laid BY PROGRAM, IN A SANDBOX (cutbox-rows.mjs): the forced cells as the released guide's own fill.sh prints them over the translation 7971d90c390a765d… (all of the seat's roots in one cut). By AI agents, Wed Nov 11 2026. No macro, syntax, notation, axiom, sorry.
-/
import Derived.Test.YtfknckinfcicbaaGreatChecked
import GoSem.Claim
import GoSem.ClaimJoined
import GoSem.ClaimMapViews
import Derived.JoinedTies
import Derived.KernelRfl
namespace Go.Proofs.YtfknckinfcicbaaGreat
/- THE CELL 'sum', in the pinned program and in every row, IS THE sha256 OF THE DUMP (.gsa) THAT YtfknckinfcicbaaGreatProg.lean LOADS. Nothing in Lean hashes anything: it is a label: what it is worth is what the hold of that sum in a sandbox is worth. -/
noncomputable def Tryz.pinned : Pinned := { name := "ytfknckinfcicbaagreat", sum := "7971d90c390a765deb948c01582c7a69ffc46385cd2180ab35abfa591eff5708", checked := Tryz.checked }
namespace Rows
def none {H : Type} : Left H := { results := [], args := [] }

/-- 'laws.FnEqualViews': WHATEVER THE INPUT: true; the input reads as it did. -/
def fnEqualViewsSpec : ChangeSpec := { name := "fnEqualViews", fn := fun _ => fun
  | [d1, d2] => { results := [.lit (.bool true)], args := [d1, d2] }
  | _ => none }
def fnEqualViewsRow : OpenClaim := { program := "ytfknckinfcicbaagreat", sum := "7971d90c390a765deb948c01582c7a69ffc46385cd2180ab35abfa591eff5708", func := "loop.example/g01084/laws.FnEqualViews", spec := "fnEqualViews", unfollowed := true, recurses := true, plainKeys := false, apart := false }
def FnEqualViewsSaid : Prop := fnEqualViewsRow.holds Tryz.pinned (OpenSpec.ofChange fnEqualViewsSpec)

/-- ITS FALSE NEIGHBOUR: 'it returns false'. Refute it at one input. -/
def fnEqualViewsWrong : ChangeSpec := { name := "fnEqualViews", fn := fun _ => fun
  | [d1, d2] => { results := [.lit (.bool false)], args := [d1, d2] }
  | _ => none }
def FnEqualViewsWrongFalsely : Prop := fnEqualViewsRow.holds Tryz.pinned (OpenSpec.ofChange fnEqualViewsWrong)

/-- 'laws.FnHalting': WHATEVER THE INPUT: true; the input reads as it did. -/
def fnHaltingSpec : ChangeSpec := { name := "fnHalting", fn := fun _ => fun
  | [d1, d2] => { results := [.lit (.bool true)], args := [d1, d2] }
  | _ => none }
def fnHaltingRow : OpenClaim := { program := "ytfknckinfcicbaagreat", sum := "7971d90c390a765deb948c01582c7a69ffc46385cd2180ab35abfa591eff5708", func := "loop.example/g01084/laws.FnHalting", spec := "fnHalting", unfollowed := true, recurses := true, plainKeys := false, apart := false }
def FnHaltingSaid : Prop := fnHaltingRow.holds Tryz.pinned (OpenSpec.ofChange fnHaltingSpec)

/-- ITS FALSE NEIGHBOUR: 'it returns false'. Refute it at one input. -/
def fnHaltingWrong : ChangeSpec := { name := "fnHalting", fn := fun _ => fun
  | [d1, d2] => { results := [.lit (.bool false)], args := [d1, d2] }
  | _ => none }
def FnHaltingWrongFalsely : Prop := fnHaltingRow.holds Tryz.pinned (OpenSpec.ofChange fnHaltingWrong)

/-- 'laws.FnBases': WHATEVER THE INPUT: true; the input reads as it did. -/
def fnBasesSpec : ChangeSpec := { name := "fnBases", fn := fun _ => fun
  | [d1, d2] => { results := [.lit (.bool true)], args := [d1, d2] }
  | _ => none }
def fnBasesRow : OpenClaim := { program := "ytfknckinfcicbaagreat", sum := "7971d90c390a765deb948c01582c7a69ffc46385cd2180ab35abfa591eff5708", func := "loop.example/g01084/laws.FnBases", spec := "fnBases", unfollowed := true, recurses := true, plainKeys := false, apart := false }
def FnBasesSaid : Prop := fnBasesRow.holds Tryz.pinned (OpenSpec.ofChange fnBasesSpec)

/-- ITS FALSE NEIGHBOUR: 'it returns false'. Refute it at one input. -/
def fnBasesWrong : ChangeSpec := { name := "fnBases", fn := fun _ => fun
  | [d1, d2] => { results := [.lit (.bool false)], args := [d1, d2] }
  | _ => none }
def FnBasesWrongFalsely : Prop := fnBasesRow.holds Tryz.pinned (OpenSpec.ofChange fnBasesWrong)

/- THE SECOND FORM. 'bulk': how many values and letters a reading holds, each counted each time it is reached (what is shared counts as often as it is met; a slice's spare places count too). A statement '..UptoSaid' is the law's where the arguments, and the package variables that the reading takes, are together of bulk at most 1048576: NARROWER than '..Said'. Prove '..Said' where nothing that the law and all that it calls make is longer than what came in: it says more and counts as full. Else prove '..UptoSaid'. A law counts once. -/
mutual
def uptoBulk {H : Type} : DataW H → Nat
  | .lit (.string bytes) => bytes.length + 1
  | .lit _ => 1
  | .nil => 1
  | .ptr d => uptoBulk d + 1
  | .slice elems spare => uptoBulkAll elems + uptoBulkAll spare + 1
  | .agg parts => uptoBulkAll parts + 1
  | .iface _ d => uptoBulk d + 1
  | .map entries => uptoBulkEntries entries + 1
  | .held _ => 1
def uptoBulkAll {H : Type} : List (DataW H) → Nat
  | [] => 0
  | d :: r => uptoBulk d + uptoBulkAll r
def uptoBulkEntries {H : Type} : List (Lit × DataW H) → Nat
  | [] => 0
  | x :: r => uptoBulkEntry x + uptoBulkEntries r
def uptoBulkEntry {H : Type} : Lit × DataW H → Nat
  | (.string bytes, d) => bytes.length + uptoBulk d + 1
  | (_, d) => uptoBulk d + 1
 end
def uptoSmall : (H : Type) → List (DataW H) → Bool := fun _ ds => decide (uptoBulkAll ds ≤ 1048576)
def OpenSpec.upto (s : _root_.Go.ChangeSpec) : _root_.Go.OpenSpec := { _root_.Go.OpenSpec.ofChange s with cond := some uptoSmall }

/-- 'laws.FnEqualViews', WHERE WHAT IT READS IS OF BULK AT MOST 1048576: true; the input reads as it did. -/
def fnEqualViewsUptoRow : OpenClaim := { program := "ytfknckinfcicbaagreat", sum := "7971d90c390a765deb948c01582c7a69ffc46385cd2180ab35abfa591eff5708", func := "loop.example/g01084/laws.FnEqualViews", spec := "fnEqualViews", unfollowed := true, recurses := true, plainKeys := false, apart := false, narrowed := true }
def FnEqualViewsUptoSaid : Prop := fnEqualViewsUptoRow.holds Tryz.pinned (OpenSpec.upto fnEqualViewsSpec)

/-- 'laws.FnHalting', WHERE WHAT IT READS IS OF BULK AT MOST 1048576: true; the input reads as it did. -/
def fnHaltingUptoRow : OpenClaim := { program := "ytfknckinfcicbaagreat", sum := "7971d90c390a765deb948c01582c7a69ffc46385cd2180ab35abfa591eff5708", func := "loop.example/g01084/laws.FnHalting", spec := "fnHalting", unfollowed := true, recurses := true, plainKeys := false, apart := false, narrowed := true }
def FnHaltingUptoSaid : Prop := fnHaltingUptoRow.holds Tryz.pinned (OpenSpec.upto fnHaltingSpec)

/-- 'laws.FnBases', WHERE WHAT IT READS IS OF BULK AT MOST 1048576: true; the input reads as it did. -/
def fnBasesUptoRow : OpenClaim := { program := "ytfknckinfcicbaagreat", sum := "7971d90c390a765deb948c01582c7a69ffc46385cd2180ab35abfa591eff5708", func := "loop.example/g01084/laws.FnBases", spec := "fnBases", unfollowed := true, recurses := true, plainKeys := false, apart := false, narrowed := true }
def FnBasesUptoSaid : Prop := fnBasesUptoRow.holds Tryz.pinned (OpenSpec.upto fnBasesSpec)

end Rows
end Go.Proofs.YtfknckinfcicbaaGreat
