/- Whether a network is one, whether a node is in it: earlier contracts, over data -/
import Derived.Test.YtlaahgdikiiahaaGreatCJn25
import Derived.Test.YtlaahgdikiiahaaGreatCIm4
import Derived.Test.YtlaahgdikiiahaaGreatCJn15
set_option linter.unusedSimpArgs false
set_option linter.unusedVariables false
namespace Go.Proofs.YtlaahgdikiiahaaGreat
open Go Go.RowKit
theorem IsNetwork_d (f : NF) (N : Net) (hi : N.ids.length ≤ 2097152) : DCalls Tryz.prog 32 [.agg (netC f N)] (fun r => r = [.c (.p (.bool (goodB N)))]) := dcalls_v fun w vs h1 h2 => by
 obtain ⟨u, rfl, g1⟩ := args1 h1 h2
 exact IsNetwork_any u N w (argN g1) hi
theorem hasNode_d (f : NF) (N : Net) (v : Int) (hl : N.ends.length ≤ 2097152) : DCalls Tryz.prog 33 [.agg (netC f N), .c (.p (.int .i64 v))] (fun r => r = [.c (.p (.bool (inB v 0 ((N.ends.length : Int) - 1))))]) := dcalls_v fun w vs h1 h2 => by
 obtain ⟨u, v, rfl, g1, g2⟩ := args2 h1 h2
 rw [argI g2]
 obtain ⟨ve, vi, vn, rfl, he, -, -⟩ := argN g1
 obtain ⟨A, c, rfl, -⟩ := he
 exact hasNode_any A _ c vi vn _ w (by omega)
theorem neNode_d (f : NF) (N : Net) (v : Int) : DCalls Tryz.prog 35 [.agg (netC f N), .c (.p (.int .i64 v))] (fun r => r = [.c (.p (.bool (nodeB N v)))]) := dcalls_v fun w vs h1 h2 => by
 obtain ⟨u, v, rfl, g1, g2⟩ := args2 h1 h2
 rw [argI g2]
 exact neNode_any u N _ w (argN g1)
theorem neGood_d (f : NF) (N : Net) : DCalls Tryz.prog 80 [.agg (netC f N)] (fun r => r = [.c (.p (.bool (goodB N)))]) := dcalls_v fun w vs h1 h2 => by
 obtain ⟨u, rfl, g1⟩ := args1 h1 h2
 exact neGood_any u N w (argN g1)
end Go.Proofs.YtlaahgdikiiahaaGreat
