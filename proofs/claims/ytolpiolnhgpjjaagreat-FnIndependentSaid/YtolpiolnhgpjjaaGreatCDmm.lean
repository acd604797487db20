/- slices.Max over data -/
import Derived.Test.YtolpiolnhgpjjaaGreatCJn22
import Derived.Test.YtolpiolnhgpjjaaGreatCShelf
set_option linter.unusedSimpArgs false
set_option linter.unusedVariables false
namespace Go.Proofs.YtolpiolnhgpjjaaGreat
open Go Go.RowKit
theorem Y7 (o : Bool) (tt : TypeId) (xs : List Int) (hp : 0 < xs.length) : DCalls Tryz.prog 81 [.c (ints o tt xs)] (fun r => r = [.c (.p (.int .i64 (Lib.maxOf xs)))]) := iv fun w vs h1 h2 => by
 obtain ⟨u, rfl, g1⟩ := Ey h1 h2;have h := lj g1;have hb := h.bound;obtain ⟨A, c, rfl, hnc, hm, hx⟩ := h;obtain ⟨b, off, rfl, -, hc⟩ := hx hp;refine (Tryz.slices_Max_int b off xs.length c xs w hp (Nat.le_refl _) hb hc).mono ?_;rintro e w1 ⟨rfl, rfl⟩;exact ⟨by rw [List.take_length], Below.refl _ _⟩
end Go.Proofs.YtolpiolnhgpjjaaGreat
