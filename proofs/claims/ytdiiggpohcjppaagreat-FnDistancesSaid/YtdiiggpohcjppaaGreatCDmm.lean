/- slices.Max over data -/
import Derived.Test.YtdiiggpohcjppaaGreatCJn24
import Derived.Test.YtdiiggpohcjppaaGreatCShelf
set_option linter.unusedSimpArgs false
set_option linter.unusedVariables false
namespace Go.Proofs.YtdiiggpohcjppaaGreat
open Go Go.RowKit
theorem mayMax : callOk Tryz.prog 64 = true := by kernel_rfl
theorem Max_d (o : Bool) (tt : TypeId) (xs : List Int) (hp : 0 < xs.length) : DCalls Tryz.prog 64 [.c (ints o tt xs)] (fun r => r = [.c (.p (.int .i64 (Lib.maxOf xs)))]) := dcalls_v fun w vs h1 h2 => by
 obtain ⟨u, rfl, g1⟩ := args1 h1 h2
 have h := RO_ints g1
 have hb := h.bound
 obtain ⟨A, c, rfl, hnc, hm, hx⟩ := h
 obtain ⟨b, off, rfl, -, hc⟩ := hx hp
 refine (Tryz.slices_Max_int b off xs.length c xs w hp (Nat.le_refl _) hb hc).mono ?_
 rintro e w1 ⟨rfl, rfl⟩
 exact ⟨by rw [List.take_length], Below.refl _ _⟩
end Go.Proofs.YtdiiggpohcjppaaGreat
