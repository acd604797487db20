/- The reference's network without edges. -/
import Derived.Test.YtfemnfpbdbbacaaGreatCJn8
import Derived.RegionTactic
import Derived.ChangeAlike
set_option linter.unusedSimpArgs false
set_option linter.unusedVariables false
namespace Go.Proofs.YtfemnfpbdbbacaaGreat
open Go.RowKit
set_option maxRecDepth 100000 in
set_option maxHeartbeats 1000000 in
theorem Hn (n : Nat) (w : World) (hn : n ≤ 262144) : Calls Tryz.prog 65 #[.int .i64 n] w (Xh w (ea n)) := by
 have hm1 := fun W => Go.run_make_row' (P := Tryz.prog) 25 3 (.int .i64 0) 8 Tryz.underlying25 lu rfl .i64 .i64 n (by omega) (by omega) W;have hm2 := fun W => Go.run_make_row' (P := Tryz.prog) 24 48 (.slice none 0 0) 24 Tryz.underlying24 Nc rfl .i64 .i64 n (by omega) (by omega) W
 go_enter Tryz.func65, Tryz.ntmps65
 go_wp2
 go_region
 all_goals clear hm1 hm2
 all_goals go_wp2
 ·refine bodyPost_ret (v := .agg #[.slice (some ⟨w.heap.size + 1, 0, none⟩) n n, .slice none 0 0, .slice (some ⟨w.heap.size + 1 + 1, 0, none⟩) n n]) (by simp [results, Tryz.results65, go_sem]) rfl ?_
  generalize hX : w.alloc (.cells #[.slice (some ⟨w.heap.size + 1, 0, none⟩) n n, .slice none 0 0, .slice (some ⟨w.heap.size + 1 + 1, 0, none⟩) n n] 27) = X
  have hxs : X.heap.size = w.heap.size + 1 := by rw [← hX]; simp
  have hbX : Below w.heap.size w X := by rw [← hX]; exact (Below.refl _ _).alloc (Nat.le_refl _) _
  have r1 := (World.rowIs_made X (.slice none 0 0) n 48).alloc (.cells (madeCells #[.int .i64 0] n) 3);have r2 := World.rowIs_made (X.alloc (.cells (madeCells #[.slice none 0 0] n) 48)) (.int .i64 0) n 3;simp only [World.size_alloc] at r2;rw [hxs] at r1 r2;refine ⟨_, rfl, ⟨_, _, _, rfl, OwnEs.of_rowIs r1 (by omega) (by unfold maxLen; omega), OwnI.nil, ?_, fun g hg => by cases hg⟩, (((hbX.alloc (by omega) _).alloc (by simp; omega) _)).drew⟩;exact OwnI.of_rowIs (xs := List.replicate n 0) (World.rowIs.congr r2 fun i hi => by simp [gi, hi]) (by simp) (by omega) (by unfold maxLen; omega)
 ·refine bodyPost_ret (v := .agg #[.slice (some ⟨w.heap.size + 1 + 1, 0, none⟩) n n, .slice none 0 0, .slice (some ⟨w.heap.size + 1, 0, none⟩) n n]) (by simp [results, Tryz.results65, go_sem]) rfl ?_
  generalize hX : w.alloc (.cells #[.slice (some ⟨w.heap.size + 1 + 1, 0, none⟩) n n, .slice none 0 0, .slice (some ⟨w.heap.size + 1, 0, none⟩) n n] 27) = X
  have hxs : X.heap.size = w.heap.size + 1 := by rw [← hX]; simp
  have hbX : Below w.heap.size w X := by rw [← hX]; exact (Below.refl _ _).alloc (Nat.le_refl _) _
  have r2 := (World.rowIs_made X (.int .i64 0) n 3).alloc (.cells (madeCells #[.slice none 0 0] n) 48);have r1 := World.rowIs_made (X.alloc (.cells (madeCells #[.int .i64 0] n) 3)) (.slice none 0 0) n 48;simp only [World.size_alloc] at r1;rw [hxs] at r1 r2;refine ⟨_, rfl, ⟨_, _, _, rfl, OwnEs.of_rowIs r1 (by omega) (by unfold maxLen; omega), OwnI.nil, ?_, fun g hg => by cases hg⟩, (((hbX.alloc (by omega) _).alloc (by simp; omega) _)).drew⟩;exact OwnI.of_rowIs (xs := List.replicate n 0) (World.rowIs.congr r2 fun i hi => by simp [gi, hi]) (by simp) (by omega) (by unfold maxLen; omega)
end Go.Proofs.YtfemnfpbdbbacaaGreat
