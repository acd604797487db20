/- A piece of a slice, as a reading. No program in sight. -/
import Derived.Test.YtolpiolnhgpjjaaGreatCJn9
import Derived.Laws.Slices
set_option linter.unusedSimpArgs false
set_option linter.unusedVariables false
namespace Go.Proofs.YtolpiolnhgpjjaaGreat
open Go.RowKit
theorem Tj {P : Program} {t e : TypeId} {s : Nat} (ht : P.underlying t = some (.slice e)) (hs : ∀ W, (sizeOf e).run P W = .ok s W) (A : Option Addr) (n c k : Nat) (h : k ≤ c) (W : World) :
 (Instr.sliceAt t (.slice A n c) none (some (.int .i64 (k : Nat))) none).run P W = .ok (Go.sliced A 0 k c s) W := by
 have he : P.elem t = e := by simp [Program.elem, ht]
 have ht' : P.underlying t = some (.slice (P.elem t)) := by rw [he]; exact ht
 rw [run_sliceAt_slice _ _ _ _ _ _ ht', run_slice_h _ _ _ _ _ ht' _ _ (by omega) (by omega), he, hs];rfl
theorem E8 {P : Program} {t e : TypeId} {s : Nat} (ht : P.underlying t = some (.slice e)) (hs : ∀ W, (sizeOf e).run P W = .ok s W) (A : Option Addr) (n c k : Nat) (h : k ≤ n) (W : World) :
 (Instr.sliceAt t (.slice A n c) (some (.int .i64 (k : Nat))) none none).run P W = .ok (Go.sliced A k n c s) W := by
 have he : P.elem t = e := by simp [Program.elem, ht]
 have ht' : P.underlying t = some (.slice (P.elem t)) := by rw [he]; exact ht
 rw [run_sliceAt_slice _ _ _ _ _ _ ht', run_slice_l _ _ _ _ _ ht' _ _ (by omega) (by omega), he, hs];rfl
end Go.Proofs.YtolpiolnhgpjjaaGreat
