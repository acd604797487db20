/- A sorted list without its repetitions. No program in sight. -/
import Derived.Test.YtolpiolnhgpjjaaGreatCJn31
import Derived.Lib.SlicesCompact
set_option linter.unusedSimpArgs false
set_option linter.unusedVariables false
namespace Go.Proofs.YtolpiolnhgpjjaaGreat
open Go Go.RowKit Go.Sort
theorem T0 {zs : List Int} (hs : zs.Pairwise (· ≤ ·)) {i j : Nat} (hij : i < j) (hj : j < zs.length) : gi zs i ≤ gi zs j := by
 rw [bm (by omega), bm hj];exact List.pairwise_iff_getElem.1 hs i j (by omega) hj hij
theorem rm {zs : List Int} {j : Nat} (hj : j < zs.length) : zs.toArray[j]! = gi zs j := by
 rw [getElem!_pos zs.toArray j (by simpa using hj), bm hj]; simp
theorem ur {zs : List Int} {j : Nat} (hj : j < zs.length) : Lib.keeps zs.toArray j = true ↔ j = 0 ∨ gi zs j ≠ gi zs (j - 1) := by
 unfold Lib.keeps;rw [decide_eq_true_iff, rm hj, rm (by omega)]
theorem Ge {zs : List Int} {x : Int} : x ∈ Lib.compact zs ↔ x ∈ zs := by
 have key : ∀ j, j < zs.length → gi zs j ∈ Lib.compact zs := by
  intro j
  induction j with
  | zero =>
   intro hj;unfold Lib.compact Lib.compactUpTo;exact List.mem_map.2 ⟨0, List.mem_filter.2 ⟨List.mem_range.2 hj, (ur hj).2 (.inl rfl)⟩, rm hj⟩
  | succ j ih =>
   intro hj
   by_cases h : gi zs (j + 1) = gi zs j
   ·rw [h]; exact ih (by omega)
   ·unfold Lib.compact Lib.compactUpTo;exact List.mem_map.2 ⟨j + 1, List.mem_filter.2 ⟨List.mem_range.2 hj, (ur hj).2 (.inr h)⟩, rm hj⟩
 constructor
 ·intro h;unfold Lib.compact Lib.compactUpTo at h;obtain ⟨j, h1, rfl⟩ := List.mem_map.1 h;have hj := List.mem_range.1 (List.mem_filter.1 h1).1;rw [rm hj, bm hj]; exact List.getElem_mem hj
 ·intro h;obtain ⟨j, hj, rfl⟩ := List.getElem_of_mem h;have := key j hj;rwa [bm hj] at this
theorem Gf {zs : List Int} (hs : zs.Pairwise (· ≤ ·)) : (Lib.compact zs).Pairwise (· < ·) := by
 unfold Lib.compact Lib.compactUpTo;rw [List.pairwise_map];refine List.Pairwise.imp_of_mem ?_ ((List.pairwise_lt_range (n := zs.length)).filter (Lib.keeps zs.toArray));intro i j hi hj hij;obtain ⟨hi1, -⟩ := List.mem_filter.1 hi;obtain ⟨hj1, hj2⟩ := List.mem_filter.1 hj;have hi1 := List.mem_range.1 hi1;have hj1 := List.mem_range.1 hj1;rw [rm hi1, rm hj1]
 rcases (ur hj1).1 hj2 with h | h
 ·omega
 ·have h1 : gi zs i ≤ gi zs (j - 1) := by
   by_cases h2 : i = j - 1
   ·rw [h2]; exact Int.le_refl _
   ·exact T0 hs (by omega) (by omega)
  have h2 : gi zs (j - 1) ≤ gi zs j := T0 hs (by omega) hj1;omega
theorem I1 (zs : List Int) : (Lib.compact zs).length ≤ zs.length := by
 unfold Lib.compact Lib.compactUpTo;rw [List.length_map];have h := List.length_filter_le (Lib.keeps zs.toArray) (List.range zs.length);rwa [List.length_range] at h
end Go.Proofs.YtolpiolnhgpjjaaGreat
