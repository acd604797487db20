/- Parts of the proof. -/
import Derived.Test.YtfemnfpbdbbacaaGreatCJn8
import Derived.Lib.Slices
import Derived.Test.YtfemnfpbdbbacaaGreatCSp2
import Derived.Test.YtfemnfpbdbbacaaGreatCJn6
import Derived.Lib.BitFns
set_option linter.unusedSimpArgs false
set_option linter.unusedVariables false
namespace Go.Proofs.YtfemnfpbdbbacaaGreat
section
theorem Dv {l : List Int} (h : ∃ x ∈ l, 0 ≤ x) : Lib.maxOf l = mx0 l := by
 cases l with
 | nil => obtain ⟨x, hx, -⟩ := h; simp at hx
 | cons y l =>
  have e1 : Lib.maxOf (y :: l) = l.foldl max y := by simp [Lib.maxOf]
  have e2 : mx0 (y :: l) = l.foldl max (max 0 y) := rfl;rw [e1, e2];obtain ⟨a1, a2, a3⟩ := iv l y;obtain ⟨b1, b2, b3⟩ := iv l (max 0 y)
  have h0 : 0 ≤ l.foldl max y := by
   obtain ⟨x, hx, h0⟩ := h
   rcases List.mem_cons.1 hx with rfl | hx
   ·omega
   ·have := a2 x hx; omega
  have k1 : l.foldl max y ≤ l.foldl max (max 0 y) := by
   rcases a3 with a3 | a3
   ·omega
   ·exact b2 _ a3
  have k2 : l.foldl max (max 0 y) ≤ l.foldl max y := by
   rcases b3 with b3 | b3
   ·omega
   ·exact a2 _ b3
  omega
def mn0 (l : List Int) : Int := l.foldl min 40
theorem ur (l : List Int) : ∀ a : Int, l.foldl min a ≤ a ∧ (∀ x ∈ l, l.foldl min a ≤ x) ∧ (l.foldl min a = a ∨ l.foldl min a ∈ l) := by
 induction l with
 | nil => exact fun a => ⟨Int.le_refl _, fun x hx => by simp at hx, .inl rfl⟩
 | cons y l ih =>
  intro a;obtain ⟨h1, h2, h3⟩ := ih (min a y);refine ⟨Int.le_trans h1 (Int.min_le_left _ _), fun x hx => ?_, ?_⟩
  ·rcases List.mem_cons.1 hx with rfl | hx
   ·exact Int.le_trans h1 (Int.min_le_right _ _)
   ·exact h2 x hx
  ·rw [List.foldl_cons]
   rcases h3 with h3 | h3
   ·rcases Int.le_total a y with h | h
    ·exact .inl (by rw [h3, Int.min_eq_left h])
    ·exact .inr (by rw [h3, Int.min_eq_right h]; exact List.mem_cons_self)
   ·exact .inr (List.mem_cons_of_mem _ h3)
theorem Pa {l : List Int} (h : ∃ x ∈ l, x ≤ 40) : Lib.minOf l = mn0 l := by
 cases l with
 | nil => obtain ⟨x, hx, -⟩ := h; simp at hx
 | cons y l =>
  have e1 : Lib.minOf (y :: l) = l.foldl min y := by simp [Lib.minOf]
  have e2 : mn0 (y :: l) = l.foldl min (min 40 y) := rfl;rw [e1, e2];obtain ⟨a1, a2, a3⟩ := ur l y;obtain ⟨b1, b2, b3⟩ := ur l (min 40 y)
  have h0 : l.foldl min y ≤ 40 := by
   obtain ⟨x, hx, h0⟩ := h
   rcases List.mem_cons.1 hx with rfl | hx
   ·omega
   ·have := a2 x hx; omega
  have k1 : l.foldl min (min 40 y) ≤ l.foldl min y := by
   rcases a3 with a3 | a3
   ·omega
   ·exact b2 _ a3
  have k2 : l.foldl min y ≤ l.foldl min (min 40 y) := by
   rcases b3 with b3 | b3
   ·omega
   ·exact a2 _ b3
  omega
def shl (l : List Int) (D k : Nat) : List Int := tab D fun d => cnt k fun j => gi l j == d
end
section
open Go.RowKit
attribute [local go_sem] BW.cell BW.frozen
end
end Go.Proofs.YtfemnfpbdbbacaaGreat
