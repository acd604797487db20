/- Parts of the proof. -/
import Derived.Test.YtolpiolnhgpjjaaGreatCJn7
import Derived.ProofKit
import Derived.Deep.SlicePairs
import Derived.Lib.SmallJoins
set_option linter.unusedSimpArgs false
set_option linter.unusedVariables false
namespace Go.Proofs.YtolpiolnhgpjjaaGreat
section
open Go.ChangeShapes Go.WideShapes Go.ChangeAt Go.RowKit Go.Deep Go.Joins
theorem yi {H : Type} {enc : TypeId × Value → H} {P : Program} {w : World} {base : Nat} {spare : Nat → Bool} {held : Bool} {t e : TypeId} {fuel : Nat} {cs : List Value} {x : DataW H × List MemPlace} (ht : P.underlying t = some (.slice e)) (he : P.underlying e = some (.int .u8)) (hc : P.cellsOf e = 1)
 (h : DataW.trod enc P w base spare held fuel t cs = some x) : ∃ v L, cs = [v] ∧ G0 w v L := by
 rcases open_slice1 ht hc h with ⟨rfl, _⟩ | ⟨a, len, cap, m, n, V, D, Pl, rfl, hb, hl, hm, hmm, _, hx⟩
 ·exact ⟨_, 0, rfl, none, 0, rfl, by omega, ⟨by omega, by unfold maxLen; omega⟩, fun h => absurd h (Nat.lt_irrefl _)⟩
 ·have hlm : len ≤ m := by rw [hmm]; split <;> omega
  have hz : ∀ i, i < len → ∃ z : Int, V i = .int .u8 z ∧ 0 ≤ z ∧ z ≤ 255 := fun i hi => by
   obtain ⟨_, h2⟩ := hx i (by omega);obtain ⟨q, e1, _, hw⟩ := DataW.trod_int he h2;simp only [List.cons.injEq, and_true] at e1;simp only [Lit.wf, Bool.and_eq_true, decide_eq_true_eq] at hw;exact ⟨q, e1, hw.1, hw.2⟩
  refine ⟨_, len, rfl, some a, cap, rfl, by have := hl; unfold maxLen at hm; omega, ⟨hl, hm⟩, fun hp => ?_⟩;have h0 := (hx 0 (by omega)).1;obtain ⟨b, off, sp⟩ := a;have hsp : sp = none := by simpa [Addr.add] using World.cell?_spot h0
  subst hsp;refine ⟨b, off, rfl, fun j hj => ?_⟩;have := (hx j (by omega)).1;rw [add_plain] at this;obtain ⟨z, hz1, hz2, hz3⟩ := hz j hj;exact ⟨z, hz2, hz3, by rw [this, hz1]⟩
end
section
def ct (b : Nat → Bool) : Nat → Nat
 | 0 => 0
 | n + 1 => ct b n + if b n = true then 1 else 0
def sm (f : Nat → Nat) : Nat → Nat
 | 0 => 0
 | n + 1 => sm f n + f n
theorem Og {f g : Nat → Nat} : ∀ n, (∀ i, i < n → f i = g i) → sm f n = sm g n
 | 0, _ => rfl
 | n + 1, h => by rw [sm, sm, Og n fun i hi => h i (by omega), h n (by omega)]
theorem T4 {b c : Nat → Bool} : ∀ n, (∀ i, i < n → b i = true → c i = true) → ct b n ≤ ct c n
 | 0, _ => Nat.le_refl _
 | n + 1, h => by
  have := T4 n fun i hi => h i (by omega);rw [ct, ct];have h2 := h n (by omega);split
  ·rename_i h3; rw [if_pos (h2 h3)]; omega
  ·omega
section
variable {p q : Nat → Nat} {n : Nat}
end
end
end Go.Proofs.YtolpiolnhgpjjaaGreat
