/- Parts of the proof. -/
import Derived.Test.YtfemnfpbdbbacaaGreatCJn8
import Derived.Laws.Slices
import Derived.Test.YtfemnfpbdbbacaaGreatCJn6
import Derived.ProofKit
import Derived.Deep.SlicePairs
import Derived.Lib.SmallJoins
set_option linter.unusedSimpArgs false
set_option linter.unusedVariables false
namespace Go.Proofs.YtfemnfpbdbbacaaGreat
section
open Go.RowKit
theorem Uy {P : Program} {t e : TypeId} {s : Nat} (ht : P.underlying t = some (.slice e)) (hs : ∀ W, (sizeOf e).run P W = .ok s W) (A : Option Addr) (n c k : Nat) (h : k ≤ c) (W : World) :
 (Instr.sliceAt t (.slice A n c) none (some (.int .i64 (k : Nat))) none).run P W = .ok (Go.sliced A 0 k c s) W := by
 have he : P.elem t = e := by simp [Program.elem, ht]
 have ht' : P.underlying t = some (.slice (P.elem t)) := by rw [he]; exact ht
 rw [run_sliceAt_slice _ _ _ _ _ _ ht', run_slice_h _ _ _ _ _ ht' _ _ (by omega) (by omega), he, hs];rfl
theorem Ez {P : Program} {t e : TypeId} {s : Nat} (ht : P.underlying t = some (.slice e)) (hs : ∀ W, (sizeOf e).run P W = .ok s W) (A : Option Addr) (n c k : Nat) (h : k ≤ n) (W : World) :
 (Instr.sliceAt t (.slice A n c) (some (.int .i64 (k : Nat))) none none).run P W = .ok (Go.sliced A k n c s) W := by
 have he : P.elem t = e := by simp [Program.elem, ht]
 have ht' : P.underlying t = some (.slice (P.elem t)) := by rw [he]; exact ht
 rw [run_sliceAt_slice _ _ _ _ _ _ ht', run_slice_l _ _ _ _ _ ht' _ _ (by omega) (by omega), he, hs];rfl
end
section
def ct (b : Nat → Bool) : Nat → Nat
 | 0 => 0
 | n + 1 => ct b n + if b n = true then 1 else 0
section
variable {p q : Nat → Nat} {n : Nat}
end
end
section
def ng (ess : List (List (Int × Int))) : List (List (Int × Int)) := (ess.map fun es => es.map fun e => (e.1 + (ess.length : Int), e.2)) ++ ess
section
variable {ess : List (List (Int × Int))}
theorem Fw : (ng ess).length = ess.length + ess.length := by simp [ng]
theorem Fy {v : Nat} (hv : v < ess.length) : gl (ng ess) v = (gl ess v).map fun e => (e.1 + (ess.length : Int), e.2) := by
 unfold gl ng;simp [List.getD_eq_getElem?_getD, List.getElem?_append_left, hv]
theorem Fx {v : Nat} : gl (ng ess) (v + ess.length) = gl ess v := by
 unfold gl ng;rw [List.getD_eq_getElem?_getD, List.getElem?_append_right (by simp), List.getD_eq_getElem?_getD];simp
theorem uv {v : Nat} (hv : v < ess.length) : dg (ng ess) v = dg ess v := by unfold dg; rw [Fy hv, List.length_map]
theorem zg {v : Nat} : dg (ng ess) (v + ess.length) = dg ess v := by unfold dg; rw [Fx]
theorem Fv {v i : Nat} (hv : v < ess.length) (hi : i < dg ess v) : pt (ng ess) v i = ((pt ess v i).1 + (ess.length : Int), (pt ess v i).2) := by
 unfold pt;have hi' : i < (gl ess v).length := hi;rw [Fy hv, fy (by rw [List.length_map]; exact hi'), fy hi', List.getElem_map]
theorem Fu {v i : Nat} : pt (ng ess) (v + ess.length) i = pt ess v i := by unfold pt; rw [Fx]
theorem Sym.dbl (hs : Sym ess) : Sym (ng ess) := fun a i ha hi => by
 rw [Fw] at ha ⊢
 by_cases h : a < ess.length
 ·rw [uv h] at hi;obtain ⟨b, j, e, hb, hj, e2⟩ := hs a i h hi;refine ⟨b + ess.length, j, ?_, by omega, by rw [zg]; exact hj, by rw [Fu]; exact e2⟩;rw [Fv h hi, e];simp
 ·obtain ⟨v, rfl⟩ : ∃ v, a = v + ess.length := ⟨a - ess.length, by omega⟩;rw [zg] at hi;obtain ⟨b, j, e, hb, hj, e2⟩ := hs v i (by omega) hi;refine ⟨b, j, by rw [Fu]; exact e, by omega, by rw [uv hb]; exact hj, ?_⟩;rw [Fv hb hj, e2];simp
end
end
section
open Go.ChangeShapes Go.WideShapes Go.ChangeAt Go.RowKit Go.Deep Go.Joins
theorem Ah {H : Type} {enc : TypeId × Value → H} {P : Program} {w : World} {base : Nat} {spare : Nat → Bool} {held : Bool} {t e : TypeId} {fuel : Nat} {cs : List Value} {x : DataW H × List MemPlace} (ht : P.underlying t = some (.slice e)) (he : P.underlying e = some (.int .u8)) (hc : P.cellsOf e = 1)
 (h : DataW.trod enc P w base spare held fuel t cs = some x) : ∃ v L, cs = [v] ∧ Jg w v L := by
 rcases open_slice1 ht hc h with ⟨rfl, _⟩ | ⟨a, len, cap, m, n, V, D, Pl, rfl, hb, hl, hm, hmm, _, hx⟩
 ·exact ⟨_, 0, rfl, none, 0, rfl, by omega, ⟨by omega, by unfold maxLen; omega⟩, fun h => absurd h (Nat.lt_irrefl _)⟩
 ·have hlm : len ≤ m := by rw [hmm]; split <;> omega
  have hz : ∀ i, i < len → ∃ z : Int, V i = .int .u8 z ∧ 0 ≤ z ∧ z ≤ 255 := fun i hi => by
   obtain ⟨_, h2⟩ := hx i (by omega);obtain ⟨q, e1, _, hw⟩ := DataW.trod_int he h2;simp only [List.cons.injEq, and_true] at e1;simp only [Lit.wf, Bool.and_eq_true, decide_eq_true_eq] at hw;exact ⟨q, e1, hw.1, hw.2⟩
  refine ⟨_, len, rfl, some a, cap, rfl, by have := hl; unfold maxLen at hm; omega, ⟨hl, hm⟩, fun hp => ?_⟩;have h0 := (hx 0 (by omega)).1;obtain ⟨b, off, sp⟩ := a;have hsp : sp = none := by simpa [Addr.add] using World.cell?_spot h0
  subst hsp;refine ⟨b, off, rfl, fun j hj => ?_⟩;have := (hx j (by omega)).1;rw [add_plain] at this;obtain ⟨z, hz1, hz2, hz3⟩ := hz j hj;exact ⟨z, hz2, hz3, by rw [this, hz1]⟩
end
end Go.Proofs.YtfemnfpbdbbacaaGreat
