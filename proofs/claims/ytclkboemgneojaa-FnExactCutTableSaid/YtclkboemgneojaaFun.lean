/- Plain functions on numbers and lists that the program and the reference compute. No program in sight. -/
import Derived.Test.YtclkboemgneojaaMem
namespace Go.Proofs.Ytclkboemgneojaa

theorem ints_ext' {xs ys : List Int} (hl : xs.length = ys.length) (h : ∀ j, j < xs.length → gi xs j = gi ys j) : xs = ys := by
  apply List.ext_getElem hl
  intro i h1 h2
  have := h i h1
  rwa [gi_lt h1, gi_lt h2] at this

/-- lo ≤ n ≤ hi -/
def inB (n lo hi : Int) : Bool := decide (lo ≤ n) && decide (n ≤ hi)
theorem inB_iff {n lo hi : Int} : inB n lo hi = true ↔ lo ≤ n ∧ n ≤ hi := by simp [inB]
theorem inB_false {n lo hi : Int} : inB n lo hi = false ↔ n < lo ∨ hi < n := by
  rw [← Bool.not_eq_true, inB_iff]; omega
def hasB (xs : List Int) (n : Int) : Bool := xs.contains n
def allB (xs : List Int) (lo hi : Int) : Bool := xs.all fun n => inB n lo hi

theorem take_snoc' {α : Type} {xs : List α} {k : Nat} (h : k < xs.length) : xs.take (k + 1) = xs.take k ++ [xs[k]] := by
  rw [List.take_succ_eq_append_getElem h]
theorem take_gi {xs : List Int} {k : Nat} (h : k < xs.length) : xs.take (k + 1) = xs.take k ++ [gi xs k] := by
  rw [take_snoc' h, gi_lt h]
theorem hasB_take {xs : List Int} {k : Nat} {n : Int} (h : k < xs.length) : hasB (xs.take (k + 1)) n = (hasB (xs.take k) n || (gi xs k == n)) := by
  rw [take_gi h]; simp only [hasB, List.contains_eq_any_beq, List.any_append, List.any_cons, List.any_nil, Bool.or_false]
  congr 1
  rw [Bool.eq_iff_iff]; simp only [beq_iff_eq]; constructor <;> intro h <;> exact h.symm
theorem allB_take {xs : List Int} {k : Nat} {lo hi : Int} (h : k < xs.length) : allB (xs.take (k + 1)) lo hi = (allB (xs.take k) lo hi && inB (gi xs k) lo hi) := by
  rw [take_gi h]; simp [allB]
theorem hasB_mem {xs : List Int} {n : Int} : hasB xs n = true ↔ n ∈ xs := by simp [hasB]
theorem hasB_of_lt {xs : List Int} {n : Int} {k : Nat} (h : k < xs.length) (e : gi xs k = n) : hasB xs n = true := by
  rw [hasB_mem, ← e, gi_lt h]; exact List.getElem_mem h
theorem hasB_false_all {xs : List Int} {n : Int} : hasB xs n = false ↔ ∀ k, k < xs.length → gi xs k ≠ n := by
  rw [← Bool.not_eq_true, hasB_mem]
  constructor
  · intro h k hk e; exact h (by rw [← e, gi_lt hk]; exact List.getElem_mem hk)
  · intro h hm
    obtain ⟨k, hk, e⟩ := List.getElem_of_mem hm
    exact h k hk (by rw [gi_lt hk, e])
theorem allB_iff {xs : List Int} {lo hi : Int} : allB xs lo hi = true ↔ ∀ k, k < xs.length → inB (gi xs k) lo hi = true := by
  simp only [allB, List.all_eq_true]
  constructor
  · intro h k hk; rw [gi_lt hk]; exact h _ (List.getElem_mem hk)
  · intro h x hx
    obtain ⟨k, hk, rfl⟩ := List.getElem_of_mem hx
    have := h k hk; rwa [gi_lt hk] at this

/-- distinct numbers in a range, as the reference asks it -/
def idsUpto (xs : List Int) (k : Nat) : Prop := ∀ i, i < k → inB (gi xs i) 1 999999 = true ∧ hasB (xs.take i) (gi xs i) = false
def idsB (xs : List Int) (n : Int) : Bool := decide (∀ i, i < xs.length → inB (gi xs i) 1 999999 = true ∧ hasB (xs.take i) (gi xs i) = false) && (xs.length == 0 || (xs.length : Int) == n)

/-- the port j of node k, which leads to port p of node a, is joined with a port that is joined with it -/
def endOkW (N : Net) (k j : Nat) (a p : Int) : Prop :=
  inB a 0 ((N.ends.length : Int) - 1) = true ∧ inB p 0 (((gl N.ends a.toNat).length : Int) - 1) = true ∧ gp (gl N.ends a.toNat) p.toNat = ((k : Int), (j : Int))
def endOk (N : Net) (k j : Nat) : Prop := endOkW N k j (gp (gl N.ends k) j).1 (gp (gl N.ends k) j).2
def rowOk (N : Net) (k : Nat) : Prop := (gl N.ends k).length ≤ 6 ∧ ∀ j, j < (gl N.ends k).length → endOk N k j
def endsOk (N : Net) : Prop := ∀ k, k < N.ends.length → rowOk N k
open Classical in
/-- a valid network -/
noncomputable def goodB (N : Net) : Bool :=
  inB N.ends.length 1 40 && idsB N.ids N.ends.length && (N.inputs.length == N.ends.length) && allB N.inputs 0 9 && decide (endsOk N)
theorem goodB_iff {N : Net} : goodB N = true ↔ inB N.ends.length 1 40 = true ∧ idsB N.ids N.ends.length = true ∧ N.inputs.length = N.ends.length ∧ allB N.inputs 0 9 = true ∧ endsOk N := by
  simp [goodB, and_assoc]
theorem goodB_false {N : Net} (h : ¬ (inB N.ends.length 1 40 = true ∧ idsB N.ids N.ends.length = true ∧ N.inputs.length = N.ends.length ∧ allB N.inputs 0 9 = true ∧ endsOk N)) : goodB N = false := by
  rw [← Bool.not_eq_true, goodB_iff]; exact h

end Go.Proofs.Ytclkboemgneojaa
