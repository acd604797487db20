/- Parts of the proof. -/
import Derived.Test.YtolpiolnhgpjjaaGreatCJn15
import Derived.Test.YtolpiolnhgpjjaaGreatCJn37
import Derived.Test.YtolpiolnhgpjjaaGreatCJn31
set_option linter.unusedSimpArgs false
set_option linter.unusedVariables false
namespace Go.Proofs.YtolpiolnhgpjjaaGreat
section
theorem T3 {b c : Nat → Bool} {a : Nat} : ∀ n, a < n → b a = false → c a = true → (∀ i, i < n → b i = true → c i = true) → ct b n < ct c n
 | n + 1, ha, h1, h2, h => by
  rw [ct, ct]
  by_cases hn : a = n
  ·subst hn;have := T4 (b := b) (c := c) a fun i hi => h i (by omega);rw [h1, h2]; simp; omega
  ·have := T3 n (by omega) h1 h2 fun i hi => h i (by omega);have h3 := h n (by omega);split
   ·rename_i h4; rw [if_pos (h3 h4)]; omega
   ·split <;> omega
section
variable {ids : List Int}
end
end
section
def gnD (ball : Nat → List Int) (c : Nat → Bool) (v : Nat) : Nat := ((ball v).filter fun x => !c x.toNat).length
def bsD (ball : Nat → List Int) (c : Nat → Bool) : Nat → Nat
 | 0 => 0
 | k + 1 => if gnD ball c (bsD ball c k) < gnD ball c k then k else bsD ball c k
def cvD (ball : Nat → List Int) (n : Nat) : Nat → Nat → Bool
 | 0, _ => false
 | s + 1, w => cvD ball n s w || (ball (bsD ball (cvD ball n s) n)).contains (w : Int)
def stD (ball : Nat → List Int) (n : Nat) : Nat → List Int
 | 0 => []
 | s + 1 => stD ball n s ++ [((bsD ball (cvD ball n s) n : Nat) : Int)]
section
variable {ball : Nat → List Int} {c : Nat → Bool} {n : Nat}
theorem I5 : ∀ {k : Nat}, 0 < k → bsD ball c k < k
 | k + 1, _ => by
  rw [bsD];split
  ·omega
  ·rcases Nat.eq_zero_or_pos k with h | h
   ·subst h; exact Nat.one_pos
   ·have := I5 h; omega
theorem K3 : ∀ {k v : Nat}, v < k → gnD ball c v ≤ gnD ball c (bsD ball c k)
 | k + 1, v, hv => by
  rw [bsD]
  by_cases h : v < k
  ·have := K3 h;split <;> omega
  ·obtain rfl : v = k := by omega
   split <;> omega
theorem tp {v : Nat} : 0 < gnD ball c v ↔ ∃ x ∈ ball v, c x.toNat = false := by
 unfold gnD;rw [List.length_pos_iff_exists_mem];simp [List.mem_filter]
theorem K0 (hself : ∀ v, v < n → (v : Int) ∈ ball v) {w : Nat} (hw : w < n) (hc : c w = false) : 0 < gnD ball c (bsD ball c n) :=
 Nat.lt_of_lt_of_le (tp.2 ⟨w, hself w hw, by rw [Int.toNat_natCast]; exact hc⟩) (K3 hw)
theorem Du {w : Nat} : ∀ {s : Nat}, cvD ball n s w = true ↔ ∃ x ∈ stD ball n s, (w : Int) ∈ ball x.toNat
 | 0 => by simp [cvD, stD]
 | s + 1 => by
  rw [cvD, stD, Bool.or_eq_true, Du (s := s)];constructor
  ·rintro (⟨x, h1, h2⟩ | h)
   ·exact ⟨x, List.mem_append_left _ h1, h2⟩
   ·exact ⟨_, List.mem_append_right _ (List.mem_singleton.2 rfl), by rw [Int.toNat_natCast]; simpa using h⟩
  ·rintro ⟨x, h1, h2⟩
   rcases List.mem_append.1 h1 with h1 | h1
   ·exact .inl ⟨x, h1, h2⟩
   ·rw [List.mem_singleton] at h1;subst h1;rw [Int.toNat_natCast] at h2;exact .inr (by simpa using h2)
theorem xe (hn : 0 < n) : ∀ {s : Nat} {x : Int}, x ∈ stD ball n s → 0 ≤ x ∧ x < n
 | 0, x, h => absurd h List.not_mem_nil
 | s + 1, x, h => by
  rw [stD] at h
  rcases List.mem_append.1 h with h | h
  ·exact xe hn h
  ·rw [List.mem_singleton] at h;have := I5 (ball := ball) (c := cvD ball n s) hn;omega
theorem Rn {s : Nat} (hb : ∀ v, ∀ x ∈ ball v, 0 ≤ x) (h : 0 < gnD ball (cvD ball n s) (bsD ball (cvD ball n s) n)) : ((bsD ball (cvD ball n s) n : Nat) : Int) ∉ stD ball n s := fun hm => by
 obtain ⟨x, hx, hc⟩ := tp.1 h;have h0 := hb _ x hx;have : cvD ball n s x.toNat = true := Du.2 ⟨_, hm, by rw [Int.toNat_natCast, show ((x.toNat : Nat) : Int) = x by omega]; exact hx⟩;rw [hc] at this; cases this
theorem Gc {s : Nat} (hb : ∀ v, ∀ x ∈ ball v, 0 ≤ x ∧ x < n) (h : 0 < gnD ball (cvD ball n s) (bsD ball (cvD ball n s) n)) : ct (fun w => !cvD ball n (s + 1) w) n < ct (fun w => !cvD ball n s w) n := by
 obtain ⟨x, hx, hc⟩ := tp.1 h;have h0 := hb _ x hx;refine T3 (a := x.toNat) n (by omega) ?_ (by simpa using hc) fun i _ h1 => ?_
 ·rw [cvD, show ((x.toNat : Nat) : Int) = x by omega];simp [hx]
 ·rw [cvD] at h1;simp at h1 ⊢;exact h1.1
theorem x5 (hb : ∀ v, ∀ x ∈ ball v, 0 ≤ x) : ∀ s, (∀ r, r < s → 0 < gnD ball (cvD ball n r) (bsD ball (cvD ball n r) n)) → (stD ball n s).Nodup
 | 0, _ => List.nodup_nil
 | s + 1, h => by
  rw [stD];refine List.nodup_append.2 ⟨x5 hb s fun r hr => h r (by omega), by simp, fun x hx y hy he => ?_⟩;rw [List.mem_singleton] at hy;subst hy; subst he;exact Rn hb (h s (by omega)) hx
end
end
end Go.Proofs.YtolpiolnhgpjjaaGreat
