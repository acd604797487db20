/- Ranks of distinct numbers, and the order by them. No program in sight. -/
import Derived.Test.YtolpiolnhgpjjaaGreatCJn17
import Derived.Test.YtolpiolnhgpjjaaGreatCJn41
set_option linter.unusedSimpArgs false
set_option linter.unusedVariables false
namespace Go.Proofs.YtolpiolnhgpjjaaGreat
theorem Gf (b : Nat → Bool) : ∀ n, ct b n ≤ n
 | 0 => Nat.le_refl _
 | n + 1 => by have := Gf b n; rw [ct]; split <;> omega
theorem Sg {b c : Nat → Bool} {a : Nat} : ∀ n, a < n → b a = false → c a = true → (∀ i, i < n → b i = true → c i = true) → ct b n < ct c n
 | n + 1, ha, h1, h2, h => by
  rw [ct, ct]
  by_cases hn : a = n
  ·subst hn;have := Vh (b := b) (c := c) a fun i hi => h i (by omega);rw [h1, h2]; simp; omega
  ·have := Sg n (by omega) h1 h2 fun i hi => h i (by omega);have h3 := h n (by omega);split
   ·rename_i h4; rw [if_pos (h3 h4)]; omega
   ·split <;> omega
theorem Rv {f : Nat → Nat} {n : Nat} (h1 : ∀ v, v < n → f v < n) (h2 : ∀ v w, v < n → w < n → f v = f w → v = w) {r : Nat} (hr : r < n) : ∃ v, v < n ∧ f v = r := by
 refine Classical.byContradiction fun hno => ?_
 have hc : ∀ r, r < n → sm (fun v => if f v = r then 1 else 0) n ≤ 1 := fun r _ => by
  by_cases h : ∃ v, v < n ∧ f v = r
  ·obtain ⟨v, hv, he⟩ := h
   have h4 : ∀ w, w < n → (if f w = r then 1 else 0) = if w = v then 1 else 0 := fun w hw => by
    by_cases hwv : w = v
    ·subst hwv; rw [if_pos he, if_pos rfl]
    ·rw [if_neg hwv, if_neg fun h3 => hwv (h2 w v hw hv (h3.trans he.symm))]
   rw [ly n h4, E7, if_pos hv];exact Nat.le_refl _
  ·rw [ly (g := fun _ => 0) n fun w hw => if_neg fun h3 => h ⟨w, hw, h3⟩, zy]; omega
 have h0 : sm (fun v => if f v = r then 1 else 0) n = 0 := by
  rw [ly (g := fun _ => 0) n fun w hw => if_neg fun h3 => hno ⟨w, hw, h3⟩, zy]
 have hs : sm (fun r => sm (fun v => if f v = r then 1 else 0) n) n = n := by
  have h5 : ∀ v, v < n → sm (fun r => if f v = r then 1 else 0) n = 1 := fun v hv => by
   have h6 : ∀ r, r < n → (if f v = r then 1 else 0) = if r = f v then 1 else 0 := fun r _ => by
    by_cases h : f v = r
    ·rw [if_pos h, if_pos h.symm]
    ·rw [if_neg h, if_neg fun h3 => h h3.symm]
   rw [ly n h6, E7, if_pos (h1 v hv)]
  rw [← L8 (fun v r => if f v = r then 1 else 0), ly n h5, At, Nat.mul_one]
 have hlt : sm (fun r => sm (fun v => if f v = r then 1 else 0) n) n ≤ sm (fun i => if i = r then 0 else 1) n := L9 n fun i hi => by
  by_cases h : i = r
  ·rw [if_pos h, h, h0]; omega
  ·rw [if_neg h]; exact hc i hi
 have he : sm (fun i => if i = r then 0 else 1) n + sm (fun i => if i = r then 1 else 0) n = sm (fun _ => 1) n := by
  rw [← Jr]; exact ly n fun i _ => by split <;> rfl
 rw [E7, if_pos hr, At] at he;omega
def rkN (ids : List Int) (v : Nat) : Nat := ct (fun w => decide (gi ids w < gi ids v)) ids.length
def mh (ids : List Int) : Nat → List Int
 | 0 => List.replicate ids.length 0
 | k + 1 => (mh ids k).set (rkN ids k) (k : Int)
section
variable {ids : List Int}
theorem Jx {v : Nat} (hv : v < ids.length) : rkN ids v < ids.length := by
 have h := Sg (b := fun w => decide (gi ids w < gi ids v)) (c := fun _ => true) ids.length hv (by simp) rfl fun _ _ _ => rfl;exact Nat.lt_of_lt_of_le h (Gf _ _)
theorem wh {v w : Nat} (hv : v < ids.length) (h : gi ids v < gi ids w) : rkN ids v < rkN ids w :=
 Sg ids.length hv (by simp) (by simpa using h) fun i _ h1 => by simp at h1 ⊢; omega
theorem zz {v w : Nat} (hv : v < ids.length) (hw : w < ids.length) : rkN ids v < rkN ids w ↔ gi ids v < gi ids w := by
 refine ⟨fun h => ?_, wh hv⟩
 rcases Int.lt_trichotomy (gi ids v) (gi ids w) with h1 | h1 | h1
 ·exact h1
 ·unfold rkN at h; rw [h1] at h; omega
 ·have := wh hw h1; omega
theorem r9 (hd : ∀ v w, v < ids.length → w < ids.length → gi ids v = gi ids w → v = w) {v w : Nat} (hv : v < ids.length) (hw : w < ids.length) (h : rkN ids v = rkN ids w) : v = w := by
 rcases Int.lt_trichotomy (gi ids v) (gi ids w) with h1 | h1 | h1
 ·have := wh hv h1; omega
 ·exact hd v w hv hw h1
 ·have := wh hw h1; omega
theorem ns : ∀ k, (mh ids k).length = ids.length
 | 0 => by simp [mh]
 | k + 1 => by rw [mh, List.length_set, ns k]
theorem Mo (hd : ∀ v w, v < ids.length → w < ids.length → gi ids v = gi ids w → v = w) : ∀ k, k ≤ ids.length → ∀ v, v < k → gi (mh ids k) (rkN ids v) = v
 | k + 1, hk, v, hv => by
  have hl := Jx (ids := ids) (v := k) (by omega);rw [mh, K4 (by rw [ns]; exact hl)]
  by_cases h : v = k
  ·subst h; rw [if_pos rfl]
  ·rw [if_neg fun h1 => h (r9 hd (by omega) (by omega) h1)];exact Mo hd k (by omega) v (by omega)
theorem sf (hd : ∀ v w, v < ids.length → w < ids.length → gi ids v = gi ids w → v = w) {r : Nat} (hr : r < ids.length) : ∃ v : Nat, v < ids.length ∧ rkN ids v = r ∧ gi (mh ids ids.length) r = v := by
 obtain ⟨v, hv, he⟩ := Rv (f := rkN ids) (fun v hv => Jx hv) (fun v w hv hw => r9 hd hv hw) hr;exact ⟨v, hv, he, by rw [← he]; exact Mo hd _ (Nat.le_refl _) v hv⟩
theorem Dw (hd : ∀ v w, v < ids.length → w < ids.length → gi ids v = gi ids w → v = w) : ff (mh ids ids.length) ids.length = true := by
 have key : jr (mh ids ids.length) ids.length (mh ids ids.length).length := fun i hi => by
  rw [ns] at hi;obtain ⟨v, hv, he, hg⟩ := sf hd hi;refine ⟨ec.2 (by rw [hg]; omega), ?_⟩;rw [ju];intro j hj h2;rw [List.length_take, ns] at hj;have hji : j < i := by omega
  have h3 : gi (mh ids ids.length) j = gi (mh ids ids.length) i := by
   rw [← h2]; unfold gi; simp [List.getElem?_take, hji]
  obtain ⟨w, hw, he2, hg2⟩ := sf hd (by omega : j < ids.length);rw [hg, hg2] at h3;have : w = v := by omega
  rw [this] at he2; omega
 simp only [ff, Bool.and_eq_true, decide_eq_true_eq];exact ⟨key, ns _⟩
end
end Go.Proofs.YtolpiolnhgpjjaaGreat
