/- Greatest and least numbers, nodes picked by a test, counts: as loops reckon them. Plain facts; no program in sight. -/
import Derived.Test.YtdiiggpohcjppaaGreatCMtr
import Derived.Lib.Slices
set_option linter.unusedSimpArgs false
set_option linter.unusedVariables false
namespace Go.Proofs.YtdiiggpohcjppaaGreat
theorem maxOf_mx0 {l : List Int} (h : ∃ x ∈ l, 0 ≤ x) : Lib.maxOf l = mx0 l := by
 cases l with
 | nil => obtain ⟨x, hx, -⟩ := h; simp at hx
 | cons y l =>
  have e1 : Lib.maxOf (y :: l) = l.foldl max y := by simp [Lib.maxOf]
  have e2 : mx0 (y :: l) = l.foldl max (max 0 y) := rfl
  rw [e1, e2]
  obtain ⟨a1, a2, a3⟩ := foldl_max_ge l y
  obtain ⟨b1, b2, b3⟩ := foldl_max_ge l (max 0 y)
  have h0 : 0 ≤ l.foldl max y := by
   obtain ⟨x, hx, h0⟩ := h
   rcases List.mem_cons.1 hx with rfl | hx
   ·omega
   ·have := a2 x hx; omega
  have k1 : l.foldl max y ≤ l.foldl max (max 0 y) := by
   rcases a3 with a3 | a3
   ·omega
   ·exact b2 _ a3
  have k2 : l.foldl max (max 0 y) ≤ l.foldl max y := by
   rcases b3 with b3 | b3
   ·omega
   ·exact a2 _ b3
  omega
def mn0 (l : List Int) : Int := l.foldl min 40
theorem foldl_min_le (l : List Int) : ∀ a : Int, l.foldl min a ≤ a ∧ (∀ x ∈ l, l.foldl min a ≤ x) ∧ (l.foldl min a = a ∨ l.foldl min a ∈ l) := by
 induction l with
 | nil => exact fun a => ⟨Int.le_refl _, fun x hx => by simp at hx, .inl rfl⟩
 | cons y l ih =>
  intro a
  obtain ⟨h1, h2, h3⟩ := ih (min a y)
  refine ⟨Int.le_trans h1 (Int.min_le_left _ _), fun x hx => ?_, ?_⟩
  ·rcases List.mem_cons.1 hx with rfl | hx
   ·exact Int.le_trans h1 (Int.min_le_right _ _)
   ·exact h2 x hx
  ·rw [List.foldl_cons]
   rcases h3 with h3 | h3
   ·rcases Int.le_total a y with h | h
    ·exact .inl (by rw [h3, Int.min_eq_left h])
    ·exact .inr (by rw [h3, Int.min_eq_right h]; exact List.mem_cons_self)
   ·exact .inr (List.mem_cons_of_mem _ h3)
theorem minOf_mn0 {l : List Int} (h : ∃ x ∈ l, x ≤ 40) : Lib.minOf l = mn0 l := by
 cases l with
 | nil => obtain ⟨x, hx, -⟩ := h; simp at hx
 | cons y l =>
  have e1 : Lib.minOf (y :: l) = l.foldl min y := by simp [Lib.minOf]
  have e2 : mn0 (y :: l) = l.foldl min (min 40 y) := rfl
  rw [e1, e2]
  obtain ⟨a1, a2, a3⟩ := foldl_min_le l y
  obtain ⟨b1, b2, b3⟩ := foldl_min_le l (min 40 y)
  have h0 : l.foldl min y ≤ 40 := by
   obtain ⟨x, hx, h0⟩ := h
   rcases List.mem_cons.1 hx with rfl | hx
   ·omega
   ·have := a2 x hx; omega
  have k1 : l.foldl min (min 40 y) ≤ l.foldl min y := by
   rcases a3 with a3 | a3
   ·omega
   ·exact b2 _ a3
  have k2 : l.foldl min y ≤ l.foldl min (min 40 y) := by
   rcases b3 with b3 | b3
   ·omega
   ·exact a2 _ b3
  omega
theorem mn0_le {l : List Int} {x : Int} (h : x ∈ l) : mn0 l ≤ x := (foldl_min_le l 40).2.1 x h
theorem mn0_mem (l : List Int) : mn0 l = 40 ∨ mn0 l ∈ l := (foldl_min_le l 40).2.2
theorem mn0_take (l : List Int) {k : Nat} (hk : k < l.length) : mn0 (l.take (k + 1)) = min (mn0 (l.take k)) (gi l k) := by
 unfold mn0
 rw [List.take_succ_eq_append_getElem hk, List.foldl_append, ← gi_lt hk]; rfl
def pickT (p : Nat → Bool) (k : Nat) : List Int := ((List.range k).filter p).map Nat.cast
theorem pickT_yes {p : Nat → Bool} {k : Nat} (h : p k = true) : pickT p (k + 1) = pickT p k ++ [(k : Int)] := by
 unfold pickT
 rw [List.range_succ, List.filter_append, List.map_append]
 simp [h]
theorem pickT_no {p : Nat → Bool} {k : Nat} (h : p k = false) : pickT p (k + 1) = pickT p k := by
 unfold pickT
 rw [List.range_succ, List.filter_append, List.map_append]
 simp [h]
theorem pickT_none {p : Nat → Bool} {k : Nat} (h : ∀ j, j < k → p j = false) : pickT p k = [] := by
 unfold pickT
 rw [List.filter_eq_nil_iff.2 fun j hj => by simp [h j (List.mem_range.1 hj)]]
 rfl
theorem pickT_len (p : Nat → Bool) : ∀ k, ((pickT p k).length : Int) = cnt k p
 | 0 => rfl
 | k + 1 => by
  rw [cnt_succ, ← pickT_len p k]
  cases h : p k with
  | true => rw [pickT_yes h]; simp
  | false => rw [pickT_no h]; simp
theorem pickT_le (p : Nat → Bool) (k : Nat) : (pickT p k).length ≤ k := by
 have h1 := pickT_len p k
 have h2 := cnt_bnd p k
 omega
theorem pickT_mem {p : Nat → Bool} {k : Nat} {x : Int} (h : x ∈ pickT p k) : ∃ v : Nat, x = v ∧ v < k ∧ p v = true := by
 unfold pickT at h
 obtain ⟨v, h1, rfl⟩ := List.mem_map.1 h
 obtain ⟨h2, h3⟩ := List.mem_filter.1 h1
 exact ⟨v, rfl, List.mem_range.1 h2, h3⟩
theorem pickT_head {p : Nat → Bool} {k j : Nat} (hj : j < k) (h : p j = true) : 0 < (pickT p k).length ∧ ∃ v : Nat, gi (pickT p k) 0 = v ∧ v < k ∧ p v = true := by
 have hm : (j : Int) ∈ pickT p k := by
  unfold pickT
  exact List.mem_map.2 ⟨j, List.mem_filter.2 ⟨List.mem_range.2 hj, h⟩, rfl⟩
 have hp : 0 < (pickT p k).length := List.length_pos_of_mem hm
 exact ⟨hp, pickT_mem (by rw [gi_lt hp]; exact List.getElem_mem hp)⟩
theorem cen_less {l : List Int} {k : Nat} (h : gi l k < mn0 (l.take k)) (hk : k < l.length) : mn0 (l.take (k + 1)) = gi l k ∧ pickT (fun j => gi l j == gi l k) (k + 1) = [(k : Int)] := by
 refine ⟨by rw [mn0_take l hk]; omega, ?_⟩
 rw [pickT_yes (by simp), pickT_none fun j hj => ?_]
 ·rfl
 ·have hjl : j < (l.take k).length := by rw [List.length_take]; omega
  have h1 : gi l j ∈ l.take k := by
   have e : gi l j = (l.take k)[j] := by rw [gi_lt (by omega), List.getElem_take]
   rw [e]; exact List.getElem_mem hjl
  have := mn0_le h1
  have hne : gi l j ≠ gi l k := by omega
  simpa using hne
def shl (l : List Int) (D k : Nat) : List Int := tab D fun d => cnt k fun j => gi l j == d
theorem shl_zero (l : List Int) (D : Nat) : shl l D 0 = List.replicate D 0 := by
 unfold shl tab
 refine List.ext_getElem (by simp) fun i h1 h2 => ?_
 simp [cnt, sumTo]
theorem shl_len (l : List Int) (D k : Nat) : (shl l D k).length = D := tab_len _ _
theorem shl_neg {l : List Int} {D k : Nat} (h : gi l k < 0) : shl l D (k + 1) = shl l D k := by
 refine ints_ext' (by rw [shl_len, shl_len]) fun d hd => ?_
 rw [shl_len] at hd
 have hne : gi l k ≠ (d : Int) := by omega
 unfold shl
 rw [gi_tab hd, gi_tab hd, cnt_succ, if_neg (by simpa using hne), Int.add_zero]
theorem shl_hit {l : List Int} {D k m : Nat} (h : gi l k = m) (hm : m < D) : shl l D (k + 1) = (shl l D k).set m (gi (shl l D k) m + 1) := by
 refine ints_ext' (by rw [List.length_set, shl_len, shl_len]) fun d hd => ?_
 rw [shl_len] at hd
 rw [gi_set (by rw [shl_len]; exact hm)]
 unfold shl
 rw [gi_tab hd, gi_tab hm, cnt_succ]
 by_cases e : d = m
 ·subst e; rw [if_pos rfl, if_pos (by simp [h])]
 ·rw [if_neg e, gi_tab hd]
  have hne : gi l k ≠ (d : Int) := by omega
  rw [if_neg (by simpa using hne), Int.add_zero]
end Go.Proofs.YtdiiggpohcjppaaGreat
