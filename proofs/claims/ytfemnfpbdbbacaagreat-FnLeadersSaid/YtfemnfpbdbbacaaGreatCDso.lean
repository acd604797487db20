/- A slice of numbers of one's own is sorted in place: over data. -/
import Derived.Test.YtfemnfpbdbbacaaGreatCJn27
import Derived.Test.YtfemnfpbdbbacaaGreatCJn32
import Derived.Test.YtfemnfpbdbbacaaGreatCDt
set_option linter.unusedSimpArgs false
set_option linter.unusedVariables false
namespace Go.Proofs.YtfemnfpbdbbacaaGreat
open Go Go.RowKit Go.Sort
section
variable {P : Program} {w0 : Base} {e : Env} {a : Act} {w : World} {val : Val} {S : Nat → Prop}
def Ba (ys xs : List Int) (m : Nat) : List Int := ys.take m ++ xs.drop m
theorem R8 {ys xs : List Int} (hl : ys.length = xs.length) (m : Nat) : (Ba ys xs m).length = xs.length := by
 simp [Ba]; omega
theorem R7 {ys xs : List Int} {m : Nat} (hl : ys.length = xs.length) (hm : m < ys.length) : (Ba ys xs m).set m (gi ys m) = Ba ys xs (m + 1) := by
 unfold Ba;rw [List.take_succ_eq_append_getElem hm, ← bn hm, List.drop_eq_getElem_cons (show m < xs.length by omega), List.set_append_right _ _ (by simp; omega)];have : m - (ys.take m).length = 0 := by simp; omega
 rw [this, List.set_cons_zero, List.append_assoc]; rfl
theorem Cs {ys : List Int} {o m : Nat} {cur : Array Value} (hm : m < ys.length) (hs : o + ys.length ≤ cur.size) : (putCells (Value.int .i64) o (ys.take m).toArray cur).setIfInBounds (o + (m * 1 + 0)) (.int .i64 (gi ys m)) = putCells (Value.int .i64) o (ys.take (m + 1)).toArray cur := by
 have e1 : (ys.take m).length = m := by simp; omega
 have e2 : (ys.take (m + 1)).length = m + 1 := by simp; omega
 apply Array.ext
 ·simp [putCells]
 ·intro i h1 h2;have hi : i < cur.size := by simpa [putCells] using h2
  rw [Array.getElem_setIfInBounds (by simpa [putCells] using hi)];simp only [putCells, Array.getElem_mapIdx, List.size_toArray, e1, e2]
  by_cases hio : o + (m * 1 + 0) = i
  ·subst hio;rw [if_pos rfl, if_pos (by omega), show o + (m * 1 + 0) - o = m by omega]
   have h3 : (List.take (m + 1) ys).toArray[m]! = gi ys m := by
    have h4 : m < (List.take (m + 1) ys).toArray.size := by simp; omega
    rw [getElem!_pos (List.take (m + 1) ys).toArray m h4, bn hm]; simp
   rw [h3]
  ·rw [if_neg hio]
   by_cases h3 : o ≤ i ∧ i < o + m
   ·rw [if_pos h3, if_pos ⟨h3.1, by omega⟩];have h4 : i - o < (List.take m ys).toArray.size := by simp; omega
    have h5 : i - o < (List.take (m + 1) ys).toArray.size := by simp; omega
    rw [getElem!_pos (List.take m ys).toArray (i - o) h4, getElem!_pos (List.take (m + 1) ys).toArray (i - o) h5]; simp
   ·rw [if_neg h3, if_neg (by omega)]
theorem zz {r t b o cap : Nat} {xs ys : List Int} {cur : Array Value} (h : StV w0 e a w val S) (hc : e.con (r, 0) = some ⟨none, [.sl true t 1 (xs.map iC)]⟩) (hv : val (r, 0) [(0, 0)] = .slice (some ⟨b, o, none⟩) xs.length cap) (hb : w.heap[b]? = some (.cells cur t (0, 0))) (hsz : o + xs.length ≤ cur.size) (hl : ys.length = xs.length) : ∀ m, m ≤ ys.length → ∃ e' w' val', StV w0 e' a w' val' S ∧ e'.n = e.n ∧ e'.s = e.s ∧ (∀ key, key ≠ (r, 0) → e'.con key = e.con key) ∧ e'.con (r, 0) = some ⟨none, [.sl true t 1 ((Ba ys xs m).map iC)]⟩ ∧ e'.gen = e.gen ∧ (∀ x, x ≠ r → e'.dirty x = e.dirty x) ∧ (∀ d ∈ e'.dirty r, d ∈ e.dirty r ∨ [(0, 0)] <+: d) ∧ val' (r, 0) [(0, 0)] = .slice (some ⟨b, o, none⟩) xs.length cap ∧ w'.heap.size = w.heap.size ∧ (∀ k, k ≠ b → w'.heap[k]? = w.heap[k]?) ∧ w'.heap[b]? = some (.cells (putCells (Value.int .i64) o (ys.take m).toArray cur) t (0, 0)) ∧ w'.os = w.os ∧ w'.tape = w.tape ∧ w'.output = w.output
 | 0, _ => ⟨e, w, val, h, rfl, rfl, fun _ _ => rfl, by rw [hc]; simp [Ba], rfl, fun _ _ => rfl, fun _ hd => .inl hd, hv, rfl, fun _ _ => rfl, by
  rw [hb]
  have : putCells (Value.int .i64) o (ys.take 0).toArray cur = cur := by
   apply Array.ext
   ·simp [putCells]
   ·intro i h1 h2;simp only [putCells, Array.getElem_mapIdx, List.take_zero, List.size_toArray, List.length_nil];rw [if_neg (by omega)]
  rw [this], rfl, rfl, rfl⟩
 | m + 1, hm => by
  obtain ⟨e1, w1, val1, g1, g2, g3, g4, g5, g6, g7, g8, g9, g10, g11, g12, g13, g14, g15⟩ := zz h hc hv hb hsz hl m (by omega);have hml := R8 hl m
  have hlook : look [C.sl true t 1 ((Ba ys xs m).map iC)] ([(0, 0)] ++ [(m, 0)]) = some (.p (.int .i64 (gi (Ba ys xs m) m))) :=
   (fc (by simp)).2 ⟨t, 1, _, cw _ 0, bt (by omega)⟩
  have g16 := g1.putC (r := r) (p' := [(0, 0)]) (j := m) (q := 0) (k := 1) (b := b) (o := o) (y := .p (.int .i64 (gi ys m))) (u := .int .i64 (gi ys m)) g5 hlook (.inr ⟨by simp, ⟨_, _, g9⟩, fun t' k' rows hh => by rw [cw] at hh; cases hh; rfl⟩) rfl (RO.p _);refine ⟨_, _, _, g16, g2, g3, fun key hk => ?_, ?_, g6, fun x hx => ?_, fun d hd => ?_, ?_, ?_, fun k hk => ?_, ?_, ?_, ?_, ?_⟩
  ·simp [Env.put, hk, g4 key hk]
  ·simp only [Env.put, if_true, g5, Option.map_some, puts, List.cons_append, List.nil_append, List.modify_zero_cons, C.put, se, R7 hl (show m < ys.length by omega)]
  ·simp [Env.put, hx, g7 x hx]
  ·simp only [Env.put, if_true] at hd
   rcases List.mem_cons.1 hd with rfl | hd
   ·exact .inr ⟨[(m, 0)], rfl⟩
   ·exact g8 d hd
  ·rw [cx (by simp)]; exact g9
  ·rw [← g10]; simp [World.setCell]
  ·rw [← g11 k hk];exact Below.heap_setCell w1 ⟨b, o + (m * 1 + 0), none⟩ _ k hk
  ·have : (w1.setCell ⟨b, o + (m * 1 + 0), none⟩ (.int .i64 (gi ys m))).heap[b]? = some (.cells ((putCells (Value.int .i64) o (ys.take m).toArray cur).setIfInBounds (o + (m * 1 + 0)) (.int .i64 (gi ys m))) t (0, 0)) := by
    simp [World.setCell, Array.getElem?_modify, g12]
   rw [this, Cs (by omega) (by omega)]
  ·rw [← g13]; rfl
  ·rw [← g14]; rfl
  ·rw [← g15]; rfl
end
end Go.Proofs.YtfemnfpbdbbacaaGreat
