/- Rows of which equal neighbours are kept once: plain facts, rows in memory. -/
import Derived.Test.YtjoimponfeofkaaGreatCJn28
import Derived.Laws.StructEq
import Derived.Lib.SliceRun
namespace Go.Proofs.YtjoimponfeofkaaGreat
open Go.RowKit

theorem ddR_snoc : ∀ {l : List RowT} {x : RowT}, l ≠ [] → ddR (l ++ [x]) = if ga l (l.length - 1) = x then ddR l else ddR l ++ [x]
  | [], _, h => absurd rfl h
  | [a], x, _ => by
    simp only [List.cons_append, List.nil_append, ddR, List.length_cons, List.length_nil, ga, List.getD_cons_zero, Nat.zero_add, Nat.sub_self]
    by_cases h : a = x
    · subst h; simp
    · simp [h]
  | a :: b :: l, x, _ => by
    have ih := ddR_snoc (l := b :: l) (x := x) (by simp)
    have e : ga (a :: b :: l) ((a :: b :: l).length - 1) = ga (b :: l) ((b :: l).length - 1) := by simp [ga]
    rw [e, List.cons_append]
    show ddR (a :: (b :: l ++ [x])) = _
    have e2 : ∀ m : List RowT, ddR (a :: b :: m) = if a = b then ddR (b :: m) else a :: ddR (b :: m) := fun m => rfl
    have e3 : ddR (a :: (b :: l ++ [x])) = if a = b then ddR (b :: l ++ [x]) else a :: ddR (b :: l ++ [x]) := rfl
    rw [e3, ih, e2]
    by_cases h2 : ga (b :: l) ((b :: l).length - 1) = x
    · simp only [if_pos h2]
    · simp only [if_neg h2]
      by_cases h1 : a = b <;> simp [h1]
theorem ddR_take {d : List RowT} {m : Nat} (h0 : 0 < m) (hm : m < d.length) : ddR (d.take (m + 1)) = if ga d m = ga d (m - 1) then ddR (d.take m) else ddR (d.take m) ++ [ga d m] := by
  have hl : (d.take m).length = m := by simp; omega
  rw [List.take_succ_eq_append_getElem hm, ddR_snoc (by intro e; rw [e] at hl; simp at hl; omega), hl]
  have e1 : ga (d.take m) (m - 1) = ga d (m - 1) := by simp [ga, List.getElem?_take_of_lt (show m - 1 < m by omega)]
  rw [e1, ga_lt hm]
  by_cases h : ga d (m - 1) = d[m]
  · rw [if_pos h, if_pos h.symm]
  · rw [if_neg h, if_neg (fun e => h e.symm)]
theorem ddR_plain {d : List RowT} {m : Nat} (hm : m ≤ d.length) (h : ∀ i, 0 < i → i < m → ga d i ≠ ga d (i - 1)) : ddR (d.take m) = d.take m := by
  induction m with
  | zero => simp [ddR]
  | succ m ih =>
    by_cases h0 : m = 0
    · subst h0
      cases d with
      | nil => simp at hm
      | cons a d => simp [ddR]
    · rw [ddR_take (by omega) (by omega), if_neg (h m (by omega) (by omega)), ih (by omega) (fun i h1 h2 => h i h1 (by omega)), List.take_succ_eq_append_getElem (by omega), ga_lt (by omega)]

theorem eqlRow (x y : RowT) (w : World) : (binOp .eql 76 (.agg #[.string x.1, .int .i64 x.2]) (.agg #[.string y.1, .int .i64 y.2])).run Tryz.prog w = .ok (.bool (decide (x = y))) w := by
  have u3 := Tryz.underlying3
  have a3 := Tryz.isAgg3
  have z3 := Tryz.sizeOf3
  have u9 := Tryz.underlying9
  have a9 := Tryz.isAgg9
  have z9 := Tryz.sizeOf9
  have hS : Tryz.prog.underlying 76 = some (.struct (Tryz.prog.fieldsOf 76)) := by kernel_rfl
  have hp : Tryz.prog.stoodInHeld 76 = false := by kernel_rfl
  rw [run_eql_struct, show (10000 : Nat) = 9999 + 1 from rfl, run_equalIn_agg w 9999 _ _ _ hS hp]
  simp only [Program.fieldsOf, Tryz.underlying76]
  go_simp
  have hs : (x.1.toList == y.1.toList) = decide (x.1 = y.1) := by
    rw [Bool.eq_iff_iff, beq_iff_eq, decide_eq_true_eq]
    exact ⟨fun h => bytes_ext (by rw [← ByteArray.toList_eq, ← ByteArray.toList_eq]; exact h), fun h => by rw [h]⟩
  have hs' : (x.1.toList = y.1.toList) = (x.1 = y.1) := propext (by rw [← beq_iff_eq, hs, decide_eq_true_eq])
  by_cases h1 : x.1 = y.1 <;> by_cases h2 : x.2 = y.2 <;> simp [h1, h2, hs, hs', Prod.ext_iff]
theorem neqRow (x y : RowT) (w : World) : (binOp .neq 76 (.agg #[.string x.1, .int .i64 x.2]) (.agg #[.string y.1, .int .i64 y.2])).run Tryz.prog w = .ok (.bool (!decide (x = y))) w := by
  have h := eqlRow x y w
  rw [run_eql_struct] at h
  rw [run_neq_struct]
  cases hr : (Op.equalIn 10000 76 (.agg #[.string x.1, .int .i64 x.2]) (.agg #[.string y.1, .int .i64 y.2])).run Tryz.prog w with
  | ok b w' =>
    rw [hr] at h
    simp only [Result.andThen, Result.ok.injEq, Value.bool.injEq] at h ⊢
    exact ⟨by rw [h.1], h.2⟩
  | halt a w' => rw [hr] at h; simp [Result.andThen] at h

theorem heap_setCells (g : Nat) : ∀ (vs : List Value) (o : Nat) (w : World) (c : Array Value) (t : TypeId) (fr : Nat × Nat), w.heap[g]? = some (.cells c t fr) →
    ∃ c', (w.setCells g o vs).heap[g]? = some (.cells c' t fr) ∧ c'.size = c.size ∧ ∀ i, i < o → c'[i]? = c[i]?
  | [], o, w, c, t, fr, h => ⟨c, h, rfl, fun _ _ => rfl⟩
  | v :: vs, o, w, c, t, fr, h => by
    have h1 : (w.setCell ⟨g, o, none⟩ v).heap[g]? = some (.cells (c.setIfInBounds o v) t fr) := by simp [World.setCell, Array.getElem?_modify, h]
    obtain ⟨c', h2, h3, h4⟩ := heap_setCells g vs (o + 1) _ _ t fr h1
    refine ⟨c', h2, by simpa using h3, fun i hi => ?_⟩
    rw [h4 i (by omega), Array.getElem?_setIfInBounds_ne (by omega)]
theorem grown_setCells (g : Nat) : ∀ (vs : List Value) (o : Nat) (w : World), w.grownBy (w.setCells g o vs) (some g)
  | [], _, w => World.grownBy.refl w _
  | v :: vs, o, w => (grown_set1 w g o v).trans (grown_setCells g vs (o + 1) _)
/-- the rows ahead of a place stay when the rest is cleared -/
theorem own_front {t : TypeId} {w w' : World} {B g n cap : Nat} {L : List RowT} {k : Nat} (h : OwnG encR t w B (.slice (some ⟨g, 0, none⟩) n cap) L) (hk : k ≤ L.length)
    (hw : ∀ c fr, w.heap[g]? = some (.cells c t fr) → ∃ c', w'.heap[g]? = some (.cells c' t fr) ∧ c'.size = c.size ∧ ∀ i, i < k * 2 → c'[i]? = c[i]?) : OwnG encR t w' B (.slice (some ⟨g, 0, none⟩) k cap) (L.take k) := by
  rcases h.2 with ⟨h1, _⟩ | ⟨g', cap', cur, hv, hB, hg, hn, hm, hs, ht⟩
  · cases h1
  cases hv
  obtain ⟨c', h1, h2, h3⟩ := hw _ _ hg
  have hl : (L.take k).length = k := by simp; omega
  have e2 : encR.k = 2 := rfl
  have hcl := encR.cells_length L
  have hsz : L.length * 2 ≤ cur.size := by rw [e2] at hs hcl ht; have := congrArg List.length ht; rw [hcl] at this; simp at this; omega
  refine ⟨by rw [encR.cells_length, hl], .inr ⟨g, cap, c', by rw [hl], hB, h1, by omega, hm, by rw [h2]; exact hs, ?_⟩⟩
  apply List.ext_getElem?
  intro i
  rw [e2] at ht ⊢
  by_cases hi : i < k * 2
  · rw [hl, List.getElem?_take_of_lt hi, Array.getElem?_toList, h3 i hi]
    have g1 := encR.cells_get (xs := L.take k) (j := i / 2) (i := i % 2) (by rw [hl]; omega) (by rw [e2]; omega)
    have g2 := encR.cells_get (xs := L) (j := i / 2) (i := i % 2) (by omega) (by rw [e2]; omega)
    rw [e2, show i / 2 * 2 + i % 2 = i by omega] at g1 g2
    have g3 : ga (L.take k) (i / 2) = ga L (i / 2) := by simp [ga, List.getElem?_take_of_lt (show i / 2 < k by omega)]
    rw [g1, g3, ← g2, ← ht, List.getElem?_take_of_lt (by omega), Array.getElem?_toList]
  · rw [List.getElem?_eq_none (by simp [hl]; omega), List.getElem?_eq_none (by rw [encR.cells_length, hl, e2]; omega)]
theorem OwnG.set2 {t : TypeId} {w : World} {B g n cap : Nat} {L : List RowT} {k : Nat} (h : OwnG encR t w B (.slice (some ⟨g, 0, none⟩) n cap) L) (hk : k < L.length) (r : RowT) :
    OwnG encR t ((w.setCell ⟨g, k * 2, none⟩ (.string r.1)).setCell ⟨g, k * 2 + 1, none⟩ (.int .i64 r.2)) B (.slice (some ⟨g, 0, none⟩) n cap) (L.set k r) := by
  rcases h.2 with ⟨h1, _⟩ | ⟨g', cap', cur, hv, hB, hg, hn, hm, hs, ht⟩
  · cases h1
  cases hv
  have e2 : encR.k = 2 := rfl
  have hsl : (L.set k r).length = L.length := by simp
  have hcl := encR.cells_length L
  have hg' : ((w.setCell ⟨g, k * 2, none⟩ (.string r.1)).setCell ⟨g, k * 2 + 1, none⟩ (.int .i64 r.2)).heap[g]? = some (.cells ((cur.setIfInBounds (k * 2) (.string r.1)).setIfInBounds (k * 2 + 1) (.int .i64 r.2)) t (0, 0)) := by
    simp [World.setCell, Array.getElem?_modify, hg]
  refine ⟨by rw [encR.cells_length, hsl], .inr ⟨g, cap, _, by rw [hsl], hB, hg', by omega, hm, by simpa using hs, ?_⟩⟩
  have hcs : L.length * 2 ≤ cur.size := by rw [e2] at hs; omega
  apply List.ext_getElem?
  intro i
  rw [e2] at ht hcl
  rw [e2, hsl]
  by_cases hi : i < L.length * 2
  · rw [List.getElem?_take_of_lt hi, Array.getElem?_toList]
    have g1 := encR.cells_get (xs := L.set k r) (j := i / 2) (i := i % 2) (by rw [hsl]; omega) (by rw [e2]; omega)
    have g2 := encR.cells_get (xs := L) (j := i / 2) (i := i % 2) (by omega) (by rw [e2]; omega)
    rw [e2, show i / 2 * 2 + i % 2 = i by omega] at g1 g2
    rw [g1]
    by_cases h1 : i = k * 2 + 1
    · subst h1
      rw [Array.getElem?_setIfInBounds_self_of_lt (by simp; omega)]
      simp [ga, show (k * 2 + 1) / 2 = k by omega, hk, encR]
    · by_cases h2 : i = k * 2
      · subst h2
        rw [Array.getElem?_setIfInBounds_ne (by omega), Array.getElem?_setIfInBounds_self_of_lt (by omega)]
        simp [ga, hk, encR]
      · rw [Array.getElem?_setIfInBounds_ne (by omega), Array.getElem?_setIfInBounds_ne (by omega)]
        have g3 : ga (L.set k r) (i / 2) = ga L (i / 2) := by simp [ga, List.getElem?_set, show k ≠ i / 2 by omega]
        rw [g3, ← g2, ← ht, List.getElem?_take_of_lt hi, Array.getElem?_toList]
  · rw [List.getElem?_eq_none (by simp; omega), List.getElem?_eq_none (by rw [encR.cells_length, hsl, e2]; omega)]
end Go.Proofs.YtjoimponfeofkaaGreat
