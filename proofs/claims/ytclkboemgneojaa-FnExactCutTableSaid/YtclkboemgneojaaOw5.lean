/- append onto slices of ints that the call owns, with where the new one lies. No program's function in sight. -/
import Derived.Test.YtclkboemgneojaaOw2
namespace Go.Proofs.Ytclkboemgneojaa
open Go.RowKit

theorem run_append_intsL {S : Nat → Prop} (w : World) (ty : TypeId) (B : Nat) (v : Value) (xs : List Int) (hown : OwnI w B v xs) (u : Value) (ys : List Int) (hu : IntsR w S u ys) (hn : xs.length + ys.length ≤ 4194304) (hB : B ≤ w.heap.size) :
    ∃ A c w', (Builtin.append_ #[38, 38] ty #[v, u]).run Try.prog w = .ok (.slice A (xs.length + ys.length) c) w' ∧ OwnI w' B (.slice A (xs.length + ys.length) c) (xs ++ ys) ∧ w.grownBy w' v.ownBlock ∧ Lies w v (.slice A (xs.length + ys.length) c) := by
  obtain ⟨i0, hi, hz0, hz1, hz2⟩ := info_parts int_inf
  obtain ⟨A, c, rfl, hnc, hm, hc⟩ := hu
  rcases A with _ | ad
  · have h0 : ys.length = 0 := by
      rcases Nat.eq_zero_or_pos ys.length with h | h
      · exact h
      · obtain ⟨b, off, hA, _⟩ := hc h
        cases hA
    obtain rfl : ys = [] := List.eq_nil_of_length_eq_zero h0
    obtain ⟨A, c', rfl⟩ := hown.shape
    exact ⟨A, c', w, run_append_nil w B ty _ xs hown c, by simpa using hown, World.grownBy.refl _ _, fun g hg => .inl hg⟩
  · obtain ⟨v', w', hr, h2, h3, h4, h5⟩ := run_append_own_at (P := Try.prog) w B 38 ty 3 i0 _ 1 8 Try.underlying38 hi hz0 hz1 hz2 rfl (by omega) v xs.length (ic xs) hown ad ys.length c (ic ys) (by simp [ic]) (by
        intro j q hq
        by_cases hj : j < ys.length
        · obtain ⟨b, off, hA, -, hcell⟩ := hc (by omega)
          have hA' := Option.some.inj hA
          rw [ic_get hj] at hq
          have hq' := Option.some.inj hq
          rw [hA', ← hq', ← hcell j hj, addr_add]
        · rw [List.getElem?_eq_none (by simp [ic]; omega)] at hq
          cases hq) (by
        intro q hq
        simp only [ic, List.mem_map] at hq
        obtain ⟨z, _, rfl⟩ := hq
        rfl) (by unfold maxLen; omega) (by omega) hB
    have ho2 : OwnI w' B v' (xs ++ ys) := by
      unfold OwnI ic
      simpa [ic] using h2
    obtain ⟨A', c', rfl⟩ := ho2.shape
    rw [List.length_append] at hr ho2 h5
    refine ⟨A', c', w', hr, ho2, h3, fun g hg => ?_⟩
    rcases h5 with h5 | h5
    · exact .inl (h5 ▸ hg)
    · rw [hg] at h5; exact .inr (Option.some.inj h5)

theorem step_append_intsL {S : Nat → Prop} (w : World) {ops : Array Oper} {o : Oper} {a : Act} {K : Act → World → Prop} {Q : Exit → Act → World → Prop} {E : Prop} (hgd : o.guard = none) (s x : Operand)
    (ho : o.op = .call { callee := .builtin .append, args := #[s, x], argTypes := #[38, 38] })
    (B : Nat) (v : Value) (xs : List Int) (hs : a.eval s = v) (hown : OwnI w B v xs) (u : Value) (ys : List Int) (hx : a.eval x = u) (hu : IntsR w S u ys) (hn : xs.length + ys.length ≤ 4194304) (hB : B ≤ w.heap.size)
    (h : ∀ A c w', OwnI w' B (.slice A (xs.length + ys.length) c) (xs ++ ys) → w.grownBy w' v.ownBlock → Lies w v (.slice A (xs.length + ys.length) c) → K (a.put o.dst (.slice A (xs.length + ys.length) c)) w') :
    if Region.wanted o (yielded ops a.tmps) = true then Oper.wp Try.prog o a w K Q else E := by
  have hw : Region.wanted o (yielded ops a.tmps) = true := by simp [Region.wanted, hgd]
  rw [if_pos hw]
  obtain ⟨A, c, w', hr, h2, h3, h4⟩ := run_append_intsL w o.type B v xs hown u ys hu hn hB
  unfold Oper.wp execOp
  simp only [ho, resolve, invoke, builtin, Sem.run_bind, Sem.run_pure, Result.andThen_ok, List.map_toArray, List.map_cons, List.map_nil, hs, hx, hr]
  exact h A c w' h2 h3 h4
theorem wpList_append_intsL {S : Nat → Prop} (w : World) {ops : Array Oper} {rest : List Oper} {o : Oper} {a : Act} {Q : Exit → Act → World → Prop} (hgd : o.guard = none) (s x : Operand)
    (ho : o.op = .call { callee := .builtin .append, args := #[s, x], argTypes := #[38, 38] })
    (B : Nat) (v : Value) (xs : List Int) (hs : a.eval s = v) (hown : OwnI w B v xs) (u : Value) (ys : List Int) (hx : a.eval x = u) (hu : IntsR w S u ys) (hn : xs.length + ys.length ≤ 4194304) (hB : B ≤ w.heap.size)
    (h : ∀ A c w', OwnI w' B (.slice A (xs.length + ys.length) c) (xs ++ ys) → w.grownBy w' v.ownBlock → Lies w v (.slice A (xs.length + ys.length) c) → wpList Try.prog ops Q rest (a.put o.dst (.slice A (xs.length + ys.length) c)) w') :
    wpList Try.prog ops Q (o :: rest) a w := by
  refine wpList_plain hgd fun K hK => ?_
  obtain ⟨A, c, w', hr, h2, h3, h4⟩ := run_append_intsL w o.type B v xs hown u ys hu hn hB
  unfold Oper.wp execOp
  simp only [ho, resolve, invoke, builtin, Sem.run_bind, Sem.run_pure, Result.andThen_ok, List.map_toArray, List.map_cons, List.map_nil, hs, hx, hr]
  exact hK _ _ (h A c w' h2 h3 h4)

/-- two owned lists of ints, each in a block of its own -/
def Apart (v1 v2 : Value) : Prop := ∀ g, v1.ownBlock = some g → v2.ownBlock ≠ some g
theorem Apart.symm {v1 v2 : Value} (h : Apart v1 v2) : Apart v2 v1 := fun g h2 h1 => h g h1 h2
/-- the first has grown: the second is as it was, and still apart -/
theorem OwnI.beside {w w' : World} {B : Nat} {v1 v1' v2 : Value} {ys : List Int} (h2 : OwnI w B v2 ys) (ha : Apart v1 v2) (hg : w.grownBy w' v1.ownBlock) (hl : Lies w v1 v1') : OwnI w' B v2 ys ∧ Apart v1' v2 := by
  refine ⟨h2.keepO fun b hb => hg.block b (h2.blk b hb).2 (fun e => ha b e.symm hb), fun g hg1 hg2 => ?_⟩
  rcases hl g hg1 with h | h
  · exact ha g h hg2
  · have := (h2.blk g hg2).2; omega
end Go.Proofs.Ytclkboemgneojaa
