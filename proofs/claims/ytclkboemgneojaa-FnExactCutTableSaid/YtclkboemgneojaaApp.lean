/- append at slices of int that the call owns. -/
import Derived.Test.YtclkboemgneojaaChecked
import Derived.Test.YtclkboemgneojaaFun
namespace Go.Proofs.Ytclkboemgneojaa
open Go.RowKit

theorem int_inf : (Try.prog.info? 3).map (fun i => (i.zero, i.size, i.bytes)) = some (some (.int .i64 0), 1, 8) := by kernel_rfl

/-- append(v, q) -/
theorem wpList_append_int (w : World) {ops : Array Oper} {rest : List Oper} {o : Oper} {a : Act} {Q : Exit → Act → World → Prop} (hgd : o.guard = none) (s x : Operand)
    (ho : o.op = .call { callee := .builtin .append, args := #[s, x], argTypes := #[38, 38] })
    (B : Nat) (v : Value) (xs : List Int) (hs : a.eval s = v) (hown : OwnI w B v xs) (g : Nat) (q : Int) (hx : a.eval x = .slice (some ⟨g, 0, none⟩) 1 1) (hg : w.cell? ⟨g, 0, none⟩ = some (.int .i64 q))
    (hn : xs.length ≤ 4194304) (hB : B ≤ w.heap.size)
    (h : ∀ A c w', OwnI w' B (.slice A (xs.length + 1) c) (xs ++ [q]) → w.grownBy w' v.ownBlock → wpList Try.prog ops Q rest (a.put o.dst (.slice A (xs.length + 1) c)) w') : wpList Try.prog ops Q (o :: rest) a w := by
  obtain ⟨i0, hi, hz0, hz1, hz2⟩ := info_parts int_inf
  refine wpList_append_own_at w hgd s x _ ho B 3 i0 _ 1 8 Try.underlying38 hi hz0 hz1 hz2 rfl (by omega) v xs.length (ic xs) hs hown ⟨g, 0, none⟩ 1 1 [.int .i64 q] hx rfl ?_ ?_ ?_ ?_ hB ?_
  · intro j u hu
    rcases j with _ | j
    · simp at hu; subst hu; exact hg
    · simp at hu
  · simp [Value.oneCell']
  · unfold maxLen; omega
  · omega
  · intro v' w' ho' hgr _ _
    have ho2 : OwnI w' B v' (xs ++ [q]) := by
      unfold OwnI ic
      simpa [ic] using ho'
    obtain ⟨A, c, rfl⟩ := ho2.shape
    simp only [List.length_append, List.length_cons, List.length_nil, Nat.zero_add] at ho2 ⊢
    exact h A c w' ho2 hgr

/-- append(v, u...) with u of no element: v -/
theorem run_append_nil (w : World) (B : Nat) (ty : TypeId) (v : Value) (xs : List Int) (hown : OwnI w B v xs) (c : Nat) :
    (Builtin.append_ #[38, 38] ty #[v, .slice none 0 c]).run Try.prog w = .ok v w := by
  obtain ⟨i0, hi, hz0, hz1, hz2⟩ := info_parts int_inf
  rcases hown.2 with ⟨rfl, h0⟩ | ⟨g, cap, cur, rfl, _, _, hnc, _⟩
  · simp [Builtin.append_, run_underlying Try.underlying38, sizeOf, typeInfo, hi, Builtin.lenOf, Builtin.firstCells]
  · simp [Builtin.append_, run_underlying Try.underlying38, sizeOf, typeInfo, hi, Builtin.lenOf, Builtin.firstCells, hnc, storeCells]

theorem addr_add (b off j : Nat) : (⟨b, off, none⟩ : Addr).add j = ⟨b, off + j, none⟩ := by
  unfold Addr.add
  split <;> simp_all

/-- append(v, u...) -/
theorem wpList_append_ints {S : Nat → Prop} (w : World) {ops : Array Oper} {rest : List Oper} {o : Oper} {a : Act} {Q : Exit → Act → World → Prop} (hgd : o.guard = none) (s x : Operand)
    (ho : o.op = .call { callee := .builtin .append, args := #[s, x], argTypes := #[38, 38] })
    (B : Nat) (v : Value) (xs : List Int) (hs : a.eval s = v) (hown : OwnI w B v xs) (u : Value) (ys : List Int) (hx : a.eval x = u) (hu : IntsR w S u ys)
    (hn : xs.length + ys.length ≤ 4194304) (hB : B ≤ w.heap.size)
    (h : ∀ A c w', OwnI w' B (.slice A (xs.length + ys.length) c) (xs ++ ys) → w.grownBy w' v.ownBlock → wpList Try.prog ops Q rest (a.put o.dst (.slice A (xs.length + ys.length) c)) w') : wpList Try.prog ops Q (o :: rest) a w := by
  obtain ⟨i0, hi, hz0, hz1, hz2⟩ := info_parts int_inf
  obtain ⟨A, c, rfl, hnc, hm, hc⟩ := hu
  rcases A with _ | ad
  · have h0 : ys.length = 0 := by
      rcases Nat.eq_zero_or_pos ys.length with h | h
      · exact h
      · obtain ⟨b, off, hA, _⟩ := hc h
        cases hA
    obtain rfl : ys = [] := List.eq_nil_of_length_eq_zero h0
    obtain ⟨A, c', rfl⟩ := hown.shape
    have h2 := h A c' w (by simpa using hown) (World.grownBy.refl _ _)
    refine wpList_plain hgd fun K hK => ?_
    have hrun := run_append_nil w B o.type _ xs hown c
    unfold Oper.wp
    simp only [List.length_nil, Nat.add_zero] at hx h2
    simp [execOp, ho, resolve, invoke, builtin, hs, hx, hrun, Result.andThen]
    exact hK _ _ h2
  · refine wpList_append_own_at w hgd s x _ ho B 3 i0 _ 1 8 Try.underlying38 hi hz0 hz1 hz2 rfl (by omega) v xs.length (ic xs) hs hown ad ys.length c (ic ys) hx (by simp [ic]) ?_ ?_ ?_ ?_ hB ?_
    · intro j u hu
      by_cases hj : j < ys.length
      · obtain ⟨b, off, hA, -, hcell⟩ := hc (by omega)
        have hA' := Option.some.inj hA
        rw [ic_get hj] at hu
        have hu' := Option.some.inj hu
        rw [hA', ← hu', ← hcell j hj, addr_add]
      · rw [List.getElem?_eq_none (by simp [ic]; omega)] at hu
        cases hu
    · intro u hu
      simp only [ic, List.mem_map] at hu
      obtain ⟨z, _, rfl⟩ := hu
      rfl
    · unfold maxLen; omega
    · omega
    · intro v' w' ho' hgr _ _
      have ho2 : OwnI w' B v' (xs ++ ys) := by
        unfold OwnI ic
        simpa [ic] using ho'
      obtain ⟨A, c, rfl⟩ := ho2.shape
      simp only [List.length_append] at ho2 ⊢
      exact h A c w' ho2 hgr

theorem OwnI.made {w : World} {B : Nat} (cs : Array Value) (hc : cs.size = 0) (hB : B ≤ w.heap.size) : OwnI (w.alloc (.cells cs 3)) B (.slice (some ⟨w.heap.size, 0, none⟩) 0 0) [] :=
  World.ownsRow_made w cs 0 hB (by simp [maxLen]) (by simpa using hc)

theorem below_grown {B : Nat} {w0 w w' : World} {v : Value} {xs : List Int} (h : Below B w0 w) (ho : OwnI w B v xs) (hg : w.grownBy w' v.ownBlock) (hB : B ≤ w.heap.size) : Below B w0 w' :=
  h.grown hg hB fun k hk => (World.ownsRow.lt ho k hk).1
theorem OwnI.alloc {w : World} {B : Nat} {v : Value} {xs : List Int} (h : OwnI w B v xs) (o : Obj) : OwnI (w.alloc o) B v xs := World.ownsRow.alloc h o
theorem OwnI.drewN {w : World} {B : Nat} {v : Value} {xs : List Int} (h : OwnI w B v xs) (n : Nat) : OwnI (w.drewN n) B v xs := h
theorem cell_one (w : World) (t : TypeId) (v : Value) : (w.alloc (.cells #[v] t)).cell? ⟨w.heap.size, 0, none⟩ = some v := by
  rw [cell_of_row (w.alloc (.cells #[v] t)) w.heap.size 0 #[v] t (0, 0) (heap_alloc_new w _)]
  rfl
theorem Blk.grown {w w' : World} {g : Nat} {t : TypeId} {cs : Array Value} {row : Option Nat} (h : Blk w g t cs) (hb : w.grownBy w' row) (hg : some g ≠ row) : Blk w' g t cs := (hb.block g h.lt hg).trans h
theorem OwnI.ne {w : World} {B g : Nat} {v : Value} {xs : List Int} (h : OwnI w B v xs) (hg : g < B) : some g ≠ v.ownBlock := fun e => by
  have := (World.ownsRow.lt h g e.symm).1
  omega
theorem OwnI.put {w : World} {B g n cap j : Nat} {xs : List Int} (h : OwnI w B (.slice (some ⟨g, 0, none⟩) n cap) xs) (hn : n = xs.length) (q : Int) : OwnI (w.setCell ⟨g, j, none⟩ (.int .i64 q)) B (.slice (some ⟨g, 0, none⟩) n cap) (xs.set j q) := by
  subst hn
  have := (World.ownsRow.stored h j (.int .i64 q)).1
  unfold OwnI
  rw [List.length_set]
  simpa [ic, List.map_set] using this
theorem OwnI.at_ {w : World} {B g n cap j : Nat} {xs : List Int} (h : OwnI w B (.slice (some ⟨g, 0, none⟩) n cap) xs) (hn : n = xs.length) (hj : j < n) : w.cell? ⟨g, j, none⟩ = some (.int .i64 (gi xs j)) ∧ w.frozen? ⟨g, j, none⟩ = false := by
  subst hn
  exact ⟨(World.ownsRow.cellAt h j (by omega)).trans (ic_get hj), World.ownsRow.frozenAt h j⟩
theorem OwnI.addr {w : World} {B : Nat} {v : Value} {xs : List Int} (h : OwnI w B v xs) (hp : 0 < xs.length) : ∃ g cap, v = .slice (some ⟨g, 0, none⟩) xs.length cap ∧ B ≤ g ∧ g < w.heap.size ∧ xs.length ≤ cap ∧ cap ≤ 9223372036854775807 := by
  rcases h.2 with ⟨rfl, h0⟩ | ⟨g, cap, cur, rfl, hB, hg, hn, hm, _⟩
  · omega
  · exact ⟨g, cap, rfl, hB, (Array.getElem?_eq_some_iff.1 hg).1, hn, by unfold maxLen at hm; omega⟩
theorem OwnI.nil {w : World} {B : Nat} : OwnI w B (.slice none 0 0) [] := World.ownsRow_nil _ _ _ _
end Go.Proofs.Ytclkboemgneojaa
