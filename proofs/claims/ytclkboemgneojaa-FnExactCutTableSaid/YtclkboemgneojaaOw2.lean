/- append onto slices of pairs, and onto slices of such slices, that the call owns; at a step of a region that draws, and in a plain list. No program's function in sight. -/
import Derived.Test.YtclkboemgneojaaOw1
namespace Go.Proofs.Ytclkboemgneojaa
open Go.RowKit

/-- the new value lies where the old one lay, or in the block that is made now -/
def Lies (w : World) (v v' : Value) : Prop := ∀ g, v'.ownBlock = some g → v.ownBlock = some g ∨ g = w.heap.size

theorem run_append_ends {S : Nat → Prop} (w : World) (ty : TypeId) (B : Nat) (v : Value) (xs : List (Int × Int)) (hown : OwnE w B v xs) (u : Value) (ys : List (Int × Int)) (hu : EndsR w S u ys) (hn : xs.length + ys.length ≤ 1048576) (hB : B ≤ w.heap.size) :
    ∃ A c w', (Builtin.append_ #[46, 46] ty #[v, u]).run Try.prog w = .ok (.slice A (xs.length + ys.length) c) w' ∧ OwnE w' B (.slice A (xs.length + ys.length) c) (xs ++ ys) ∧ w.grownBy w' v.ownBlock ∧ Lies w v (.slice A (xs.length + ys.length) c) := by
  obtain ⟨i0, hi, hz0, hz1, hz2⟩ := info_parts endInf
  obtain ⟨A, c, rfl, hnc, hm, hc⟩ := hu
  rcases A with _ | ad
  · have h0 : ys.length = 0 := by
      rcases Nat.eq_zero_or_pos ys.length with h | h
      · exact h
      · obtain ⟨b, off, hA, _⟩ := hc h
        cases hA
    obtain rfl : ys = [] := List.eq_nil_of_length_eq_zero h0
    obtain ⟨A, c', rfl⟩ := hown.shape
    refine ⟨A, c', w, ?_, by simpa using hown, World.grownBy.refl _ _, fun g hg => .inl hg⟩
    rcases hown.2 with ⟨h1, h0⟩ | ⟨g, cap, cur, h1, _, _, hnc, _⟩
    · obtain rfl : xs = [] := List.eq_nil_of_length_eq_zero h0
      cases h1
      simp [Builtin.append_, run_underlying Try.underlying46, sizeOf, typeInfo, hi, Builtin.lenOf, Builtin.firstCells]
    · cases h1
      simp [Builtin.append_, run_underlying Try.underlying46, sizeOf, typeInfo, hi, Builtin.lenOf, Builtin.firstCells, hnc, storeCells]
  · obtain ⟨v', w', hr, h2, h3, h4, h5⟩ := run_append_own_at (P := Try.prog) w B 46 ty 48 i0 _ 2 16 Try.underlying46 hi hz0 hz1 hz2 rfl (by omega) v xs.length (pc xs) hown ad ys.length c (pc ys) (pc_length ys) (by
        intro j q hq
        have hjl : j < ys.length * 2 := by
          have := (List.getElem?_eq_some_iff.1 hq).1
          rw [pc_length] at this; exact this
        obtain ⟨b, off, hA, -, hcell⟩ := hc (by omega)
        have hA' := Option.some.inj hA
        rw [hA', addr_add]
        obtain ⟨k, hk⟩ : ∃ k, j = k * 2 ∨ j = k * 2 + 1 := ⟨j / 2, by omega⟩
        rcases hk with rfl | rfl
        · have := (pc_get (es := ys) (j := k) (by omega)).1
          rw [this] at hq
          rw [← Option.some.inj hq]
          exact (hcell k (by omega)).1
        · have := (pc_get (es := ys) (j := k) (by omega)).2
          rw [this] at hq
          rw [← Option.some.inj hq]
          exact (hcell k (by omega)).2) pc_one (by unfold maxLen; omega) (by omega) hB
    have ho2 : OwnE w' B v' (xs ++ ys) := by
      unfold OwnE
      rw [List.length_append, pc_append]; exact h2
    obtain ⟨A', c', rfl⟩ := ho2.shape
    rw [List.length_append] at hr ho2 h5
    refine ⟨A', c', w', hr, ho2, h3, fun g hg => ?_⟩
    rcases h5 with h5 | h5
    · exact .inl (h5 ▸ hg)
    · rw [hg] at h5; exact .inr (Option.some.inj h5)

theorem step_append_ends {S : Nat → Prop} (w : World) {ops : Array Oper} {o : Oper} {a : Act} {K : Act → World → Prop} {Q : Exit → Act → World → Prop} {E : Prop} (hgd : o.guard = none) (s x : Operand)
    (ho : o.op = .call { callee := .builtin .append, args := #[s, x], argTypes := #[46, 46] })
    (B : Nat) (v : Value) (xs : List (Int × Int)) (hs : a.eval s = v) (hown : OwnE w B v xs) (u : Value) (ys : List (Int × Int)) (hx : a.eval x = u) (hu : EndsR w S u ys) (hn : xs.length + ys.length ≤ 1048576) (hB : B ≤ w.heap.size)
    (h : ∀ A c w', OwnE w' B (.slice A (xs.length + ys.length) c) (xs ++ ys) → w.grownBy w' v.ownBlock → Lies w v (.slice A (xs.length + ys.length) c) → K (a.put o.dst (.slice A (xs.length + ys.length) c)) w') :
    if Region.wanted o (yielded ops a.tmps) = true then Oper.wp Try.prog o a w K Q else E := by
  have hw : Region.wanted o (yielded ops a.tmps) = true := by simp [Region.wanted, hgd]
  rw [if_pos hw]
  obtain ⟨A, c, w', hr, h2, h3, h4⟩ := run_append_ends w o.type B v xs hown u ys hu hn hB
  unfold Oper.wp execOp
  simp only [ho, resolve, invoke, builtin, Sem.run_bind, Sem.run_pure, Result.andThen_ok, List.map_toArray, List.map_cons, List.map_nil, hs, hx, hr]
  exact h A c w' h2 h3 h4
theorem wpList_append_ends {S : Nat → Prop} (w : World) {ops : Array Oper} {rest : List Oper} {o : Oper} {a : Act} {Q : Exit → Act → World → Prop} (hgd : o.guard = none) (s x : Operand)
    (ho : o.op = .call { callee := .builtin .append, args := #[s, x], argTypes := #[46, 46] })
    (B : Nat) (v : Value) (xs : List (Int × Int)) (hs : a.eval s = v) (hown : OwnE w B v xs) (u : Value) (ys : List (Int × Int)) (hx : a.eval x = u) (hu : EndsR w S u ys) (hn : xs.length + ys.length ≤ 1048576) (hB : B ≤ w.heap.size)
    (h : ∀ A c w', OwnE w' B (.slice A (xs.length + ys.length) c) (xs ++ ys) → w.grownBy w' v.ownBlock → Lies w v (.slice A (xs.length + ys.length) c) → wpList Try.prog ops Q rest (a.put o.dst (.slice A (xs.length + ys.length) c)) w') :
    wpList Try.prog ops Q (o :: rest) a w := by
  refine wpList_plain hgd fun K hK => ?_
  obtain ⟨A, c, w', hr, h2, h3, h4⟩ := run_append_ends w o.type B v xs hown u ys hu hn hB
  unfold Oper.wp execOp
  simp only [ho, resolve, invoke, builtin, Sem.run_bind, Sem.run_pure, Result.andThen_ok, List.map_toArray, List.map_cons, List.map_nil, hs, hx, hr]
  exact hK _ _ (h A c w' h2 h3 h4)

/-- one pair in a block of its own, as a source -/
theorem EndsR.one {w : World} {g : Nat} {t : TypeId} {a b : Int} (h : Blk w g t #[.int .i64 a, .int .i64 b]) : EndsR w (fun _ => True) (.slice (some ⟨g, 0, none⟩) 1 1) [(a, b)] :=
  ⟨_, 1, rfl, Nat.le_refl _, by simp [maxLen], fun _ => ⟨g, 0, rfl, trivial, fun j hj => by
    obtain rfl : j = 0 := by simpa using hj
    rw [h.cell, h.cell]
    exact ⟨rfl, rfl⟩⟩⟩

/-- append(v, u): one slice of pairs more. What u holds, and that it lies apart, is the caller's to say. -/
theorem run_append_slice (w : World) (ty : TypeId) (B : Nat) (v : Value) (n : Nat) (us : List Value) (hown : w.ownsRow B 46 1 v n us) (g : Nat) (A1 : Option Addr) (n1 c1 : Nat) (hg : Blk w g 46 #[.slice A1 n1 c1]) (hn : n ≤ 1048576) (hB : B ≤ w.heap.size) :
    ∃ A c w', (Builtin.append_ #[37, 37] ty #[v, .slice (some ⟨g, 0, none⟩) 1 1]).run Try.prog w = .ok (.slice A (n + 1) c) w' ∧ w'.ownsRow B 46 1 (.slice A (n + 1) c) (n + 1) (us ++ [.slice A1 n1 c1]) ∧ w.grownBy w' v.ownBlock ∧ Lies w v (.slice A (n + 1) c) := by
  obtain ⟨i0, hi, hz0, hz1, hz2⟩ := info_parts endsInf
  obtain ⟨v', w', hr, h2, h3, h4, h5⟩ := run_append_own_at (P := Try.prog) w B 37 ty 46 i0 _ 1 24 Try.underlying37 hi hz0 hz1 hz2 rfl (by omega) v n us hown ⟨g, 0, none⟩ 1 1 [.slice A1 n1 c1] rfl (by
      intro j q hq
      rcases j with _ | j
      · simp at hq; subst hq
        rw [addr_add, hg.cell]; rfl
      · simp at hq) (by simp [Value.oneCell']) (by unfold maxLen; omega) (by omega) hB
  rcases h2.2 with ⟨_, h0⟩ | ⟨g', cap, cur, rfl, hrest⟩
  · omega
  · refine ⟨_, cap, w', hr, h2, h3, fun k hk => ?_⟩
    rcases h5 with h5 | h5
    · exact .inl (h5 ▸ hk)
    · rw [hk] at h5; exact .inr (Option.some.inj h5)
theorem step_append_slice (w : World) {ops : Array Oper} {o : Oper} {a : Act} {K : Act → World → Prop} {Q : Exit → Act → World → Prop} {E : Prop} (hgd : o.guard = none) (s x : Operand)
    (ho : o.op = .call { callee := .builtin .append, args := #[s, x], argTypes := #[37, 37] })
    (B : Nat) (v : Value) (n : Nat) (us : List Value) (hs : a.eval s = v) (hown : w.ownsRow B 46 1 v n us) (g : Nat) (A1 : Option Addr) (n1 c1 : Nat) (hx : a.eval x = .slice (some ⟨g, 0, none⟩) 1 1) (hg : Blk w g 46 #[.slice A1 n1 c1]) (hn : n ≤ 1048576) (hB : B ≤ w.heap.size)
    (h : ∀ A c w', w'.ownsRow B 46 1 (.slice A (n + 1) c) (n + 1) (us ++ [.slice A1 n1 c1]) → w.grownBy w' v.ownBlock → Lies w v (.slice A (n + 1) c) → K (a.put o.dst (.slice A (n + 1) c)) w') :
    if Region.wanted o (yielded ops a.tmps) = true then Oper.wp Try.prog o a w K Q else E := by
  have hw : Region.wanted o (yielded ops a.tmps) = true := by simp [Region.wanted, hgd]
  rw [if_pos hw]
  obtain ⟨A, c, w', hr, h2, h3, h4⟩ := run_append_slice w o.type B v n us hown g A1 n1 c1 hg hn hB
  unfold Oper.wp execOp
  simp only [ho, resolve, invoke, builtin, Sem.run_bind, Sem.run_pure, Result.andThen_ok, List.map_toArray, List.map_cons, List.map_nil, hs, hx, hr]
  exact h A c w' h2 h3 h4
theorem wpList_append_slice (w : World) {ops : Array Oper} {rest : List Oper} {o : Oper} {a : Act} {Q : Exit → Act → World → Prop} (hgd : o.guard = none) (s x : Operand)
    (ho : o.op = .call { callee := .builtin .append, args := #[s, x], argTypes := #[37, 37] })
    (B : Nat) (v : Value) (n : Nat) (us : List Value) (hs : a.eval s = v) (hown : w.ownsRow B 46 1 v n us) (g : Nat) (A1 : Option Addr) (n1 c1 : Nat) (hx : a.eval x = .slice (some ⟨g, 0, none⟩) 1 1) (hg : Blk w g 46 #[.slice A1 n1 c1]) (hn : n ≤ 1048576) (hB : B ≤ w.heap.size)
    (h : ∀ A c w', w'.ownsRow B 46 1 (.slice A (n + 1) c) (n + 1) (us ++ [.slice A1 n1 c1]) → w.grownBy w' v.ownBlock → Lies w v (.slice A (n + 1) c) → wpList Try.prog ops Q rest (a.put o.dst (.slice A (n + 1) c)) w') :
    wpList Try.prog ops Q (o :: rest) a w := by
  refine wpList_plain hgd fun K hK => ?_
  obtain ⟨A, c, w', hr, h2, h3, h4⟩ := run_append_slice w o.type B v n us hown g A1 n1 c1 hg hn hB
  unfold Oper.wp execOp
  simp only [ho, resolve, invoke, builtin, Sem.run_bind, Sem.run_pure, Result.andThen_ok, List.map_toArray, List.map_cons, List.map_nil, hs, hx, hr]
  exact hK _ _ (h A c w' h2 h3 h4)
end Go.Proofs.Ytclkboemgneojaa
