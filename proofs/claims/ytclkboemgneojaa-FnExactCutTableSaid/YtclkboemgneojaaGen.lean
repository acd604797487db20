/- Slices of elements of k cells each, in memory that came in and in memory of the call's own; append onto one that the call owns. No program's function in sight. -/
import Derived.Test.YtclkboemgneojaaOw2
namespace Go.Proofs.Ytclkboemgneojaa
open Go.RowKit

/-- how an element stands in k cells -/
structure Enc (α : Type) where
  k : Nat
  enc : α → List Value
  len : ∀ x, (enc x).length = k
  pos : 0 < k
  one : ∀ x, ∀ v ∈ enc x, v.oneCell' = true
variable {α : Type}
section
variable [Inhabited α]
/-- the element at a place -/
def ga (xs : List α) (j : Nat) : α := xs.getD j default
theorem ga_lt {xs : List α} {j : Nat} (h : j < xs.length) : ga xs j = xs[j] := by simp [ga, h]
theorem ga_get {xs : List α} {j : Nat} (h : j < xs.length) : xs[j]? = some (ga xs j) := by simp [ga, h]
theorem ga_mem {xs : List α} {j : Nat} (h : j < xs.length) : ga xs j ∈ xs := by rw [ga_lt h]; exact List.getElem_mem h
theorem take_ga {xs : List α} {k : Nat} (h : k < xs.length) : xs.take (k + 1) = xs.take k ++ [ga xs k] := by
  rw [List.take_succ_eq_append_getElem h, ga_lt h]
theorem drop_ga {xs : List α} {k : Nat} (h : k < xs.length) : xs.drop k = ga xs k :: xs.drop (k + 1) := by
  rw [List.drop_eq_getElem_cons h, ga_lt h]
end

def Enc.cells (E : Enc α) (xs : List α) : List Value := xs.flatMap E.enc
theorem Enc.cells_length (E : Enc α) (xs : List α) : (E.cells xs).length = xs.length * E.k := by
  induction xs with
  | nil => simp [Enc.cells]
  | cons x xs ih => simp only [Enc.cells, List.flatMap_cons, List.length_append, List.length_cons, E.len] at ih ⊢; rw [ih, Nat.add_mul, Nat.one_mul, Nat.add_comm]
theorem Enc.cells_append (E : Enc α) (xs ys : List α) : E.cells (xs ++ ys) = E.cells xs ++ E.cells ys := by simp [Enc.cells]
theorem Enc.cells_get [Inhabited α] (E : Enc α) {xs : List α} {j i : Nat} (hj : j < xs.length) (hi : i < E.k) : (E.cells xs)[j * E.k + i]? = (E.enc (ga xs j))[i]? := by
  induction xs generalizing j with
  | nil => simp at hj
  | cons x xs ih =>
    have e1 : E.cells (x :: xs) = E.enc x ++ E.cells xs := by simp [Enc.cells]
    rw [e1]
    rcases j with _ | j
    · rw [Nat.zero_mul, Nat.zero_add, List.getElem?_append_left (by rw [E.len]; exact hi)]; simp [ga]
    · have h1 : (j + 1) * E.k + i = E.k + (j * E.k + i) := by rw [Nat.add_mul, Nat.one_mul]; omega
      rw [h1, List.getElem?_append_right (by rw [E.len]; omega), E.len, Nat.add_sub_cancel_left, ih (by simpa using hj)]
      simp [ga]
theorem Enc.cells_one (E : Enc α) (xs : List α) : ∀ v ∈ E.cells xs, v.oneCell' = true := by
  intro v hv
  simp only [Enc.cells, List.mem_flatMap] at hv
  obtain ⟨x, _, h⟩ := hv
  exact E.one x v h

/-- a slice of such elements; its block meets S -/
def SlR [Inhabited α] (E : Enc α) (w : World) (S : Nat → Prop) (v : Value) (xs : List α) : Prop :=
  ∃ A c, v = .slice A xs.length c ∧ xs.length ≤ c ∧ c ≤ maxLen ∧
    (0 < xs.length → ∃ b off, A = some ⟨b, off, none⟩ ∧ S b ∧ b < w.heap.size ∧ ∀ j, j < xs.length → ∀ i, i < E.k → w.cell? ⟨b, off + j * E.k + i, none⟩ = (E.enc (ga xs j))[i]?)
section
variable [Inhabited α] {E : Enc α} {w w' : World} {S S' : Nat → Prop} {v : Value} {xs : List α}
theorem SlR.keep (h : SlR E w S v xs) (hS : ∀ b, S b → S' b) (hs : w.heap.size ≤ w'.heap.size) (hk : ∀ b, S b → b < w.heap.size → w'.heap[b]? = w.heap[b]?) : SlR E w' S' v xs := by
  obtain ⟨A, c, hv, h1, h2, h3⟩ := h
  refine ⟨A, c, hv, h1, h2, fun hn => ?_⟩
  obtain ⟨b, off, hA, hb, hl, hc⟩ := h3 hn
  exact ⟨b, off, hA, hS b hb, by omega, fun j hj i hi => (World.cell?_of_block (hk b hb hl)).trans (hc j hj i hi)⟩
theorem SlR.below (h : SlR E w S v xs) (hb : Below w.heap.size w w') : SlR E w' S v xs := h.keep (fun _ h => h) hb.size fun b _ hl => hb.block b hl
theorem SlR.weak (h : SlR E w S v xs) (hS : ∀ b, S b → S' b) : SlR E w S' v xs := h.keep hS (Nat.le_refl _) fun _ _ _ => rfl
theorem SlR.nil : SlR E w S (.slice none 0 0) [] := ⟨none, 0, rfl, Nat.le_refl _, by simp [maxLen], fun h => absurd h (Nat.lt_irrefl _)⟩
theorem SlR.bound (h : SlR E w S v xs) : xs.length ≤ 9223372036854775807 := by
  obtain ⟨A, c, hv, h1, h2, h3⟩ := h
  unfold maxLen at h2; omega
end

/-- a slice of such elements that the call owns -/
def OwnG (E : Enc α) (T : TypeId) (w : World) (B : Nat) (v : Value) (xs : List α) : Prop := w.ownsRow B T E.k v xs.length (E.cells xs)
section
variable {E : Enc α} {T : TypeId} {w w' : World} {B B' : Nat} {v : Value} {xs : List α}
theorem OwnG.keepB (h : OwnG E T w B v xs) (hk : ∀ b, v.ownBlock = some b → w'.heap[b]? = w.heap[b]?) : OwnG E T w' B v xs := by
  obtain ⟨h1, h2⟩ := h
  refine ⟨h1, ?_⟩
  rcases h2 with h2 | ⟨g, cap, cur, rfl, hB, hg, h⟩
  · exact .inl h2
  · exact .inr ⟨g, cap, cur, rfl, hB, (hk g rfl).trans hg, h⟩
theorem OwnG.lt (h : OwnG E T w B v xs) : ∀ g, v.ownBlock = some g → B ≤ g ∧ g < w.heap.size := fun g hg => World.ownsRow.lt h g hg
theorem OwnG.below (h : OwnG E T w B v xs) (hb : Below w.heap.size w w') : OwnG E T w' B v xs := h.keepB fun b hv => hb.block b (h.lt b hv).2
theorem OwnG.grown {gc : Nat} (h : OwnG E T w B v xs) (hg : w.grownBy w' (some gc)) (hB : gc < B) : OwnG E T w' B v xs := h.keepB fun b hv => hg.block b (h.lt b hv).2 (by have := (h.lt b hv).1; simp; omega)
theorem OwnG.mono (h : OwnG E T w B v xs) (hB : B' ≤ B) : OwnG E T w B' v xs := by
  obtain ⟨h1, h2⟩ := h
  refine ⟨h1, ?_⟩
  rcases h2 with h2 | ⟨g, cap, cur, hv, hb, h⟩
  · exact .inl h2
  · exact .inr ⟨g, cap, cur, hv, by omega, h⟩
theorem OwnG.shape (h : OwnG E T w B v xs) : ∃ A c, v = .slice A xs.length c := by
  rcases h.2 with ⟨rfl, hn⟩ | ⟨g, cap, cur, rfl, _⟩
  · exact ⟨none, 0, by rw [hn]⟩
  · exact ⟨_, _, rfl⟩
theorem OwnG.nil : OwnG E T w B (.slice none 0 0) [] := World.ownsRow_nil _ _ _ _
theorem OwnG.made (cs : Array Value) (hc : cs.size = 0) (hB : B ≤ w.heap.size) : OwnG E T (w.alloc (.cells cs T)) B (.slice (some ⟨w.heap.size, 0, none⟩) 0 0) [] :=
  World.ownsRow_made w cs 0 hB (by simp [maxLen]) (by simpa using hc)
theorem OwnG.type (h : OwnG E T w B v xs) : ∀ g, v.ownBlock = some g → ∃ cs, w.heap[g]? = some (.cells cs T (0, 0)) := by
  intro g hg
  rcases h.2 with ⟨rfl, hn⟩ | ⟨g', cap, cur, rfl, hB, hh, _⟩
  · cases hg
  · cases hg; exact ⟨cur, hh⟩
theorem OwnG.addr (h : OwnG E T w B v xs) (hp : 0 < xs.length) : ∃ g cap, v = .slice (some ⟨g, 0, none⟩) xs.length cap ∧ B ≤ g ∧ g < w.heap.size ∧ xs.length ≤ cap ∧ cap ≤ maxLen := by
  rcases h.2 with ⟨rfl, h0⟩ | ⟨g, cap, cur, rfl, hB, hg, hn, hm, _⟩
  · omega
  · exact ⟨g, cap, rfl, hB, (Array.getElem?_eq_some_iff.1 hg).1, hn, hm⟩
theorem OwnG.at_ [Inhabited α] {g n cap j : Nat} (h : OwnG E T w B (.slice (some ⟨g, 0, none⟩) n cap) xs) (hj : j < xs.length) :
    (∀ i, i < E.k → w.cell? ⟨g, j * E.k + i, none⟩ = (E.enc (ga xs j))[i]?) ∧ (∀ i, w.frozen? ⟨g, i, none⟩ = false) := by
  rcases h.2 with ⟨h1, _⟩ | ⟨g', cap', cur, hv, hB, hg, hn, hm, hs, ht⟩
  · cases h1
  · cases hv
    refine ⟨fun i hi => ?_, fun i => World.ownsRow.frozenAt h i⟩
    have hl := h.1
    rw [E.cells_length] at hl
    have p1 := E.cells_get hj hi
    have hlt : j * E.k + i < xs.length * E.k := by
      have : (j + 1) * E.k ≤ xs.length * E.k := Nat.mul_le_mul_right _ hj
      rw [Nat.add_mul, Nat.one_mul] at this; omega
    rw [← ht, List.getElem?_take_of_lt (by omega)] at p1
    rw [cell_of_row w g (j * E.k + i) cur _ (0, 0) hg]
    simpa using p1
theorem OwnG.slr [Inhabited α] {S : Nat → Prop} (h : OwnG E T w B v xs) (hS : ∀ b, B ≤ b → b < w.heap.size → S b) : SlR E w S v xs := by
  rcases h.2 with ⟨rfl, hn⟩ | ⟨g, cap, cur, rfl, hB, hg, hnc, hm, hs, ht⟩
  · exact ⟨none, 0, by rw [hn], by omega, by simp [maxLen], fun h => absurd h (by omega)⟩
  · refine ⟨_, cap, rfl, hnc, hm, fun hp => ⟨g, 0, rfl, hS g hB (Array.getElem?_eq_some_iff.1 hg).1, (Array.getElem?_eq_some_iff.1 hg).1, fun j hj i hi => ?_⟩⟩
    rw [Nat.zero_add]
    exact (h.at_ hj).1 i hi
theorem OwnG.slrB [Inhabited α] (h : OwnG E T w B v xs) : SlR E w (fun b => B ≤ b) v xs := h.slr fun _ h _ => h
end

/-- what the walk of an append needs of the slice's type and of its elements' type -/
structure ElemT (P : Program) (E : Enc α) (st T : TypeId) where
  i : TypeInfo
  z : Value
  bytes : Nat
  ht : P.underlying st = some (.slice T)
  hi : P.info? T = some i
  hz : i.zero = some z
  hsize : i.size = E.k
  hby : i.bytes = bytes
  hzs : z.cells.size = E.k
  small : bytes ≤ 4096
theorem ElemT.of {P : Program} {E : Enc α} {st T : TypeId} {z : Value} {n bytes : Nat} (ht : P.underlying st = some (.slice T)) (hinf : (P.info? T).map (fun i => (i.zero, i.size, i.bytes)) = some (some z, n, bytes)) (hn : n = E.k) (hzs : z.cells.size = E.k) (hs : bytes ≤ 4096) : Nonempty (ElemT P E st T) := by
  obtain ⟨i0, hi, hz0, hz1, hz2⟩ := info_parts hinf
  exact ⟨⟨i0, z, bytes, ht, hi, hz0, hz1.trans hn, hz2, hzs, hs⟩⟩

section
variable [Inhabited α] {P : Program} {E : Enc α} {st T : TypeId}
theorem run_append_G (M : Nonempty (ElemT P E st T)) {S : Nat → Prop} (w : World) (ty : TypeId) (B : Nat) (v : Value) (xs : List α) (hown : OwnG E T w B v xs) (u : Value) (ys : List α) (hu : SlR E w S u ys) (hn : xs.length + ys.length ≤ 4194304) (hB : B ≤ w.heap.size) :
    ∃ A c w', (Builtin.append_ #[st, st] ty #[v, u]).run P w = .ok (.slice A (xs.length + ys.length) c) w' ∧ OwnG E T w' B (.slice A (xs.length + ys.length) c) (xs ++ ys) ∧ w.grownBy w' v.ownBlock ∧ Lies w v (.slice A (xs.length + ys.length) c) := by
  obtain ⟨M⟩ := M
  obtain ⟨A, c, rfl, hnc, hm, hc⟩ := hu
  rcases A with _ | ad
  · have h0 : ys.length = 0 := by
      rcases Nat.eq_zero_or_pos ys.length with h | h
      · exact h
      · obtain ⟨b, off, hA, _⟩ := hc h
        cases hA
    obtain rfl : ys = [] := List.eq_nil_of_length_eq_zero h0
    obtain ⟨A, c', rfl⟩ := hown.shape
    refine ⟨A, c', w, ?_, by simpa using hown, World.grownBy.refl _ _, fun g hg => .inl hg⟩
    rcases hown.2 with ⟨h1, h0⟩ | ⟨g, cap, cur, h1, _, _, hnc, _⟩
    · obtain rfl : xs = [] := List.eq_nil_of_length_eq_zero h0
      cases h1
      simp [Builtin.append_, run_underlying M.ht, sizeOf, typeInfo, M.hi, Builtin.lenOf, Builtin.firstCells]
    · cases h1
      simp [Builtin.append_, run_underlying M.ht, sizeOf, typeInfo, M.hi, Builtin.lenOf, Builtin.firstCells, hnc, storeCells]
  · have hby : (xs.length + ys.length) * M.bytes ≤ 140737488355328 := by
      have := Nat.mul_le_mul hn M.small
      omega
    obtain ⟨v', w', hr, h2, h3, h4, h5⟩ := run_append_own_at (P := P) w B st ty T M.i M.z E.k M.bytes M.ht M.hi M.hz M.hsize M.hby M.hzs E.pos v xs.length (E.cells xs) hown ad ys.length c (E.cells ys) (E.cells_length ys) (by
        intro j q hq
        have hjl : j < ys.length * E.k := by
          have := (List.getElem?_eq_some_iff.1 hq).1
          rw [E.cells_length] at this; exact this
        have hyp : 0 < ys.length := by
          rcases Nat.eq_zero_or_pos ys.length with h | h
          · rw [h] at hjl; omega
          · exact h
        obtain ⟨b, off, hA, -, -, hcell⟩ := hc hyp
        have hA' := Option.some.inj hA
        rw [hA', addr_add]
        have hi : j % E.k < E.k := Nat.mod_lt _ E.pos
        have hj : j / E.k < ys.length := Nat.div_lt_of_lt_mul (by rw [Nat.mul_comm]; exact hjl)
        have hd : j / E.k * E.k + j % E.k = j := by rw [Nat.mul_comm]; exact Nat.div_add_mod j E.k
        have k1 := hcell (j / E.k) hj (j % E.k) hi
        have k2 := E.cells_get hj hi
        rw [hd] at k2
        rw [Nat.add_assoc, hd] at k1
        rw [k1, ← k2, hq]) (E.cells_one ys) (by unfold maxLen; omega) hby hB
    have ho2 : OwnG E T w' B v' (xs ++ ys) := by
      unfold OwnG
      rw [List.length_append, E.cells_append]; exact h2
    obtain ⟨A', c', rfl⟩ := ho2.shape
    rw [List.length_append] at hr ho2 h5
    refine ⟨A', c', w', hr, ho2, h3, fun g hg => ?_⟩
    rcases h5 with h5 | h5
    · exact .inl (h5 ▸ hg)
    · rw [hg] at h5; exact .inr (Option.some.inj h5)
theorem step_append_G (M : Nonempty (ElemT P E st T)) {S : Nat → Prop} (w : World) {ops : Array Oper} {o : Oper} {a : Act} {K : Act → World → Prop} {Q : Exit → Act → World → Prop} {X : Prop} (hgd : o.guard = none) (s x : Operand)
    (ho : o.op = .call { callee := .builtin .append, args := #[s, x], argTypes := #[st, st] })
    (B : Nat) (v : Value) (xs : List α) (hs : a.eval s = v) (hown : OwnG E T w B v xs) (u : Value) (ys : List α) (hx : a.eval x = u) (hu : SlR E w S u ys) (hn : xs.length + ys.length ≤ 4194304) (hB : B ≤ w.heap.size)
    (h : ∀ A c w', OwnG E T w' B (.slice A (xs.length + ys.length) c) (xs ++ ys) → w.grownBy w' v.ownBlock → Lies w v (.slice A (xs.length + ys.length) c) → K (a.put o.dst (.slice A (xs.length + ys.length) c)) w') :
    if Region.wanted o (yielded ops a.tmps) = true then Oper.wp P o a w K Q else X := by
  have hw : Region.wanted o (yielded ops a.tmps) = true := by simp [Region.wanted, hgd]
  rw [if_pos hw]
  obtain ⟨A, c, w', hr, h2, h3, h4⟩ := run_append_G M w o.type B v xs hown u ys hu hn hB
  unfold Oper.wp execOp
  simp only [ho, resolve, invoke, builtin, Sem.run_bind, Sem.run_pure, Result.andThen_ok, List.map_toArray, List.map_cons, List.map_nil, hs, hx, hr]
  exact h A c w' h2 h3 h4
theorem wpList_append_G (M : Nonempty (ElemT P E st T)) {S : Nat → Prop} (w : World) {ops : Array Oper} {rest : List Oper} {o : Oper} {a : Act} {Q : Exit → Act → World → Prop} (hgd : o.guard = none) (s x : Operand)
    (ho : o.op = .call { callee := .builtin .append, args := #[s, x], argTypes := #[st, st] })
    (B : Nat) (v : Value) (xs : List α) (hs : a.eval s = v) (hown : OwnG E T w B v xs) (u : Value) (ys : List α) (hx : a.eval x = u) (hu : SlR E w S u ys) (hn : xs.length + ys.length ≤ 4194304) (hB : B ≤ w.heap.size)
    (h : ∀ A c w', OwnG E T w' B (.slice A (xs.length + ys.length) c) (xs ++ ys) → w.grownBy w' v.ownBlock → Lies w v (.slice A (xs.length + ys.length) c) → wpList P ops Q rest (a.put o.dst (.slice A (xs.length + ys.length) c)) w') :
    wpList P ops Q (o :: rest) a w := by
  refine wpList_plain hgd fun K hK => ?_
  obtain ⟨A, c, w', hr, h2, h3, h4⟩ := run_append_G M w o.type B v xs hown u ys hu hn hB
  unfold Oper.wp execOp
  simp only [ho, resolve, invoke, builtin, Sem.run_bind, Sem.run_pure, Result.andThen_ok, List.map_toArray, List.map_cons, List.map_nil, hs, hx, hr]
  exact hK _ _ (h A c w' h2 h3 h4)
end

/-- one element in a block of its own, as a source -/
theorem SlR.one [Inhabited α] {E : Enc α} {w : World} {g : Nat} {t : TypeId} {x : α} (h : Blk w g t (E.enc x).toArray) : SlR E w (fun _ => True) (.slice (some ⟨g, 0, none⟩) 1 1) [x] :=
  ⟨_, 1, rfl, Nat.le_refl _, by simp [maxLen], fun _ => ⟨g, 0, rfl, trivial, h.lt, fun j hj i hi => by
    obtain rfl : j = 0 := by simpa using hj
    rw [Nat.zero_mul, Nat.zero_add, h.cell]
    simp [ga]⟩⟩

/-- owned slices, each in a block of its own: the first has grown -/
theorem OwnG.beside {β : Type} {E : Enc β} {T : TypeId} {w w' : World} {B : Nat} {v1 v1' v2 : Value} {ys : List β} (h2 : OwnG E T w B v2 ys) (ha : ∀ g, v1.ownBlock = some g → v2.ownBlock ≠ some g) (hg : w.grownBy w' v1.ownBlock) (hl : Lies w v1 v1') :
    OwnG E T w' B v2 ys ∧ (∀ g, v1'.ownBlock = some g → v2.ownBlock ≠ some g) := by
  refine ⟨h2.keepB fun b hb => hg.block b (h2.lt b hb).2 (fun e => ha b e.symm hb), fun g hg1 hg2 => ?_⟩
  rcases hl g hg1 with h | h
  · exact ha g h hg2
  · have := (h2.lt g hg2).2; omega

/-- strings, pointers to blocks' heads, rows of a string and a number -/
def encS : Enc ByteArray := ⟨1, fun s => [.string s], fun _ => rfl, by omega, fun x v hv => by simp at hv; subst hv; rfl⟩
def encP : Enc Nat := ⟨1, fun q => [.pointer (some ⟨q, 0, none⟩)], fun _ => rfl, by omega, fun x v hv => by simp at hv; subst hv; rfl⟩
def encR : Enc (ByteArray × Int) := ⟨2, fun r => [.string r.1, .int .i64 r.2], fun _ => rfl, by omega, fun x v hv => by simp at hv; rcases hv with rfl | rfl <;> rfl⟩
theorem SlR.atS {w : World} {S : Nat → Prop} {A : Option Addr} {n c : Nat} {xs : List ByteArray} (h : SlR encS w S (.slice A n c) xs) (hp : 0 < xs.length) :
    n = xs.length ∧ ∃ b off, A = some ⟨b, off, none⟩ ∧ S b ∧ b < w.heap.size ∧ ∀ j, j < xs.length → w.cell? ⟨b, off + j, none⟩ = some (.string (ga xs j)) := by
  obtain ⟨A', c', hv, h1, h2, h3⟩ := h
  cases hv
  obtain ⟨b, off, rfl, hS, hl, hc⟩ := h3 hp
  exact ⟨rfl, b, off, rfl, hS, hl, fun j hj => by have := hc j hj 0 (by decide); simpa [encS] using this⟩
theorem SlR.atP {w : World} {S : Nat → Prop} {A : Option Addr} {n c : Nat} {xs : List Nat} (h : SlR encP w S (.slice A n c) xs) (hp : 0 < xs.length) :
    n = xs.length ∧ ∃ b off, A = some ⟨b, off, none⟩ ∧ S b ∧ b < w.heap.size ∧ ∀ j, j < xs.length → w.cell? ⟨b, off + j, none⟩ = some (.pointer (some ⟨ga xs j, 0, none⟩)) := by
  obtain ⟨A', c', hv, h1, h2, h3⟩ := h
  cases hv
  obtain ⟨b, off, rfl, hS, hl, hc⟩ := h3 hp
  exact ⟨rfl, b, off, rfl, hS, hl, fun j hj => by have := hc j hj 0 (by decide); simpa [encP] using this⟩
theorem SlR.atR {w : World} {S : Nat → Prop} {A : Option Addr} {n c : Nat} {xs : List (ByteArray × Int)} (h : SlR encR w S (.slice A n c) xs) (hp : 0 < xs.length) :
    n = xs.length ∧ ∃ b off, A = some ⟨b, off, none⟩ ∧ S b ∧ b < w.heap.size ∧ ∀ j, j < xs.length → w.cell? ⟨b, off + j * 2, none⟩ = some (.string (ga xs j).1) ∧ w.cell? ⟨b, off + j * 2 + 1, none⟩ = some (.int .i64 (ga xs j).2) := by
  obtain ⟨A', c', hv, h1, h2, h3⟩ := h
  cases hv
  obtain ⟨b, off, rfl, hS, hl, hc⟩ := h3 hp
  exact ⟨rfl, b, off, rfl, hS, hl, fun j hj => ⟨by have := hc j hj 0 (by decide); simpa [encR] using this, by have := hc j hj 1 (by decide); simpa [encR] using this⟩⟩
end Go.Proofs.Ytclkboemgneojaa
