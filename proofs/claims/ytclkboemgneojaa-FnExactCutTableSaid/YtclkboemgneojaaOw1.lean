/- Slices of pairs, of such slices, and networks, in memory of the call's own, each list in a block of its own. No program's function in sight. -/
import Derived.Test.YtclkboemgneojaaGrw
namespace Go.Proofs.Ytclkboemgneojaa
open Go.RowKit

/-- pairs as cells -/
def pc (es : List (Int × Int)) : List Value := es.flatMap fun e => [.int .i64 e.1, .int .i64 e.2]
theorem pc_length (es : List (Int × Int)) : (pc es).length = es.length * 2 := by
  induction es with
  | nil => rfl
  | cons e es ih => simp only [pc, List.flatMap_cons, List.length_append, List.length_cons, List.length_nil] at ih ⊢; omega
theorem pc_append (es fs : List (Int × Int)) : pc (es ++ fs) = pc es ++ pc fs := by simp [pc]
theorem pc_get {es : List (Int × Int)} {j : Nat} (h : j < es.length) : (pc es)[j * 2]? = some (.int .i64 (gp es j).1) ∧ (pc es)[j * 2 + 1]? = some (.int .i64 (gp es j).2) := by
  induction es generalizing j with
  | nil => simp at h
  | cons e es ih =>
    rcases j with _ | j
    · simp [pc, gp]
    · have hj : j < es.length := by simpa using h
      have := ih hj
      have e1 : pc (e :: es) = .int .i64 e.1 :: .int .i64 e.2 :: pc es := by simp [pc]
      rw [e1, show (j + 1) * 2 = j * 2 + 1 + 1 by omega]
      simp only [List.getElem?_cons_succ, gp, List.getD_cons_succ]
      exact this
theorem pc_one {es : List (Int × Int)} : ∀ v ∈ pc es, v.oneCell' = true := by
  intro v hv
  simp only [pc, List.mem_flatMap] at hv
  obtain ⟨e, _, h⟩ := hv
  simp at h
  rcases h with rfl | rfl <;> rfl

theorem OwnI.keepO {w w' : World} {B : Nat} {v : Value} {xs : List Int} (h : OwnI w B v xs) (hk : ∀ b, v.ownBlock = some b → w'.heap[b]? = w.heap[b]?) : OwnI w' B v xs := by
  obtain ⟨h1, h2⟩ := h
  refine ⟨h1, ?_⟩
  rcases h2 with h2 | ⟨g, cap, cur, rfl, hB, hg, h⟩
  · exact .inl h2
  · exact .inr ⟨g, cap, cur, rfl, hB, (hk g rfl).trans hg, h⟩
theorem OwnI.blk {w : World} {B : Nat} {v : Value} {xs : List Int} (h : OwnI w B v xs) : ∀ g, v.ownBlock = some g → B ≤ g ∧ g < w.heap.size := fun g hg => World.ownsRow.lt h g hg
/-- three stores into one block -/
def set3 (w : World) (p : Nat) (x y z : Value) : World := ((w.setCell ⟨p, 0, none⟩ x).setCell ⟨p, 1, none⟩ y).setCell ⟨p, 2, none⟩ z
theorem set3_block (w : World) (p : Nat) (x y z : Value) {b : Nat} (h : b ≠ p) : (set3 w p x y z).heap[b]? = w.heap[b]? :=
  ((Below.heap_setCell _ _ _ b h).trans (Below.heap_setCell _ _ _ b h)).trans (Below.heap_setCell _ _ _ b h)
theorem set3_blk {w : World} {p : Nat} {t : TypeId} {a b c x y z : Value} (h : Blk w p t #[a, b, c]) : Blk (set3 w p x y z) p t #[x, y, z] := ((h.put 0 x).put 1 y).put 2 z
theorem set3_below {B p : Nat} {a w : World} (h : Below B a w) (hp : B ≤ p) (x y z : Value) : Below B a (set3 w p x y z) := ((h.setCell hp _).setCell hp _).setCell hp _

/-- a slice of pairs that the call owns -/
def OwnE (w : World) (B : Nat) (v : Value) (es : List (Int × Int)) : Prop := w.ownsRow B 48 2 v es.length (pc es)
section
variable {w w' : World} {B B' : Nat} {v : Value} {es : List (Int × Int)}
theorem OwnE.keepB (h : OwnE w B v es) (hk : ∀ b, v.ownBlock = some b → w'.heap[b]? = w.heap[b]?) : OwnE w' B v es := by
  obtain ⟨h1, h2⟩ := h
  refine ⟨h1, ?_⟩
  rcases h2 with h2 | ⟨g, cap, cur, rfl, hB, hg, h⟩
  · exact .inl h2
  · exact .inr ⟨g, cap, cur, rfl, hB, (hk g rfl).trans hg, h⟩
theorem OwnE.lt (h : OwnE w B v es) : ∀ g, v.ownBlock = some g → B ≤ g ∧ g < w.heap.size := fun g hg => World.ownsRow.lt h g hg
theorem OwnE.below (h : OwnE w B v es) (hb : Below w.heap.size w w') : OwnE w' B v es := h.keepB fun b hv => hb.block b (h.lt b hv).2
theorem OwnE.grown {gc : Nat} (h : OwnE w B v es) (hg : w.grownBy w' (some gc)) (hB : gc < B) : OwnE w' B v es := h.keepB fun b hv => hg.block b (h.lt b hv).2 (by have := (h.lt b hv).1; simp; omega)
theorem OwnE.mono (h : OwnE w B v es) (hB : B' ≤ B) : OwnE w B' v es := by
  obtain ⟨h1, h2⟩ := h
  refine ⟨h1, ?_⟩
  rcases h2 with h2 | ⟨g, cap, cur, hv, hb, h⟩
  · exact .inl h2
  · exact .inr ⟨g, cap, cur, hv, by omega, h⟩
theorem OwnE.shape (h : OwnE w B v es) : ∃ A c, v = .slice A es.length c := by
  rcases h.2 with ⟨rfl, hn⟩ | ⟨g, cap, cur, rfl, _⟩
  · exact ⟨none, 0, by rw [hn]⟩
  · exact ⟨_, _, rfl⟩
theorem OwnE.nil : OwnE w B (.slice none 0 0) [] := World.ownsRow_nil _ _ _ _
theorem OwnE.made (cs : Array Value) (hc : cs.size = 0) (hB : B ≤ w.heap.size) : OwnE (w.alloc (.cells cs 48)) B (.slice (some ⟨w.heap.size, 0, none⟩) 0 0) [] :=
  World.ownsRow_made w cs 0 hB (by simp [maxLen]) (by simpa using hc)
theorem OwnE.type (h : OwnE w B v es) : ∀ g, v.ownBlock = some g → ∃ cs, w.heap[g]? = some (.cells cs 48 (0, 0)) := by
  intro g hg
  rcases h.2 with ⟨rfl, hn⟩ | ⟨g', cap, cur, rfl, hB, hh, _⟩
  · cases hg
  · cases hg; exact ⟨cur, hh⟩
theorem OwnE.addr (h : OwnE w B v es) (hp : 0 < es.length) : ∃ g cap, v = .slice (some ⟨g, 0, none⟩) es.length cap ∧ B ≤ g ∧ g < w.heap.size ∧ es.length ≤ cap ∧ cap ≤ maxLen := by
  rcases h.2 with ⟨rfl, h0⟩ | ⟨g, cap, cur, rfl, hB, hg, hn, hm, _⟩
  · omega
  · exact ⟨g, cap, rfl, hB, (Array.getElem?_eq_some_iff.1 hg).1, hn, hm⟩
theorem OwnE.at_ {g n cap j : Nat} (h : OwnE w B (.slice (some ⟨g, 0, none⟩) n cap) es) (hj : j < es.length) :
    (w.cell? ⟨g, j * 2, none⟩ = some (.int .i64 (gp es j).1) ∧ w.cell? ⟨g, j * 2 + 1, none⟩ = some (.int .i64 (gp es j).2)) ∧ (∀ i, w.frozen? ⟨g, i, none⟩ = false) := by
  rcases h.2 with ⟨h1, _⟩ | ⟨g', cap', cur, hv, hB, hg, hn, hm, hs, ht⟩
  · cases h1
  · cases hv
    refine ⟨?_, fun i => World.ownsRow.frozenAt h i⟩
    have hl := h.1
    rw [pc_length] at hl
    obtain ⟨p1, p2⟩ := pc_get hj
    rw [← ht, List.getElem?_take_of_lt (by omega)] at p1 p2
    rw [cell_of_row w g (j * 2) cur _ (0, 0) hg, cell_of_row w g (j * 2 + 1) cur _ (0, 0) hg]
    exact ⟨by simpa using p1, by simpa using p2⟩
theorem OwnE.len {g n cap : Nat} (h : OwnE w B (.slice (some ⟨g, 0, none⟩) n cap) es) : n = es.length := by
  rcases h.2 with ⟨h1, _⟩ | ⟨g', cap', cur, hv, _⟩
  · cases h1
  · cases hv; rfl
theorem OwnE.ends {S : Nat → Prop} (h : OwnE w B v es) (hS : ∀ b, B ≤ b → b < w.heap.size → S b) : EndsR w S v es := by
  rcases h.2 with ⟨rfl, hn⟩ | ⟨g, cap, cur, rfl, hB, hg, hnc, hm, hs, ht⟩
  · exact ⟨none, 0, by rw [hn], by omega, by simp [maxLen], fun h => absurd h (by omega)⟩
  · refine ⟨_, cap, rfl, hnc, hm, fun hp => ⟨g, 0, rfl, hS g hB (Array.getElem?_eq_some_iff.1 hg).1, fun j hj => ?_⟩⟩
    have := (h.at_ hj).1
    rw [Nat.zero_add]
    exact this
end

/-- a slice of slices of pairs that the call owns, each in a block of its own -/
def OwnEs (w : World) (B : Nat) (v : Value) (ess : List (List (Int × Int))) : Prop :=
  ∃ us : Nat → Value, w.ownsRow B 46 1 v ess.length ((List.range ess.length).map us) ∧ (∀ i, i < ess.length → OwnE w B (us i) (gl ess i)) ∧
    ∀ i j, i < ess.length → j < ess.length → i ≠ j → ∀ g, (us i).ownBlock = some g → (us j).ownBlock ≠ some g
section
variable {w w' : World} {B B' : Nat} {v : Value} {ess : List (List (Int × Int))}
theorem OwnEs.keepB (h : OwnEs w B v ess) (hk : ∀ b, B ≤ b → b < w.heap.size → w'.heap[b]? = w.heap[b]?) : OwnEs w' B v ess := by
  obtain ⟨us, h1, h2, h3⟩ := h
  refine ⟨us, ⟨h1.1, ?_⟩, fun i hi => (h2 i hi).keepB fun b hb => hk b ((h2 i hi).lt b hb).1 ((h2 i hi).lt b hb).2, h3⟩
  rcases h1.2 with h4 | ⟨g, cap, cur, rfl, hB, hg, hr⟩
  · exact .inl h4
  · exact .inr ⟨g, cap, cur, rfl, hB, (hk g hB (Array.getElem?_eq_some_iff.1 hg).1).trans hg, hr⟩
theorem OwnEs.below (h : OwnEs w B v ess) (hb : Below w.heap.size w w') : OwnEs w' B v ess := h.keepB fun b _ hl => hb.block b hl
theorem OwnEs.grown {gc : Nat} (h : OwnEs w B v ess) (hg : w.grownBy w' (some gc)) (hB : gc < B) : OwnEs w' B v ess := h.keepB fun b hb hl => hg.block b hl (by simp; omega)
theorem OwnEs.mono (h : OwnEs w B v ess) (hB : B' ≤ B) : OwnEs w B' v ess := by
  obtain ⟨us, h1, h2, h3⟩ := h
  refine ⟨us, ⟨h1.1, ?_⟩, fun i hi => (h2 i hi).mono hB, h3⟩
  rcases h1.2 with h4 | ⟨g, cap, cur, hv, hb, hr⟩
  · exact .inl h4
  · exact .inr ⟨g, cap, cur, hv, by omega, hr⟩
theorem OwnEs.shape (h : OwnEs w B v ess) : ∃ A c, v = .slice A ess.length c := by
  obtain ⟨us, h1, _⟩ := h
  rcases h1.2 with ⟨rfl, hn⟩ | ⟨g, cap, cur, rfl, _⟩
  · exact ⟨none, 0, by rw [hn]⟩
  · exact ⟨_, _, rfl⟩
theorem OwnEs.nil : OwnEs w B (.slice none 0 0) [] := ⟨fun _ => .slice none 0 0, World.ownsRow_nil _ _ _ _, fun _ hi => absurd hi (Nat.not_lt_zero _), fun _ _ hi => absurd hi (Nat.not_lt_zero _)⟩
theorem range_get {us : Nat → Value} {n j : Nat} (h : j < n) : ((List.range n).map us)[j]? = some (us j) := by simp [h]
/-- the outer row: its cells, that it is not frozen -/
theorem OwnEs.at_ {us : Nat → Value} {g cap j m : Nat} (h : w.ownsRow B 46 1 (.slice (some ⟨g, 0, none⟩) m cap) m ((List.range m).map us)) (hj : j < m) : w.cell? ⟨g, j, none⟩ = some (us j) ∧ w.frozen? ⟨g, j, none⟩ = false :=
  ⟨(World.ownsRow.cellAt h j (by rw [Nat.mul_one]; exact hj)).trans (range_get hj), World.ownsRow.frozenAt h j⟩
theorem OwnEs.ends {S : Nat → Prop} (h : OwnEs w B v ess) (hS : ∀ b, B ≤ b → b < w.heap.size → S b) : EndSSR w S v ess := by
  obtain ⟨us, h1, h2, h3⟩ := h
  rcases h1.2 with ⟨rfl, hn⟩ | ⟨g, cap, cur, rfl, hB, hg, hnc, hm, hs, ht⟩
  · exact ⟨none, 0, by rw [hn], by omega, by simp [maxLen], fun h => absurd h (by omega)⟩
  · refine ⟨_, cap, rfl, hnc, hm, fun hp => ⟨g, 0, rfl, hS g hB (Array.getElem?_eq_some_iff.1 hg).1, fun j hj => ⟨us j, ?_, (h2 j hj).ends hS⟩⟩⟩
    rw [Nat.zero_add]
    exact (OwnEs.at_ h1 hj).1
end

/-- only blocks of the type T have turned -/
def KeptBut (T : TypeId) (w w' : World) : Prop := ∀ (b : Nat) (cs : Array Value) (t : TypeId) (fr : Nat × Nat), w.heap[b]? = some (.cells cs t fr) → t ≠ T → w'.heap[b]? = w.heap[b]?
theorem KeptBut.trans {T : TypeId} {a b c : World} (h : KeptBut T a b) (k : KeptBut T b c) : KeptBut T a c := fun x cs t fr hx ht => (k x cs t fr ((h x cs t fr hx ht).trans hx) ht).trans (h x cs t fr hx ht)
theorem KeptBut.of_below {T : TypeId} {w w' : World} (h : Below w.heap.size w w') : KeptBut T w w' := fun b _ _ _ hx _ => h.block b (Array.getElem?_eq_some_iff.1 hx).1
theorem KeptBut.of_grown {T : TypeId} {w w' : World} {row : Option Nat} (h : w.grownBy w' row) (hr : ∀ g, row = some g → ∃ cs fr, w.heap[g]? = some (.cells cs T fr)) : KeptBut T w w' := fun b cs t fr hx ht =>
  h.block b (Array.getElem?_eq_some_iff.1 hx).1 (fun e => by
    obtain ⟨cs', fr', h1⟩ := hr b e.symm
    rw [hx] at h1
    simp at h1
    exact ht h1.2.1)
theorem KeptBut.of_set {T : TypeId} {w : World} {p : Addr} {cs : Array Value} {fr : Nat × Nat} (h : w.heap[p.block]? = some (.cells cs T fr)) (u : Value) : KeptBut T w (w.setCell p u) := fun b cs' t fr' hx ht =>
  Below.heap_setCell w p u b (fun e => by
    rw [e, h] at hx
    simp at hx
    exact ht hx.2.1.symm)
theorem OwnI.but {T : TypeId} {w w' : World} {B : Nat} {v : Value} {xs : List Int} (h : OwnI w B v xs) (hk : KeptBut T w w') (hT : 3 ≠ T) : OwnI w' B v xs := by
  obtain ⟨h1, h2⟩ := h
  refine ⟨h1, ?_⟩
  rcases h2 with h2 | ⟨g, cap, cur, rfl, hB, hg, h⟩
  · exact .inl h2
  · exact .inr ⟨g, cap, cur, rfl, hB, (hk g _ _ _ hg hT).trans hg, h⟩
theorem OwnE.but {T : TypeId} {w w' : World} {B : Nat} {v : Value} {es : List (Int × Int)} (h : OwnE w B v es) (hk : KeptBut T w w') (hT : 48 ≠ T) : OwnE w' B v es := by
  obtain ⟨h1, h2⟩ := h
  refine ⟨h1, ?_⟩
  rcases h2 with h2 | ⟨g, cap, cur, rfl, hB, hg, h⟩
  · exact .inl h2
  · exact .inr ⟨g, cap, cur, rfl, hB, (hk g _ _ _ hg hT).trans hg, h⟩
theorem OwnEs.but {T : TypeId} {w w' : World} {B : Nat} {v : Value} {ess : List (List (Int × Int))} (h : OwnEs w B v ess) (hk : KeptBut T w w') (hT : 48 ≠ T) (hT2 : 46 ≠ T) : OwnEs w' B v ess := by
  obtain ⟨us, h1, h2, h3⟩ := h
  refine ⟨us, ⟨h1.1, ?_⟩, fun i hi => (h2 i hi).but hk hT, h3⟩
  rcases h1.2 with h4 | ⟨g, cap, cur, rfl, hB, hg, hr⟩
  · exact .inl h4
  · exact .inr ⟨g, cap, cur, rfl, hB, (hk g _ _ _ hg hT2).trans hg, hr⟩
/-- the block of an owned row has its type -/
theorem rowType {w : World} {B : Nat} {t : TypeId} {sz : Nat} {v : Value} {n : Nat} {xs : List Value} (h : w.ownsRow B t sz v n xs) : ∀ g, v.ownBlock = some g → ∃ cs fr, w.heap[g]? = some (.cells cs t fr) := fun g hg => by
  rcases h.2 with ⟨rfl, _⟩ | ⟨g', cap, cur, rfl, _, hh, _⟩
  · cases hg
  · cases hg; exact ⟨cur, _, hh⟩
theorem OwnI.fresh {w : World} {B : Nat} {v : Value} {xs : List Int} (h : OwnI w B v xs) : ∀ g, v.ownBlock = some g → ∃ cs fr, w.heap[g]? = some (.cells cs 3 fr) := rowType h

/-- a network in memory of the call's own, each list in a block of its own -/
def OwnNt (w : World) (B : Nat) (v : Value) (N : Net) : Prop :=
  ∃ ve vi vn, v = .agg #[ve, vi, vn] ∧ OwnEs w B ve N.ends ∧ OwnI w B vi N.ids ∧ OwnI w B vn N.inputs ∧ ∀ g, vi.ownBlock = some g → vn.ownBlock ≠ some g
section
variable {w w' : World} {B B' : Nat} {v : Value} {N : Net}
theorem OwnNt.keepB (h : OwnNt w B v N) (hk : ∀ b, B ≤ b → b < w.heap.size → w'.heap[b]? = w.heap[b]?) : OwnNt w' B v N := by
  obtain ⟨ve, vi, vn, rfl, h1, h2, h3, h4⟩ := h
  exact ⟨ve, vi, vn, rfl, h1.keepB hk, h2.keepB hk, h3.keepB hk, h4⟩
theorem OwnNt.below (h : OwnNt w B v N) (hb : Below w.heap.size w w') : OwnNt w' B v N := h.keepB fun b _ hl => hb.block b hl
theorem OwnNt.grown {gc : Nat} (h : OwnNt w B v N) (hg : w.grownBy w' (some gc)) (hB : gc < B) : OwnNt w' B v N := h.keepB fun b hb hl => hg.block b hl (by simp; omega)
theorem OwnNt.mono (h : OwnNt w B v N) (hB : B' ≤ B) : OwnNt w B' v N := by
  obtain ⟨ve, vi, vn, rfl, h1, h2, h3, h4⟩ := h
  exact ⟨ve, vi, vn, rfl, h1.mono hB, h2.mono hB, h3.mono hB, h4⟩
theorem OwnNt.net {S : Nat → Prop} (h : OwnNt w B v N) (hS : ∀ b, B ≤ b → b < w.heap.size → S b) : NetR w S v N := by
  obtain ⟨ve, vi, vn, rfl, h1, h2, h3, _⟩ := h
  have key : ∀ {u : Value} {xs : List Int}, OwnI w B u xs → IntsR w S u xs := fun {u xs} ho => by
    obtain ⟨A, c, hv, k1, k2, k3⟩ := ho.ints
    refine ⟨A, c, hv, k1, k2, fun hp => ?_⟩
    obtain ⟨b, off, hA, hb, hc⟩ := k3 hp
    exact ⟨b, off, hA, hS b hb (lt_of_cell (hc 0 hp)), hc⟩
  exact ⟨ve, vi, vn, rfl, h1.ends hS, key h2, key h3⟩
theorem OwnNt.parts (h : OwnNt w B v N) : ∃ A c A1 c1 A2 c2, v = .agg #[.slice A N.ends.length c, .slice A1 N.ids.length c1, .slice A2 N.inputs.length c2] := by
  obtain ⟨ve, vi, vn, rfl, h1, h2, h3, _⟩ := h
  obtain ⟨A, c, rfl⟩ := h1.shape
  obtain ⟨A1, c1, rfl⟩ := h2.shape
  obtain ⟨A2, c2, rfl⟩ := h3.shape
  exact ⟨A, c, A1, c1, A2, c2, rfl⟩
end
def RetNt (w : World) (N : Net) (e : Ending) (w' : World) : Prop := ∃ v, e = .returned v ∧ OwnNt w' w.heap.size v N ∧ Below w.heap.size w w'

theorem endInf : (Try.prog.info? 48).map (fun i => (i.zero, i.size, i.bytes)) = some (some (.agg #[.int .i64 0, .int .i64 0]), 2, 16) := by kernel_rfl
theorem endsInf : (Try.prog.info? 46).map (fun i => (i.zero, i.size, i.bytes)) = some (some (.slice none 0 0), 1, 24) := by kernel_rfl
end Go.Proofs.Ytclkboemgneojaa
