/- Parts of the proof, joined: Nby, Cn3, Cn5. -/
import Derived.Test.YtljjbhihllnnaaaGreatCJn25
import Derived.Test.YtljjbhihllnnaaaGreatCJn3
import Derived.Test.YtljjbhihllnnaaaGreatCMkl
import Derived.Test.YtljjbhihllnnaaaGreatCJn16
namespace Go.Proofs.YtljjbhihllnnaaaGreat
open Go.RowKit

/-- append(v, u...): slices of pairs. What they hold, and that they lie apart, is the caller's to say. -/
theorem run_append_slices (w : World) (ty : TypeId) (B : Nat) (v : Value) (n : Nat) (us : List Value) (hown : w.ownsRow B 36 1 v n us) (g m c1 : Nat) (vs : List Value) (hm : vs.length = m) (hvs : ∀ j q, vs[j]? = some q → w.cell? ⟨g, j, none⟩ = some q) (h1 : ∀ q ∈ vs, q.oneCell' = true) (hp : 0 < n + m) (hn : n + m ≤ 1048576) (hB : B ≤ w.heap.size) :
    ∃ A c w', (Builtin.append_ #[24, 24] ty #[v, .slice (some ⟨g, 0, none⟩) m c1]).run Tryz.prog w = .ok (.slice A (n + m) c) w' ∧ w'.ownsRow B 36 1 (.slice A (n + m) c) (n + m) (us ++ vs) ∧ w.grownBy w' v.ownBlock ∧ Lies w v (.slice A (n + m) c) := by
  obtain ⟨i0, hi, hz0, hz1, hz2⟩ := info_parts endsInf
  obtain ⟨v', w', hr, h2, h3, h4, h5⟩ := run_append_own_at (P := Tryz.prog) w B 24 ty 36 i0 _ 1 24 Tryz.underlying24 hi hz0 hz1 hz2 rfl (by omega) v n us hown ⟨g, 0, none⟩ m c1 vs (by rw [hm, Nat.mul_one]) (by
      intro j q hq
      rw [addr_add, Nat.zero_add]; exact hvs j q hq) h1 (by unfold maxLen; omega) (by omega) hB
  rcases h2.2 with ⟨_, h0⟩ | ⟨g', cap, cur, rfl, hrest⟩
  · omega
  · refine ⟨_, cap, w', hr, h2, h3, fun k hk => ?_⟩
    rcases h5 with h5 | h5
    · exact .inl (h5 ▸ hk)
    · rw [hk] at h5; exact .inr (Option.some.inj h5)
theorem wpList_append_slices (w : World) {ops : Array Oper} {rest : List Oper} {o : Oper} {a : Act} {Q : Exit → Act → World → Prop} (hgd : o.guard = none) (s x : Operand)
    (ho : o.op = .call { callee := .builtin .append, args := #[s, x], argTypes := #[24, 24] })
    (B : Nat) (v : Value) (n : Nat) (us : List Value) (hs : a.eval s = v) (hown : w.ownsRow B 36 1 v n us) (g m c1 : Nat) (vs : List Value) (hx : a.eval x = .slice (some ⟨g, 0, none⟩) m c1) (hm : vs.length = m) (hvs : ∀ j q, vs[j]? = some q → w.cell? ⟨g, j, none⟩ = some q) (h1 : ∀ q ∈ vs, q.oneCell' = true) (hp : 0 < n + m) (hn : n + m ≤ 1048576) (hB : B ≤ w.heap.size)
    (h : ∀ A c w', w'.ownsRow B 36 1 (.slice A (n + m) c) (n + m) (us ++ vs) → w.grownBy w' v.ownBlock → Lies w v (.slice A (n + m) c) → wpList Tryz.prog ops Q rest (a.put o.dst (.slice A (n + m) c)) w') :
    wpList Tryz.prog ops Q (o :: rest) a w := by
  refine wpList_plain hgd fun K hK => ?_
  obtain ⟨A, c, w', hr, h2, h3, h4⟩ := run_append_slices w o.type B v n us hown g m c1 vs hm hvs h1 hp hn hB
  unfold Oper.wp execOp
  simp only [ho, resolve, invoke, builtin, Sem.run_bind, Sem.run_pure, Result.andThen_ok, List.map_toArray, List.map_cons, List.map_nil, hs, hx, hr]
  exact hK _ _ (h A c w' h2 h3 h4)

theorem gl_append {e1 e2 : List (List (Int × Int))} {j : Nat} : gl (e1 ++ e2) j = if j < e1.length then gl e1 j else gl e2 (j - e1.length) := by
  unfold gl
  simp only [List.getD_eq_getElem?_getD]
  rw [List.getElem?_append]
  by_cases h : j < e1.length <;> simp [h]
theorem ownsRow_keepB {w w' : World} {B : Nat} {t : TypeId} {sz : Nat} {v : Value} {n : Nat} {xs : List Value} (h : w.ownsRow B t sz v n xs) (hk : ∀ b, B ≤ b → b < w.heap.size → w'.heap[b]? = w.heap[b]?) : w'.ownsRow B t sz v n xs := by
  refine ⟨h.1, ?_⟩
  rcases h.2 with h4 | ⟨g, cap, cur, h1, hB, hh, hr⟩
  · exact .inl h4
  · exact .inr ⟨g, cap, cur, h1, hB, (hk g hB (Array.getElem?_eq_some_iff.1 hh).1).trans hh, hr⟩
/-- two lists of lists of pairs, one behind the other -/
theorem OwnEs.joinRows {W w2 : World} {b1 : Nat} {v' : Value} {e1 e2 : List (List (Int × Int))} {us1 us2 : Nat → Value}
    (hi1 : ∀ i, i < e1.length → OwnE W b1 (us1 i) (gl e1 i))
    (hd1 : ∀ i j, i < e1.length → j < e1.length → i ≠ j → ∀ g, (us1 i).ownBlock = some g → (us1 j).ownBlock ≠ some g)
    (hi2 : ∀ i, i < e2.length → OwnE W b1 (us2 i) (gl e2 i)) (hd2 : ∀ i j, i < e2.length → j < e2.length → i ≠ j → ∀ g, (us2 i).ownBlock = some g → (us2 j).ownBlock ≠ some g)
    (hx : ∀ i j, i < e1.length → j < e2.length → ∀ g, (us1 i).ownBlock = some g → (us2 j).ownBlock ≠ some g)
    (hr : w2.ownsRow b1 36 1 v' (e1.length + e2.length) ((List.range e1.length).map us1 ++ (List.range e2.length).map us2)) (hk : KeptBut 36 W w2) : OwnEs w2 b1 v' (e1 ++ e2) := by
  have ln : (e1 ++ e2).length = e1.length + e2.length := List.length_append
  have hus : (List.range (e1.length + e2.length)).map (fun j => if j < e1.length then us1 j else us2 (j - e1.length)) = (List.range e1.length).map us1 ++ (List.range e2.length).map us2 := by
    rw [List.range_add, List.map_append, List.map_map]
    congr 1
    · exact List.map_congr_left fun a ha => if_pos (List.mem_range.1 ha)
    · refine List.map_congr_left fun a _ => ?_
      have h1 : ¬ (e1.length + a < e1.length) := by omega
      simp [h1]
  refine ⟨fun j => if j < e1.length then us1 j else us2 (j - e1.length), by rw [ln, hus]; exact hr, fun j hj => ?_, fun a b ha hb' hne g hga => ?_⟩
  · rw [ln] at hj
    rw [gl_append]
    by_cases h : j < e1.length
    · simp only [h, if_true]
      exact (hi1 j h).but hk (by decide)
    · simp only [h, if_false]
      exact (hi2 (j - e1.length) (by omega)).but hk (by decide)
  · rw [ln] at ha hb'
    by_cases h : a < e1.length
    · simp only [h, if_true] at hga
      by_cases h3 : b < e1.length
      · simp only [h3, if_true]
        exact hd1 a b h h3 hne g hga
      · simp only [h3, if_false]
        exact hx a (b - e1.length) h (by omega) g hga
    · simp only [h, if_false] at hga
      by_cases h3 : b < e1.length
      · simp only [h3, if_true]
        exact fun e => hx b (a - e1.length) h3 (by omega) g e hga
      · simp only [h3, if_false]
        exact hd2 _ _ (by omega) (by omega) (by omega) g hga

section
variable {W W1 W' w2 : World} {B g gE cap v n : Nat} {x y z y' z' : Value} {N : Net} {es : List (Int × Int)}
/-- identifiers grown, and stored -/
theorem NB.appY {ids' : List Int} (h : NB W B g x y z N) (ho : OwnI w2 B y' ids') (hg : W.grownBy w2 y.ownBlock) (hl : Lies W y y') :
    NB (w2.setCell ⟨g, 1, none⟩ y') B g x y' z { N with ids := ids' } := by
  obtain ⟨k1, k2, k3, k4⟩ := h.parts
  have hk : KeptBut 3 W w2 := KeptBut.of_grown hg (rowType k2)
  obtain ⟨b1, b2⟩ := k3.beside k4 hg hl
  have hbx := (hk g _ _ _ h.bx (by decide)).trans h.bx
  have hk2 : KeptBut 27 w2 (w2.setCell ⟨g, 1, none⟩ y') := KeptBut.of_set (p := ⟨g, 1, none⟩) hbx _
  exact ⟨Blk.put hbx 1 _, ⟨_, _, _, rfl, (k1.but hk (by decide) (by decide)).but hk2 (by decide) (by decide), ho.but hk2 (by decide), b1.but hk2 (by decide), b2⟩⟩
theorem NB.appZ {ins' : List Int} (h : NB W B g x y z N) (ho : OwnI w2 B z' ins') (hg : W.grownBy w2 z.ownBlock) (hl : Lies W z z') :
    NB (w2.setCell ⟨g, 2, none⟩ z') B g x y z' { N with inputs := ins' } := by
  obtain ⟨k1, k2, k3, k4⟩ := h.parts
  have hk : KeptBut 3 W w2 := KeptBut.of_grown hg (rowType k3)
  obtain ⟨b1, b2⟩ := k2.beside (Apart.symm k4) hg hl
  have hbx := (hk g _ _ _ h.bx (by decide)).trans h.bx
  have hk2 : KeptBut 27 w2 (w2.setCell ⟨g, 2, none⟩ z') := KeptBut.of_set (p := ⟨g, 2, none⟩) hbx _
  exact ⟨Blk.put hbx 2 _, ⟨_, _, _, rfl, (k1.but hk (by decide) (by decide)).but hk2 (by decide) (by decide), b1.but hk2 (by decide), ho.but hk2 (by decide), Apart.symm b2⟩⟩
/-- one node's number stored -/
theorem NB.put1 {ga na ca j : Nat} {p : Int} (hn : N.ends.length = n) (h : NB W B g (.slice (some ⟨gE, 0, none⟩) n cap) y z N)
    {us : Nat → Value} (hr0 : W.ownsRow B 36 1 (.slice (some ⟨gE, 0, none⟩) n cap) N.ends.length ((List.range N.ends.length).map us)) (hi : ∀ i, i < N.ends.length → OwnE W B (us i) (gl N.ends i))
    (hd : ∀ i j, i < N.ends.length → j < N.ends.length → i ≠ j → ∀ g, (us i).ownBlock = some g → (us j).ownBlock ≠ some g) (hv : v < N.ends.length) (hj : j < dg N.ends v) (hu : us v = .slice (some ⟨ga, 0, none⟩) na ca) :
    NB (W.setCell ⟨ga, j * 2, none⟩ (.int .i64 p)) B g (.slice (some ⟨gE, 0, none⟩) n cap) y z { N with ends := set2 N.ends v j (p, (pt N.ends v j).2) } ∧ LowB B W (W.setCell ⟨ga, j * 2, none⟩ (.int .i64 p)) ∧ KeptBut 38 W (W.setCell ⟨ga, j * 2, none⟩ (.int .i64 p)) := by
  subst hn
  obtain ⟨k1, k2, k3, k4⟩ := h.parts
  have hov := hi v hv
  rw [hu] at hov
  obtain ⟨t1, t2, t3⟩ := OwnEs.rowTurn (i := j * 2) (u := .int .i64 p) hr0 hi hd hv hu (by rw [hu]; exact hov.put1 (u := p) hj)
  exact ⟨⟨(t2 g _ _ _ h.bx (by decide)).trans h.bx, ⟨_, _, _, rfl, t1, k2.but t2 (by decide), k3.but t2 (by decide), k4⟩⟩, LowB.set (p := ⟨ga, j * 2, none⟩) t3 _, t2⟩
end

/-- a network in a box g that grows; another one in a box g' whose lists are read -/
structure Two (W : World) (B g g' : Nat) (x y z : Value) (N : Net) (x' y' z' : Value) (ids' ins' : List Int) : Prop where
  nb : NB W B g x y z N
  bx : Blk W g' 27 #[x', y', z']
  pI : OwnI W B y' ids'
  pZ : OwnI W B z' ins'
  aI : Apart y y'
  aZ : Apart y z'
  cZ : Apart z z'
section
variable {W w2 : World} {B g g' : Nat} {x y z x' y' z' xx : Value} {N : Net} {ids' ins' : List Int}
theorem Two.appX {es' : List (List (Int × Int))} {us : List Value} (h : Two W B g g' x y z N x' y' z' ids' ins') (hn : g' ≠ g) (hB : B ≤ W.heap.size) (hg0 : B ≤ g) (hr : W.ownsRow B 36 1 x N.ends.length us) (ho : OwnEs w2 B xx es') (hg : W.grownBy w2 x.ownBlock) :
    Two (w2.setCell ⟨g, 0, none⟩ xx) B g g' xx y z { N with ends := es' } x' y' z' ids' ins' ∧ LowB B W (w2.setCell ⟨g, 0, none⟩ xx) := by
  obtain ⟨k1, k2, k3, k4⟩ := h.nb.parts
  have hk : KeptBut 36 W w2 := KeptBut.of_grown hg (rowType hr)
  have hbx := (hk g _ _ _ h.nb.bx (by decide)).trans h.nb.bx
  have hbx' : Blk w2 g' 27 #[x', y', z'] := (hk g' _ _ _ h.bx (by decide)).trans h.bx
  have hk2 : KeptBut 27 w2 (w2.setCell ⟨g, 0, none⟩ xx) := KeptBut.of_set (p := ⟨g, 0, none⟩) hbx _
  exact ⟨⟨⟨Blk.put hbx 0 _, ⟨_, _, _, rfl, ho.but hk2 (by decide) (by decide), (k2.but hk (by decide)).but hk2 (by decide), (k3.but hk (by decide)).but hk2 (by decide), k4⟩⟩,
    hbx'.far hn _, (h.pI.but hk (by decide)).but hk2 (by decide), (h.pZ.but hk (by decide)).but hk2 (by decide), h.aI, h.aZ, h.cZ⟩,
    (LowB.of_grown hg hB fun k hk' => (World.ownsRow.lt hr k hk').1).trans (LowB.set (p := ⟨g, 0, none⟩) hg0 _)⟩
theorem Two.appY {idn : List Int} (h : Two W B g g' x y z N x' y' z' ids' ins') (hn : g' ≠ g) (hB : B ≤ W.heap.size) (hg0 : B ≤ g) (ho : OwnI w2 B xx idn) (hg : W.grownBy w2 y.ownBlock) (hl : Lies W y xx) :
    NB (w2.setCell ⟨g, 1, none⟩ xx) B g x xx z { N with ids := idn } ∧ Blk (w2.setCell ⟨g, 1, none⟩ xx) g' 27 #[x', y', z'] ∧ OwnI (w2.setCell ⟨g, 1, none⟩ xx) B z' ins' ∧ LowB B W (w2.setCell ⟨g, 1, none⟩ xx) := by
  obtain ⟨k1, k2, k3, k4⟩ := h.nb.parts
  have hk : KeptBut 3 W w2 := KeptBut.of_grown hg (rowType k2)
  have hbx := (hk g _ _ _ h.nb.bx (by decide)).trans h.nb.bx
  have hbx' : Blk w2 g' 27 #[x', y', z'] := (hk g' _ _ _ h.bx (by decide)).trans h.bx
  have hk2 : KeptBut 27 w2 (w2.setCell ⟨g, 1, none⟩ xx) := KeptBut.of_set (p := ⟨g, 1, none⟩) hbx _
  exact ⟨h.nb.appY ho hg hl, hbx'.far hn _, (h.pZ.beside h.aZ hg hl).1.but hk2 (by decide), (LowB.of_grown hg hB fun k hk' => (k2.blk k hk').1).trans (LowB.set (p := ⟨g, 1, none⟩) hg0 _)⟩
theorem NB.appZL {idn : List Int} (h : NB W B g x y z N) (hB : B ≤ W.heap.size) (hg0 : B ≤ g) (ho : OwnI w2 B xx idn) (hg : W.grownBy w2 z.ownBlock) (hl : Lies W z xx) :
    NB (w2.setCell ⟨g, 2, none⟩ xx) B g x y xx { N with inputs := idn } ∧ LowB B W (w2.setCell ⟨g, 2, none⟩ xx) := by
  obtain ⟨k1, k2, k3, k4⟩ := h.parts
  exact ⟨h.appZ ho hg hl, (LowB.of_grown hg hB fun k hk' => (k3.blk k hk').1).trans (LowB.set (p := ⟨g, 2, none⟩) hg0 _)⟩
/-- the memory of one call apart from that of another one -/
theorem apart_of {v1 v2 : Value} {a b c d : Nat} (h1 : ∀ g, v1.ownBlock = some g → a ≤ g ∧ g < b) (h2 : ∀ g, v2.ownBlock = some g → c ≤ g ∧ g < d) (h : b ≤ c ∨ d ≤ a) : Apart v1 v2 := fun g e1 e2 => by
  have := h1 g e1; have := h2 g e2; omega
theorem ownsRow_but {T t : TypeId} {w w' : World} {B : Nat} {sz : Nat} {v : Value} {n : Nat} {xs : List Value} (h : w.ownsRow B t sz v n xs) (hk : KeptBut T w w') (ht : t ≠ T) : w'.ownsRow B t sz v n xs := by
  refine ⟨h.1, ?_⟩
  rcases h.2 with h4 | ⟨g, cap, cur, h1, hB, hh, hr⟩
  · exact .inl h4
  · exact .inr ⟨g, cap, cur, h1, hB, (hk g _ _ _ hh ht).trans hh, hr⟩
theorem ownsRow_mono {t : TypeId} {w : World} {B B' : Nat} {sz : Nat} {v : Value} {n : Nat} {xs : List Value} (h : w.ownsRow B t sz v n xs) (hB : B' ≤ B) : w.ownsRow B' t sz v n xs := by
  refine ⟨h.1, ?_⟩
  rcases h.2 with h4 | ⟨g, cap, cur, h1, h2, hh, hr⟩
  · exact .inl h4
  · exact .inr ⟨g, cap, cur, h1, Nat.le_trans hB h2, hh, hr⟩
end

/-- a network of the call's own, within its memory -/
def mkNtE (N : Net) : Mkg where
  Y := fun _ v => ∃ A c A1 c1 A2 c2, v = .agg #[.slice A N.ends.length c, .slice A1 N.ids.length c1, .slice A2 N.inputs.length c2]
  F := fun _ v b e x => ∃ xe : World, xe.heap.size = e ∧ OwnNt xe b v N ∧ Below xe.heap.size xe x
  st := fun _ _ _ _ _ _ hb h => by obtain ⟨xe, h1, h2, h3⟩ := h; exact ⟨xe, h1, h2, Below.then_ h3 hb⟩
theorem mkNtE.gives {N : Net} {ar : Array Value} {x x' : World} {v : Value} (hb : Below x.heap.size x x') (ho : OwnNt x' x.heap.size v N) : Gives (mkNtE N) ar x v x' := ⟨hb, ho.parts, x', rfl, ho, Below.refl _ _⟩

/-! the second network's ends under way -/
/-- the ends of all nodes ahead of k, and the first j of node k, have turned their nodes by n -/
structure Mx (n : Nat) (ess ess' : List (List (Int × Int))) (k j : Nat) : Prop where
  len : ess'.length = ess.length
  deg : ∀ a, dg ess' a = dg ess a
  at_ : ∀ a i, a < ess.length → i < dg ess a → pt ess' a i = if a < k ∨ (a = k ∧ i < j) then ((pt ess a i).1 + n, (pt ess a i).2) else pt ess a i
theorem Mx.start (n : Nat) (ess : List (List (Int × Int))) : Mx n ess ess 0 0 :=
  ⟨rfl, fun _ => rfl, fun a i _ _ => by rw [if_neg (by omega)]⟩
theorem Mx.next {n : Nat} {ess ess' : List (List (Int × Int))} {k j : Nat} (h : Mx n ess ess' k j) (hk : k < ess.length) (hj : j < dg ess k) :
    Mx n ess (set2 ess' k j ((pt ess k j).1 + n, (pt ess' k j).2)) k (j + 1) := by
  have hk' : k < ess'.length := by rw [h.len]; exact hk
  have hj' : j < dg ess' k := by rw [h.deg]; exact hj
  refine ⟨by rw [set2_len, h.len], fun a => by rw [set2_dg hk', h.deg], fun a i ha hi => ?_⟩
  rw [set2_pt hk' hj']
  by_cases e : a = k ∧ i = j
  · obtain ⟨rfl, rfl⟩ := e
    rw [if_pos ⟨rfl, rfl⟩, if_pos (by omega), h.at_ a i ha hi, if_neg (by omega)]
  · rw [if_neg e, h.at_ a i ha hi]
    by_cases e2 : a < k ∨ (a = k ∧ i < j)
    · rw [if_pos e2, if_pos (by omega)]
    · rw [if_neg e2, if_neg (by omega)]
theorem Mx.now {n : Nat} {ess ess' : List (List (Int × Int))} {k j : Nat} (h : Mx n ess ess' k j) (hk : k < ess.length) (hj : j < dg ess k) : pt ess' k j = pt ess k j := by
  rw [h.at_ k j hk hj, if_neg (by omega)]
theorem Mx.row {n : Nat} {ess ess' : List (List (Int × Int))} {k j : Nat} (h : Mx n ess ess' k j) (hj : dg ess k ≤ j) : Mx n ess ess' (k + 1) 0 :=
  ⟨h.len, h.deg, fun a i ha hi => by
    rw [h.at_ a i ha hi]
    by_cases e : a < k ∨ (a = k ∧ i < j)
    · rw [if_pos e, if_pos (by omega)]
    · rw [if_neg e, if_neg (fun h2 => e (by
        rcases h2 with h2 | h2
        · rcases (by omega : a < k ∨ a = k) with h3 | h3
          · exact .inl h3
          · subst h3; exact .inr ⟨rfl, by omega⟩
        · omega))]⟩
theorem Mx.done {n : Nat} {ess ess' : List (List (Int × Int))} {k : Nat} (h : Mx n ess ess' k 0) (hk : ess.length ≤ k) : ess' = ess.map (shiftE n) := by
  have hg : ∀ a, a < ess.length → gl (ess.map (shiftE n)) a = shiftE n (gl ess a) := fun a ha => by
    unfold gl
    simp only [List.getD_eq_getElem?_getD, List.getElem?_map]
    rw [List.getElem?_eq_getElem ha]; rfl
  refine ess_ext (by rw [h.len, List.length_map]) (fun a ha => ?_) fun a i ha hi => ?_
  · rw [h.len] at ha
    rw [h.deg]; unfold dg; rw [hg a ha]; simp [shiftE]
  · rw [h.len] at ha
    rw [h.deg] at hi
    rw [h.at_ a i ha hi, if_pos (by omega)]
    unfold pt
    rw [hg a ha]
    unfold gp shiftE
    unfold dg at hi
    simp [hi]
end Go.Proofs.YtljjbhihllnnaaaGreat

namespace Go.Proofs.YtljjbhihllnnaaaGreat
open Go.RowKit

set_option maxRecDepth 100000 in
set_option maxHeartbeats 4000000 in
theorem ring_any (w : World) (gc : Nat) (cv : Value) (L A m : Nat) (hc : CurR w gc cv L A) (hp : A + 72057594037927936 ≤ 4611686018427387900) (hf : FarV cv w.heap.size) (hm1 : 1 ≤ m) (hm2 : m ≤ 40) :
    Calls Tryz.prog 116 #[.pointer (some ⟨gc, 0, none⟩), .int .i64 m] w (RetDr w w.heap.size gc cv L (A + 72057594037927936) (Drawn m 80)) := by
  have hgc := hc.lt
  have hLb : L ≤ 1048576 := by obtain ⟨_, _, -, h, -⟩ := hc.bytes; exact h
  have HF := Lib.hid hf
  have HB0 := Lib.hid ((Below.refl w.heap.size w).alloc (Nat.le_refl _) (.cells #[.slice none 0 0, .slice none 0 0, .slice none 0 0] 27))
  have HR0 := Lib.hid (Blk.new w 27 #[.slice none 0 0, .slice none 0 0, .slice none 0 0])
  have HC0 := Lib.hid (hc.keep HB0.out)
  have HE := Lib.hid (fun (x : Nat) (W : World) (hx : x ≤ 65535) => (by
    have := neEmpty_any (x + 1) W (by omega)
    rw [show ((x + 1 : Nat) : Int) = 1 + (x : Int) by omega] at this
    exact this : Calls Tryz.prog 120 #[.int .i64 (1 + (x : Int))] W (RetNt W (emptyN (x + 1)))))
  clear hc hf
  go_enter Tryz.func116, Tryz.ntmps116
  go_wp2_with fail
  have hza : (w.alloc (.cells #[.slice none 0 0, .slice none 0 0, .slice none 0 0] 27)).heap.size = w.heap.size + 1 := by simp
  generalize w.alloc (.cells #[.slice none 0 0, .slice none 0 0, .slice none 0 0] 27) = wa at *
  go_upto_region 2 with (first
    | (go_at_call 63; refine (pick_any _ gc cv L A m HC0.out (by omega)).mono ?_; rintro e w1 ⟨x, rfl, hpx, hc1, hg1⟩; obtain ⟨xn, rfl⟩ : ∃ xn : Nat, x = (xn : Int) := ⟨x.toNat, by have := hpx.1; omega⟩; have hx1 := hpx.1; have hx2 := hpx.2.1; have hx3 := hpx.2.2; clear hpx)
    | (go_at_call 120; refine (HE.out xn _ (by omega)).mono ?_; rintro e w2 ⟨v2, rfl, ho2, hb2⟩; obtain ⟨E0, e0, E1, e1, E2, e2, rfl⟩ := ho2.parts))
  have hza1 := hg1.size
  have hza2 := hb2.size
  have hn1 : xn + 1 ≤ m := by omega
  have hres2 := (HR0.out.grown hg1 (by simp; omega)).below hb2
  have hcb2 : CurB w.heap.size gc w w2 := (CurB.of_below HB0.out (Nat.le_refl _)).trans ((CurB.of_grown hg1 (by omega)).trans (CurB.of_below hb2 (by omega)))
  have HO2 := Lib.hid (ho2.below ((Below.refl w2.heap.size w2).alloc (Nat.le_refl _) (.cells #[.slice E0 (emptyN (xn + 1)).ends.length e0, .slice E1 (emptyN (xn + 1)).ids.length e1, .slice E2 (emptyN (xn + 1)).inputs.length e2] 27)))
  have HX2 := Lib.hid (Blk.new w2 27 #[.slice E0 (emptyN (xn + 1)).ends.length e0, .slice E1 (emptyN (xn + 1)).ids.length e1, .slice E2 (emptyN (xn + 1)).inputs.length e2])
  have HC2 := Lib.hid ((hc1.keep hb2).keep ((Below.refl w2.heap.size w2).alloc (Nat.le_refl _) (.cells #[.slice E0 (emptyN (xn + 1)).ends.length e0, .slice E1 (emptyN (xn + 1)).ids.length e1, .slice E2 (emptyN (xn + 1)).inputs.length e2] 27)))
  have HRE := Lib.hid (hres2.alloc (.cells #[.slice E0 (emptyN (xn + 1)).ends.length e0, .slice E1 (emptyN (xn + 1)).ids.length e1, .slice E2 (emptyN (xn + 1)).inputs.length e2] 27))
  have HCB := Lib.hid (hcb2.alloc (by omega) (.cells #[.slice E0 (emptyN (xn + 1)).ends.length e0, .slice E1 (emptyN (xn + 1)).ids.length e1, .slice E2 (emptyN (xn + 1)).inputs.length e2] 27))
  obtain ⟨g5, hg5⟩ : ∃ g, g = w2.heap.size := ⟨_, rfl⟩
  have hg5b : w.heap.size + 1 ≤ g5 := by omega
  rw [← hg5] at HX2
  rw [← hg5]
  have HOX := Lib.hid (HO2.out.mono (B' := w.heap.size + 1) (by omega))
  generalize w2.alloc (.cells #[.slice E0 (emptyN (xn + 1)).ends.length e0, .slice E1 (emptyN (xn + 1)).ids.length e1, .slice E2 (emptyN (xn + 1)).inputs.length e2] 27) = wb at *
  have hgr := (Drawn.empty (n := xn + 1) (m := m) (by omega) hn1)
  have hle : (emptyN (xn + 1)).ends.length = xn + 1 := by simp [emptyN]
  have HGR := Lib.hid hgr
  have HLE := Lib.hid hle
  clear hres2 hcb2 ho2 hb2 hc1 hg1 HO2 hg5 hza2 hza1 hgr hle HC0 HR0 HE
  have kb0 := HX2.out.cell
  go_wp2_with fail
  clear kb0
  rw [HLE.out]
  go_loopw [15] (fun x15 wr => ∃ (v : Nat) (N : Net) (F0 F1 F2 : Option Addr) (f0 f1 f2 : Nat), x15 = .int .i64 v ∧ v ≤ xn + 1 ∧ N.ends.length = xn + 1 ∧ Drawn m (2 * v) N ∧ Blk wr g5 27 #[.slice F0 N.ends.length f0, .slice F1 N.ids.length f1, .slice F2 N.inputs.length f2] ∧
      OwnNt wr (w.heap.size + 1) (.agg #[.slice F0 N.ends.length f0, .slice F1 N.ids.length f1, .slice F2 N.inputs.length f2]) N ∧ CurR wr gc cv L (A + 2) ∧ CurB w.heap.size gc w wr ∧ Blk wr w.heap.size 27 #[.slice none 0 0, .slice none 0 0, .slice none 0 0])
    (fun x15 _ => xn + 1 - (intOf x15).toNat)
  case atStart => exact ⟨0, emptyN (xn + 1), E0, E1, E2, e0, e1, e2, rfl, by omega, HLE.out, HGR.out, HX2.out, HOX.out, HC2.out.mono (by omega), HCB.out, HRE.out⟩
  case round =>
    clear HX2 HOX HC2 HCB HRE HGR
    obtain ⟨v, N, F0, F1, F2, f0, f1, f2, rfl, hv2, hN, hgr, hbx, hown, hcur, hcb, hres⟩ := hrel
    have HN := Lib.hid hN
    have HGR := Lib.hid hgr
    have HBX := Lib.hid hbx
    have HOW := Lib.hid hown
    have HCU := Lib.hid hcur
    have HCB := Lib.hid hcb
    have HRE := Lib.hid hres
    have hzr := hbx.lt
    have kb := hbx.cell
    clear hN hgr hbx hown hcur hcb hres
    by_cases hlt : v < xn + 1
    · have HSM := Lib.hid (HGR.out.small (by omega) (by omega))
      have hvN : v < N.ends.length := by have := HN.out; omega
      have hkb : ∀ (x : BW wr) i, x.wd.cell? ⟨g5, i, none⟩ = (#[.slice F0 N.ends.length f0, .slice F1 N.ids.length f1, .slice F2 N.inputs.length f2] : Array Value)[i]? := fun x i => (x.cell _ _ hzr).trans (kb i)
      go_upto_region 5 with fail
      obtain ⟨q, hq⟩ : ∃ q : Nat, q = (v + 1) % N.ends.length := ⟨_, rfl⟩
      have hqN : q < N.ends.length := by rw [hq]; exact Nat.mod_lt _ (by omega)
      have hqr : ((v : Int) + 1) % (N.ends.length : Int) = (q : Int) := by rw [hq]; norm_cast
      clear hq
      refine wp_region_makeZ (fun i => match i with | 8 => some (mkNt (joinN N v q)) | _ => none) 9 1000 (by kernel_rfl) (by kernel_rfl) (by intro o ho; first | (cases ho; done) | (cases ho; intro _ _ _ _ h; exact h)) ?_
      simp only [List.take_succ_cons, List.take_zero, List.drop_succ_cons, List.drop_zero]
      refine wpMk_quiet 8 _ _ _ rfl rfl ?_
      simp only [List.take_succ_cons, List.take_zero, List.drop_succ_cons, List.drop_zero]
      repeat (go_big_quiet_step (fail))
      refine wpQuiet_nil ?_
      rw [hqr]
      clear hqr
      refine wpMk_make _ 26 rfl rfl (by simp) (fun x hneed => by { go_wp2_with (go_at_call 122; refine (neJoin_any (S := fun _ => True) _ N v q _ ((HOW.out.below x.h).net (fun _ _ _ => trivial)) HSM.out hvN hqN).mono ?_; rintro e x' ⟨v5, rfl, ho, hb⟩); exact mkNt.gives hb ho }) rfl ?_
      rintro v26 b26 e26 ⟨G0, d0, G1, d1, G2, d2, rfl⟩
      simp only [Act.put, List.setIfInBounds_toArray, List.set_cons_zero, List.set_cons_succ]
      rintro y hby ⟨F26, -⟩ - hord
      have hb26 := (hord _ (List.mem_cons_self)).1
      simp only at hb26
      have F27 : OwnNt y b26 (.agg #[.slice G0 (joinN N v q).ends.length d0, .slice G1 (joinN N v q).ids.length d1, .slice G2 (joinN N v q).inputs.length d2]) (joinN N v q) := F26
      obtain ⟨p1, p2, p3, p4, p5⟩ := boxStore (BO := w.heap.size + 1) HBX.out HRE.out (by omega) HCU.out HCB.out HF.out hgc (by omega) (by omega) hby (F27.mono hb26)
      have hby3 := HBX.out.below hby
      have kb5 := hby3.cell
      have kf5 := hby3.free
      have HP := Lib.hid (And.intro p1 (And.intro p2 (And.intro p3 (And.intro p4 p5))))
      have HD := Lib.hid ((HGR.out.join hvN hqN).mono (Nat.le_refl m) (by omega : 2 * v + 2 ≤ 2 * (v + 1)))
      clear F26 F27 hord p1 p2 p3 p4 p5 kb hkb
      go_wp2_with fail
      go_roundw
      case rel => exact ⟨v + 1, joinN N v q, G0, G1, G2, d0, d1, d2, by go_num, by omega, by have := HN.out; simpa [joinN, joinE_len] using this, HD.out, HP.out.1, HP.out.2.1, HP.out.2.2.1, HP.out.2.2.2.1, HP.out.2.2.2.2⟩
      case measure => simp [intOf]; omega
    · obtain rfl : v = xn + 1 := by omega
      have HDR := Lib.hid (HGR.out.mono (Nat.le_refl m) (by omega : 2 * (xn + 1) ≤ 80))
      have hwz : w.heap.size + 1 ≤ wr.heap.size := by omega
      clear HGR
      go_wp2_with (go_at_call 64; refine (one_any wr gc cv L (A + 2) 2 HCU.out (by omega)).mono ?_; rintro e w4 ⟨b, rfl, hc4, hg4⟩; have hbx4 := HBX.out.grown hg4 (by simp; omega); have kb4 := hbx4.cell; have hre4 := HRE.out.grown hg4 (by simp; omega); have kr4 := hre4.cell; have fr4 := hre4.free; clear kb; cases b)
      · have HOW4 := Lib.hid (HOW.out.grown hg4 (by omega))
        have HC4 := Lib.hid hc4
        have HCB4 := Lib.hid (HCB.out.trans (CurB.of_grown hg4 (by have := HCB.out.size; omega)))
        have HRE4 := Lib.hid hre4
        have hwz4 : w.heap.size + 1 ≤ w4.heap.size := by have := hg4.size; omega
        clear hbx4 hre4 kr4 fr4 hc4 hg4
        go_wp2_with (go_at_call 123; refine (mixed_any w4 gc cv L (A + 2 + 2) (w.heap.size + 1) _ N HC4.out (by omega) (HF.out.mono (by omega)) (by omega) hwz4 HOW4.out (HDR.out.small (by omega) (by omega)) HDR.out.sym).mono ?_; rintro e w6 ⟨v6, N6, rfl, ho6, hal6, hc6, hcb6⟩; obtain ⟨G0, d0, G1, d1, G2, d2, rfl⟩ := ho6.parts; obtain ⟨hr6, q1, q2, q3⟩ := resStore HRE4.out HF.out hgc HCB4.out ho6 hc6 hcb6; have HQ := Lib.hid (And.intro q1 (And.intro q2 q3)); have HAL := Lib.hid hal6; have kr := hr6.cell; have fr := hr6.free; have hfin := (set3_blk (x := .slice G0 N6.ends.length d0) (y := .slice G1 N6.ids.length d1) (z := .slice G2 N6.inputs.length d2) hr6).cell; clear ho6 hal6 hc6 hcb6 hr6 q1 q2 q3 kb4)
        unfold set3 at hfin
        exact bodyPost_ret (v := .agg #[.slice G0 N6.ends.length d0, .slice G1 N6.ids.length d1, .slice G2 N6.inputs.length d2]) (by simp [results, Tryz.results116, go_sem, hfin]) rfl ⟨_, N6, rfl, HQ.out.1, HDR.out.alike HAL.out, HQ.out.2.1.mono (by omega), HQ.out.2.2⟩
      · obtain ⟨-, q1, q2, q3⟩ := resStore (w6 := w4) HRE.out HF.out hgc HCB.out (HOW.out.grown hg4 (by omega)) hc4 (CurB.of_grown hg4 (by omega))
        have HQ := Lib.hid (And.intro q1 (And.intro q2 q3))
        have hfin := (set3_blk (x := .slice F0 N.ends.length f0) (y := .slice F1 N.ids.length f1) (z := .slice F2 N.inputs.length f2) hre4).cell
        unfold set3 at hfin
        clear q1 q2 q3 hc4 hg4 hbx4 hre4
        go_wp2_with fail
        exact bodyPost_ret (v := .agg #[.slice F0 N.ends.length f0, .slice F1 N.ids.length f1, .slice F2 N.inputs.length f2]) (by simp [results, Tryz.results116, go_sem, hfin]) rfl ⟨_, N, rfl, HQ.out.1, HDR.out, HQ.out.2.1.mono (by omega), HQ.out.2.2⟩
end Go.Proofs.YtljjbhihllnnaaaGreat

namespace Go.Proofs.YtljjbhihllnnaaaGreat
open Go.RowKit

set_option maxRecDepth 100000 in
set_option maxHeartbeats 8000000 in
theorem net_any (w : World) (gc : Nat) (cv : Value) (L A m : Nat) (hc : CurR w gc cv L A) (hp : A + 576460752303423488 ≤ 4611686018427387900) (hf : FarV cv w.heap.size) (hm1 : 1 ≤ m) (hm2 : m ≤ 38) :
    Calls Tryz.prog 62 #[.pointer (some ⟨gc, 0, none⟩), .int .i64 m] w (RetDr w w.heap.size gc cv L (A + 576460752303423488) (Drawn (m + 2) 400)) := by
  have hgc := hc.lt
  have HF := Lib.hid hf
  have HB0 := Lib.hid ((Below.refl w.heap.size w).alloc (Nat.le_refl _) (.cells #[.slice none 0 0, .slice none 0 0, .slice none 0 0] 27))
  have HR0 := Lib.hid (Blk.new w 27 #[.slice none 0 0, .slice none 0 0, .slice none 0 0])
  have HC0 := Lib.hid (hc.keep HB0.out)
  clear hc hf
  go_enter Tryz.func62, Tryz.ntmps62
  go_wp2_with fail
  have hza : (w.alloc (.cells #[.slice none 0 0, .slice none 0 0, .slice none 0 0] 27)).heap.size = w.heap.size + 1 := by simp
  generalize w.alloc (.cells #[.slice none 0 0, .slice none 0 0, .slice none 0 0] 27) = wa at *
  go_upto_region 2 with (go_at_call 63; refine (pick_any _ gc cv L A 6 HC0.out (by omega)).mono ?_; rintro e w3 ⟨x, rfl, hpx, hc3, hg3⟩; obtain ⟨x0, rfl⟩ : ∃ x0 : Nat, x = (x0 : Int) := ⟨x.toNat, by have := hpx.1; omega⟩; have hx0 : x0 < 6 := by { have := hpx.2.2; omega }; clear hpx)
  have hz3 := hg3.size
  have HRE := Lib.hid (HR0.out.grown hg3 (by simp; omega))
  have HCB := Lib.hid ((CurB.of_below HB0.out (Nat.le_refl _)).trans (CurB.of_grown (B := w.heap.size) hg3 (by omega)))
  have HC := Lib.hid hc3
  have hw1 : w.heap.size + 1 ≤ w3.heap.size := by omega
  clear hc3 hg3 HC0 HR0 HB0
  rcases (by omega : x0 = 0 ∨ x0 = 1 ∨ x0 = 2 ∨ x0 = 3 ∨ x0 = 4 ∨ x0 = 5) with rfl | rfl | rfl | rfl | rfl | rfl
  all_goals clear hx0
  · have hN0 : True := trivial
    go_wp2_with (go_at_call 116; refine (ring_any w3 gc cv L (A + 2) m HC.out (by omega) (HF.out.mono (by omega)) hm1 (by omega)).mono ?_; rintro e w6 ⟨v6, N6, rfl, ho6, hd6, hc6, hcb6⟩; obtain ⟨G0, d0, G1, d1, G2, d2, rfl⟩ := ho6.parts; obtain ⟨hr6, q1, q2, q3⟩ := resStore HRE.out HF.out hgc HCB.out (ho6.mono (by omega)) hc6 (hcb6.mono (by omega)); have HQ := Lib.hid (And.intro q1 (And.intro q2 q3)); have HAL := Lib.hid hd6; have kr := hr6.cell; have fr := hr6.free; have hfin := (set3_blk (x := .slice G0 N6.ends.length d0) (y := .slice G1 N6.ids.length d1) (z := .slice G2 N6.inputs.length d2) hr6).cell; clear ho6 hd6 hc6 hcb6 hr6 q1 q2 q3)
    unfold set3 at hfin
    exact bodyPost_ret (v := .agg #[.slice G0 N6.ends.length d0, .slice G1 N6.ids.length d1, .slice G2 N6.inputs.length d2]) (by simp [results, Tryz.results62, go_sem, hfin]) rfl ⟨_, N6, rfl, HQ.out.1, HAL.out.mono (by omega) (by omega), HQ.out.2.1.mono (by omega), HQ.out.2.2⟩
  · have hN0 : True := trivial
    go_wp2_with (go_at_call 117; refine (tree_any w3 gc cv L (A + 2) m HC.out (by omega) (HF.out.mono (by omega)) hm1 (by omega)).mono ?_; rintro e w6 ⟨v6, N6, rfl, ho6, hd6, hc6, hcb6⟩; obtain ⟨G0, d0, G1, d1, G2, d2, rfl⟩ := ho6.parts; obtain ⟨hr6, q1, q2, q3⟩ := resStore HRE.out HF.out hgc HCB.out (ho6.mono (by omega)) hc6 (hcb6.mono (by omega)); have HQ := Lib.hid (And.intro q1 (And.intro q2 q3)); have HAL := Lib.hid hd6; have kr := hr6.cell; have fr := hr6.free; have hfin := (set3_blk (x := .slice G0 N6.ends.length d0) (y := .slice G1 N6.ids.length d1) (z := .slice G2 N6.inputs.length d2) hr6).cell; clear ho6 hd6 hc6 hcb6 hr6 q1 q2 q3)
    unfold set3 at hfin
    exact bodyPost_ret (v := .agg #[.slice G0 N6.ends.length d0, .slice G1 N6.ids.length d1, .slice G2 N6.inputs.length d2]) (by simp [results, Tryz.results62, go_sem, hfin]) rfl ⟨_, N6, rfl, HQ.out.1, HAL.out.mono (by omega) (by omega), HQ.out.2.1.mono (by omega), HQ.out.2.2⟩
  · have hN0 : True := trivial
    go_wp2_with (go_at_call 118; refine (simple_any w3 gc cv L (A + 2) m HC.out (by omega) (HF.out.mono (by omega)) hm1 (by omega)).mono ?_; rintro e w6 ⟨v6, N6, rfl, ho6, hd6, hc6, hcb6⟩; obtain ⟨G0, d0, G1, d1, G2, d2, rfl⟩ := ho6.parts; obtain ⟨hr6, q1, q2, q3⟩ := resStore HRE.out HF.out hgc HCB.out (ho6.mono (by omega)) hc6 (hcb6.mono (by omega)); have HQ := Lib.hid (And.intro q1 (And.intro q2 q3)); have HAL := Lib.hid hd6; have kr := hr6.cell; have fr := hr6.free; have hfin := (set3_blk (x := .slice G0 N6.ends.length d0) (y := .slice G1 N6.ids.length d1) (z := .slice G2 N6.inputs.length d2) hr6).cell; clear ho6 hd6 hc6 hcb6 hr6 q1 q2 q3)
    unfold set3 at hfin
    exact bodyPost_ret (v := .agg #[.slice G0 N6.ends.length d0, .slice G1 N6.ids.length d1, .slice G2 N6.inputs.length d2]) (by simp [results, Tryz.results62, go_sem, hfin]) rfl ⟨_, N6, rfl, HQ.out.1, HAL.out.mono (by omega) (by omega), HQ.out.2.1.mono (by omega), HQ.out.2.2⟩
  · have hN0 : True := trivial
    go_wp2_with (go_at_call 118; refine (simple_any w3 gc cv L (A + 2) m HC.out (by omega) (HF.out.mono (by omega)) hm1 (by omega)).mono ?_; rintro e w6 ⟨v6, N6, rfl, ho6, hd6, hc6, hcb6⟩; obtain ⟨G0, d0, G1, d1, G2, d2, rfl⟩ := ho6.parts; obtain ⟨hr6, q1, q2, q3⟩ := resStore HRE.out HF.out hgc HCB.out (ho6.mono (by omega)) hc6 (hcb6.mono (by omega)); have HQ := Lib.hid (And.intro q1 (And.intro q2 q3)); have HAL := Lib.hid hd6; have kr := hr6.cell; have fr := hr6.free; have hfin := (set3_blk (x := .slice G0 N6.ends.length d0) (y := .slice G1 N6.ids.length d1) (z := .slice G2 N6.inputs.length d2) hr6).cell; clear ho6 hd6 hc6 hcb6 hr6 q1 q2 q3)
    unfold set3 at hfin
    exact bodyPost_ret (v := .agg #[.slice G0 N6.ends.length d0, .slice G1 N6.ids.length d1, .slice G2 N6.inputs.length d2]) (by simp [results, Tryz.results62, go_sem, hfin]) rfl ⟨_, N6, rfl, HQ.out.1, HAL.out.mono (by omega) (by omega), HQ.out.2.1.mono (by omega), HQ.out.2.2⟩
  · have HS := Lib.hid ((by
      have := simple_any w3 gc cv L (A + 2) (m / 2 + 1) HC.out (by omega) (HF.out.mono (by omega)) (by omega) (by omega)
      rw [show ((m / 2 + 1 : Nat) : Int) = (m : Int) / 2 + 1 by omega] at this
      exact this : Calls Tryz.prog 118 #[.pointer (some ⟨gc, 0, none⟩), .int .i64 ((m : Int) / 2 + 1)] w3 (RetDr w3 w3.heap.size gc cv L (A + 2 + 144115188075855872) (Drawn (m / 2 + 1) 200))))
    have HG := Lib.hid (fun (W : World) (hC : CurR W gc cv L (A + 2 + 144115188075855872)) (hF : FarV cv W.heap.size) => (by
      have := ring_any W gc cv L (A + 2 + 144115188075855872) (m / 2 + 1) hC (by omega) hF (by omega) (by omega)
      rw [show ((m / 2 + 1 : Nat) : Int) = (m : Int) / 2 + 1 by omega] at this
      exact this : Calls Tryz.prog 116 #[.pointer (some ⟨gc, 0, none⟩), .int .i64 ((m : Int) / 2 + 1)] W (RetDr W W.heap.size gc cv L (A + 2 + 144115188075855872 + 72057594037927936) (Drawn (m / 2 + 1) 80))))
    have HWQ : Hid (IntKind.i64.wrap (IntKind.i64.wrap ((m : Int) / 2) + 1) = (m : Int) / 2 + 1) := Lib.hid (by rw [IntWalk.i64_in ((m : Int) / 2) (by omega), IntWalk.i64_in _ (by omega)])
    go_upto_region 11 with (go_at_call 118; refine HS.out.mono ?_; rintro e w6 ⟨v6, N6, rfl, ho6, hd6, hc6, hcb6⟩; obtain ⟨E0, e0, E1, e1, E2, e2, rfl⟩ := ho6.parts)
    have hz6 := hcb6.size
    have hres6 := HRE.out.curB hcb6 (by omega) (by omega)
    have hcbw := HCB.out.trans (hcb6.mono (by omega : w.heap.size ≤ w3.heap.size))
    have HX7 := Lib.hid (Blk.new w6 27 #[.slice E0 N6.ends.length e0, .slice E1 N6.ids.length e1, .slice E2 N6.inputs.length e2])
    have HO7 := Lib.hid (ho6.below ((Below.refl w6.heap.size w6).alloc (Nat.le_refl _) (.cells #[.slice E0 N6.ends.length e0, .slice E1 N6.ids.length e1, .slice E2 N6.inputs.length e2] 27)))
    have HC7 := Lib.hid (hc6.keep ((Below.refl w6.heap.size w6).alloc (Nat.le_refl _) (.cells #[.slice E0 N6.ends.length e0, .slice E1 N6.ids.length e1, .slice E2 N6.inputs.length e2] 27)))
    have HRE7 := Lib.hid (hres6.alloc (.cells #[.slice E0 N6.ends.length e0, .slice E1 N6.ids.length e1, .slice E2 N6.inputs.length e2] 27))
    have HCB7 := Lib.hid (hcbw.alloc (by omega) (.cells #[.slice E0 N6.ends.length e0, .slice E1 N6.ids.length e1, .slice E2 N6.inputs.length e2] 27))
    have HD6 := Lib.hid hd6
    obtain ⟨g5, hg5⟩ : ∃ g, g = w6.heap.size := ⟨_, rfl⟩
    have hg5b : w.heap.size + 1 ≤ g5 := by omega
    rw [← hg5] at HX7
    rw [← hg5]
    generalize w6.alloc (.cells #[.slice E0 N6.ends.length e0, .slice E1 N6.ids.length e1, .slice E2 N6.inputs.length e2] 27) = w7 at *
    have hx7 := HX7.out.lt
    have kb7 := HX7.out.cell
    have hkd : ∀ i, (w7.drew).cell? ⟨g5, i, none⟩ = (#[.slice E0 N6.ends.length e0, .slice E1 N6.ids.length e1, .slice E2 N6.inputs.length e2] : Array Value)[i]? := kb7
    clear hres6 hcbw ho6 hd6 hc6 hcb6 hg5 HC HRE HCB HS
    go_region_with (first
      | (go_at_call 116; rw [HWQ.out]; refine (HG.out w7.drew (HC7.out.keep (Below.refl _ _).drew) (HF.out.mono (by simp; omega))).mono ?_; rintro e w8 ⟨v8, N8, rfl, ho8, hd8, hc8, hcb8⟩; obtain ⟨G0, d0, G1, d1, G2, d2, rfl⟩ := ho8.parts; have hbx8 := Blk.curB (w := w7.drew) HX7.out hcb8 (by simp; omega) (by omega); have kb8 := hbx8.cell; have hzz8 : w7.heap.size ≤ w8.heap.size := hcb8.size)
      | (go_at_call 119; refine (neUnion_any (S := fun _ => True) (S' := fun _ => True) _ _ N6 N8 _ (OwnNt.net (OwnNt.keepB (w := w7) HO7.out (fun b hb hl => hcb8.block b (by simpa using hl) (by omega))) (fun _ _ _ => trivial)) (ho8.net (fun _ _ _ => trivial)) (HD6.out.small (by omega) (by omega)) (hd8.small (by omega) (by omega)) hd8.sym).mono ?_; rintro e w9 ⟨v9, rfl, ho9, hb9⟩; obtain ⟨J0, j0, J1, j1, J2, j2, rfl⟩ := ho9.parts; have hr8 := Blk.curB (w := w7.drew) HRE7.out hcb8 (by simp; omega) (by omega); have hr9 := hr8.below hb9; have kr := hr9.cell; have fr := hr9.free))
    all_goals
      obtain ⟨q0, q1, q2, q3, -⟩ := boxStore (w := w) (B := w.heap.size) (BO := w.heap.size) hr8 hbx8 (by omega) hc8 ((HCB7.out.trans (CurB.of_below (Below.refl w7.heap.size w7).drew (by omega))).trans (hcb8.mono (by simp; omega))) HF.out hgc (Nat.le_refl _) (by omega) hb9 ho9
      have HQ := Lib.hid (And.intro q1 (And.intro q2 q3))
      have hfin := q0.cell
      have HDU := Lib.hid ((HD6.out.union hd8).mono (by omega : (m / 2 + 1) + (m / 2 + 1) ≤ m + 2) (by omega : max 200 80 ≤ 400))
      clear q0 q1 q2 q3 hb9 ho9 hr8 hr9 hbx8 kb8 hc8 hd8 hcb8 ho8 hkd kb7
      go_wp2_with fail
      unfold set3 at hfin
      exact bodyPost_ret (v := .agg #[.slice J0 (unionN N6 N8).ends.length j0, .slice J1 (unionN N6 N8).ids.length j1, .slice J2 (unionN N6 N8).inputs.length j2]) (by simp [results, Tryz.results62, go_sem, hfin]) rfl ⟨_, unionN N6 N8, rfl, HQ.out.1, HDU.out, HQ.out.2.1.mono (by omega), HQ.out.2.2⟩
  · have HE := Lib.hid (fun (x : Nat) (W : World) (hx : x ≤ 65535) => (by
      have := neEmpty_any (x + 1) W (by omega)
      rw [show ((x + 1 : Nat) : Int) = 1 + (x : Int) by omega] at this
      exact this : Calls Tryz.prog 120 #[.int .i64 (1 + (x : Int))] W (RetNt W (emptyN (x + 1)))))
    go_upto_region 13 with (first
      | (go_at_call 63; refine (pick_any _ gc cv L (A + 2) m HC.out (by omega)).mono ?_; rintro e w1 ⟨x, rfl, hpx, hc1, hg1⟩; obtain ⟨xn, rfl⟩ : ∃ xn : Nat, x = (xn : Int) := ⟨x.toNat, by have := hpx.1; omega⟩; have hx1 := hpx.1; have hx2 := hpx.2.1; have hx3 := hpx.2.2; clear hpx)
      | (go_at_call 120; refine (HE.out xn _ (by omega)).mono ?_; rintro e w2 ⟨v2, rfl, ho2, hb2⟩; obtain ⟨E0, e0, E1, e1, E2, e2, rfl⟩ := ho2.parts))
    have hza1 := hg1.size
    have hza2 := hb2.size
    have hn1 : xn + 1 ≤ m := by omega
    have hres2 := (HRE.out.grown hg1 (by simp; omega)).below hb2
    have hcb2 : CurB w.heap.size gc w w2 := HCB.out.trans ((CurB.of_grown hg1 (by omega)).trans (CurB.of_below hb2 (by omega)))
    have HO2 := Lib.hid (ho2.below ((Below.refl w2.heap.size w2).alloc (Nat.le_refl _) (.cells #[.slice E0 (emptyN (xn + 1)).ends.length e0, .slice E1 (emptyN (xn + 1)).ids.length e1, .slice E2 (emptyN (xn + 1)).inputs.length e2] 27)))
    have HX2 := Lib.hid (Blk.new w2 27 #[.slice E0 (emptyN (xn + 1)).ends.length e0, .slice E1 (emptyN (xn + 1)).ids.length e1, .slice E2 (emptyN (xn + 1)).inputs.length e2])
    have HC2 := Lib.hid ((hc1.keep hb2).keep ((Below.refl w2.heap.size w2).alloc (Nat.le_refl _) (.cells #[.slice E0 (emptyN (xn + 1)).ends.length e0, .slice E1 (emptyN (xn + 1)).ids.length e1, .slice E2 (emptyN (xn + 1)).inputs.length e2] 27)))
    have HR2 := Lib.hid (hres2.alloc (.cells #[.slice E0 (emptyN (xn + 1)).ends.length e0, .slice E1 (emptyN (xn + 1)).ids.length e1, .slice E2 (emptyN (xn + 1)).inputs.length e2] 27))
    have HB2 := Lib.hid (hcb2.alloc (by omega) (.cells #[.slice E0 (emptyN (xn + 1)).ends.length e0, .slice E1 (emptyN (xn + 1)).ids.length e1, .slice E2 (emptyN (xn + 1)).inputs.length e2] 27))
    obtain ⟨g5, hg5⟩ : ∃ g, g = w2.heap.size := ⟨_, rfl⟩
    have hg5b : w.heap.size + 1 ≤ g5 := by omega
    rw [← hg5] at HX2
    rw [← hg5]
    have HOX := Lib.hid (HO2.out.mono (B' := w.heap.size + 1) (by omega))
    generalize w2.alloc (.cells #[.slice E0 (emptyN (xn + 1)).ends.length e0, .slice E1 (emptyN (xn + 1)).ids.length e1, .slice E2 (emptyN (xn + 1)).inputs.length e2] 27) = wb at *
    have hle : (emptyN (xn + 1)).ends.length = xn + 1 := by simp [emptyN]
    have HDR := Lib.hid (Drawn.empty (n := xn + 1) (m := m) (by omega) hn1)
    rw [hle] at HX2 HOX
    rw [hle]
    have HLE := Lib.hid hle
    have kb0 := HX2.out.cell
    have hx5 := HX2.out.lt
    clear hres2 hcb2 ho2 hb2 hc1 hg1 HO2 hg5 hza2 hza1 hle HC HRE HCB HE
    go_upto_region 14 with (go_at_call 63; refine (pick_any wb gc cv L (A + 2 + 2) _ HC2.out (by omega)).mono ?_; rintro e w4 ⟨x, rfl, hpx, hc3, hg3⟩; obtain ⟨kn, rfl⟩ : ∃ kn : Nat, x = (kn : Int) := ⟨x.toNat, by have := hpx.1; omega⟩; have hkn : kn ≤ 80 := by { have := hpx.2.2; omega }; clear hpx)
    have HX3 := Lib.hid (HX2.out.grown hg3 (by simp; omega))
    have HO3 := Lib.hid (HOX.out.grown hg3 (by omega))
    have HCB3 := Lib.hid (HB2.out.trans (CurB.of_grown hg3 (by have := HB2.out.size; omega)))
    have HRE3 := Lib.hid (HR2.out.grown hg3 (by simp; omega))
    have HC3 := Lib.hid hc3
    clear hg3 hc3 kb0 HX2 HOX HC2 HR2 HB2
    go_loopw [7] (fun x7 wr => ∃ (k : Nat) (N : Net) (F0 F1 F2 : Option Addr) (f0 f1 f2 : Nat), x7 = .int .i64 k ∧ k ≤ 80 ∧ Drawn m (2 * (80 - k)) N ∧ Blk wr g5 27 #[.slice F0 N.ends.length f0, .slice F1 N.ids.length f1, .slice F2 N.inputs.length f2] ∧
        OwnNt wr (w.heap.size + 1) (.agg #[.slice F0 N.ends.length f0, .slice F1 N.ids.length f1, .slice F2 N.inputs.length f2]) N ∧ CurR wr gc cv L (A + 2 + 4 + 8 * (80 - k)) ∧ CurB w.heap.size gc w wr ∧ Blk wr w.heap.size 27 #[.slice none 0 0, .slice none 0 0, .slice none 0 0])
      (fun x7 _ => (intOf x7).toNat)
    case atStart => exact ⟨kn, emptyN (xn + 1), E0, E1, E2, e0, e1, e2, rfl, hkn, HDR.out.mono (Nat.le_refl m) (by omega), by rw [HLE.out]; exact HX3.out, by rw [HLE.out]; exact HO3.out, HC3.out.mono (by omega), HCB3.out, HRE3.out⟩
    case round =>
      clear HX3 HO3 HC3 HCB3 HRE3 HDR HLE
      obtain ⟨k, N, F0, F1, F2, f0, f1, f2, rfl, hk, hdr, hbx, hown, hcur, hcb, hres⟩ := hrel
      obtain ⟨wr2, rfl⟩ : ∃ wr2, wr2 = wr := ⟨_, rfl⟩
      have HDR := Lib.hid hdr
      have HBX := Lib.hid hbx
      have HOW := Lib.hid hown
      have HCU := Lib.hid hcur
      have HCB := Lib.hid hcb
      have HRE := Lib.hid hres
      have hzr := hbx.lt
      have kb := hbx.cell
      have hp1 := hdr.pos
      have hp2 := hdr.len
      clear hdr hbx hown hcur hcb hres
      by_cases hlt : 0 < k
      · have hki : (0 : Int) < (k : Int) := by omega
        have HSM := Lib.hid (HDR.out.small (by omega) (by omega))
        go_upto_region 16 with fail
        go_cut [8, 9] (fun x7 x8 W => ∃ (a b : Nat), x7 = .int .i64 a ∧ x8 = .int .i64 b ∧ a < N.ends.length ∧ b < N.ends.length ∧ Blk W g5 27 #[.slice F0 N.ends.length f0, .slice F1 N.ids.length f1, .slice F2 N.inputs.length f2] ∧
          OwnNt W (w.heap.size + 1) (.agg #[.slice F0 N.ends.length f0, .slice F1 N.ids.length f1, .slice F2 N.inputs.length f2]) N ∧ CurR W gc cv L (A + 2 + 4 + 8 * (80 - k) + 4) ∧ CurB w.heap.size gc w W ∧ Blk W w.heap.size 27 #[.slice none 0 0, .slice none 0 0, .slice none 0 0])
        case first =>
          have hkd : ∀ i, (wr2.drew).cell? ⟨g5, i, none⟩ = (#[.slice F0 N.ends.length f0, .slice F1 N.ids.length f1, .slice F2 N.inputs.length f2] : Array Value)[i]? := kb
          go_region_with (first
            | (go_at_call 63; refine (pick_any _ gc cv L (A + 2 + 4 + 8 * (80 - k)) (N.ends.length : Int) (HCU.out.keep (Below.refl _ _).drew) (by omega)).mono ?_; rintro e w4 ⟨x, rfl, hpx, hc4, hg4⟩; have hbx4 := Blk.grown (w := wr2.drew) HBX.out hg4 (by simp; omega); have kb4 := hbx4.cell; obtain ⟨a, rfl⟩ : ∃ a : Nat, x = (a : Int) := ⟨x.toNat, by have := hpx.1; omega⟩)
            | (go_at_call 63; refine (pick_any _ gc cv L (A + 2 + 4 + 8 * (80 - k) + 2) (N.ends.length : Int) hc4 (by omega)).mono ?_; rintro e w5 ⟨y, rfl, hpy, hc5, hg5'⟩; have hbx5 := Blk.grown hbx4 hg5' (by simp; omega); have kb5 := hbx5.cell; obtain ⟨b, rfl⟩ : ∃ b : Nat, y = (b : Int) := ⟨y.toNat, by have := hpy.1; omega⟩))
          all_goals
            have FW := Lib.hid (((HOW.out.below (Below.refl wr2.heap.size wr2).drew).grown hg4 (by omega)).grown hg5' (by omega))
            have FCB := Lib.hid (((HCB.out.trans (CurB.of_below (Below.refl wr2.heap.size wr2).drew (by omega))).trans (CurB.of_grown hg4 (by simp; omega))).trans (CurB.of_grown hg5' (by have := hg4.size; simp at this; omega)))
            have FR := Lib.hid ((Blk.grown (w := wr2.drew) HRE.out hg4 (by simp; omega)).grown hg5' (by simp; omega))
            have FX := Lib.hid hbx5
            have FC := Lib.hid hc5
            have ha : a < N.ends.length := by have := hpx.2.2; omega
            have hb : b < N.ends.length := by have := hpy.2.2; omega
            clear hpx hpy hbx4 hbx5 kb4 kb5 hg4 hg5' hc4 hc5 hkd kb
            go_wp2_with fail
            go_meet
            exact ⟨a, b, rfl, rfl, ha, hb, FX.out, FW.out, FC.out.mono (by omega), FCB.out, FR.out⟩
        case rest =>
        clear HBX HOW HCU HCB HRE kb hzr
        obtain ⟨a, b, rfl, rfl, ha, hb, hbx, hown, hcur, hcb, hres⟩ := hcut
        obtain ⟨W, hW⟩ : ∃ W, W = wc := ⟨_, rfl⟩
        rw [← hW] at hbx hown hcur hcb hres ⊢
        clear hW
        have HBX := Lib.hid hbx
        have HOW := Lib.hid hown
        have HCU := Lib.hid hcur
        have HCB := Lib.hid hcb
        have HRE := Lib.hid hres
        have hzr := hbx.lt
        have kb := hbx.cell
        clear hbx hown hcur hcb hres
        go_upto_region 17 with fail
        go_cut [82] (fun vb W' => ∃ b' : Bool, vb = .bool b' ∧ W' = W)
        case first =>
          have hown1 := HOW.out
          obtain ⟨ve, vi, vn, hv, he, -, -⟩ := hown1.net (S := fun _ => True) (fun _ _ _ => trivial)
          obtain ⟨Ae, ce, rfl, -, -, hxe⟩ := he
          obtain ⟨be, offe, rfl, -, hce⟩ := hxe (by omega)
          obtain ⟨ua, hua, hra⟩ := hce a ha
          obtain ⟨Aa, ca, rfl, -, hma, -⟩ := hra
          obtain ⟨ub, hub, hrb⟩ := hce b hb
          obtain ⟨Ab, cb, rfl, -, hmb, -⟩ := hrb
          unfold maxLen at hma hmb
          simp only [Value.agg.injEq, Array.mk.injEq, List.cons.injEq, Value.slice.injEq] at hv
          obtain ⟨⟨rfl, -, rfl⟩, -⟩ := hv
          have iva1 : (0 : Int) ≤ (a : Int) := by omega
          have iva2 : (a : Int) < (N.ends.length : Int) := by omega
          have ivb1 : (0 : Int) ≤ (b : Int) := by omega
          have ivb2 : (b : Int) < (N.ends.length : Int) := by omega
          clear hxe hce hown1
          by_cases hd1 : (4 : Int) < ((gl N.ends a).length : Int)
          · go_wp2_with fail
            go_meet
            exact ⟨_, rfl, rfl⟩
          · by_cases hd2 : (4 : Int) < ((gl N.ends b).length : Int)
            · go_wp2_with fail
              go_meet
              exact ⟨_, rfl, rfl⟩
            · go_wp2_with fail
              go_meet
              exact ⟨_, rfl, rfl⟩
        case rest =>
        obtain ⟨b', rfl, hww⟩ := hcut
        subst hww
        cases b' with
        | true =>
          go_wp2_with fail
          refine ⟨⟨k - 1, N, F0, F1, F2, f0, f1, f2, by simp only [Value.int.injEq, true_and]; omega, by omega, HDR.out.mono (Nat.le_refl m) (by omega), HBX.out, HOW.out, HCU.out.mono (by omega), HCB.out, HRE.out⟩, ?_⟩
          simp [intOf]
          omega
        | false =>
          go_wp2_with (go_at_call 64; refine (one_any wc gc cv L (A + 2 + 4 + 8 * (80 - k) + 4) 5 HCU.out (by omega)).mono ?_; rintro e w5 ⟨b2, rfl, hc5, hg5'⟩; have hbx5 := HBX.out.grown hg5' (by simp; omega); have kb5 := hbx5.cell; clear kb; cases b2)
          all_goals
            have HX6 := Lib.hid hbx5
            have HO6 := Lib.hid (HOW.out.grown hg5' (by omega))
            have HC6 := Lib.hid hc5
            have HB6 := Lib.hid (HCB.out.trans (CurB.of_grown hg5' (by omega)))
            have HR6 := Lib.hid (HRE.out.grown hg5' (by simp; omega))
            have hz6 := hbx5.lt
            clear hg5' hc5 hbx5
            go_wp2_with (first
              | (go_at_call 122; refine (neJoin_any (S := fun _ => True) _ N a b _ (HO6.out.net (fun _ _ _ => trivial)) HSM.out ha hb).mono ?_; rintro e w7 ⟨v7, rfl, ho7, hb7⟩; obtain ⟨G0, d0, G1, d1, G2, d2, rfl⟩ := ho7.parts; have hbx7 := HX6.out.below hb7; have kb7 := hbx7.cell; have kf7 := hbx7.free; have HDN := Lib.hid (HDR.out.join ha hb))
              | (go_at_call 121; refine (neStub_any (S := fun _ => True) _ N a _ (HO6.out.net (fun _ _ _ => trivial)) HSM.out ha).mono ?_; rintro e w7 ⟨v7, rfl, ho7, hb7⟩; obtain ⟨G0, d0, G1, d1, G2, d2, rfl⟩ := ho7.parts; have hbx7 := HX6.out.below hb7; have kb7 := hbx7.cell; have kf7 := hbx7.free; have HDN := Lib.hid (HDR.out.stub ha)))
            obtain ⟨p1, p2, p3, p4, p5⟩ := boxStore (BO := w.heap.size + 1) HX6.out HR6.out (by omega) HC6.out HB6.out HF.out hgc (by omega) (by omega) hb7 ho7
            refine ⟨⟨k - 1, _, G0, G1, G2, d0, d1, d2, by simp only [Value.int.injEq, true_and]; omega, by omega, HDN.out.mono (Nat.le_refl m) (by omega), p1, p2, p3.mono (by omega), p4, p5⟩, ?_⟩
            simp [intOf]
            omega
      · obtain rfl : k = 0 := by omega
        have HDR2 := Lib.hid (HDR.out.mono (by omega : m ≤ m + 2) (by omega : 2 * (80 - 0) ≤ 400))
        have hwz : w.heap.size + 1 ≤ wr2.heap.size := by omega
        clear HDR
        go_wp2_with (go_at_call 123; refine (mixed_any wr2 gc cv L (A + 2 + 4 + 8 * (80 - 0)) (w.heap.size + 1) _ N HCU.out (by omega) (HF.out.mono (by omega)) (by omega) hwz HOW.out (HDR2.out.small (by omega) (by omega)) HDR2.out.sym).mono ?_; rintro e w6 ⟨v6, N6, rfl, ho6, hal6, hc6, hcb6⟩; obtain ⟨G0, d0, G1, d1, G2, d2, rfl⟩ := ho6.parts; obtain ⟨hr6, q1, q2, q3⟩ := resStore HRE.out HF.out hgc HCB.out ho6 hc6 hcb6; have HQ := Lib.hid (And.intro q1 (And.intro q2 q3)); have HAL := Lib.hid hal6; have kr := hr6.cell; have fr := hr6.free; have hfin := (set3_blk (x := .slice G0 N6.ends.length d0) (y := .slice G1 N6.ids.length d1) (z := .slice G2 N6.inputs.length d2) hr6).cell; clear ho6 hal6 hc6 hcb6 hr6 q1 q2 q3 kb)
        unfold set3 at hfin
        exact bodyPost_ret (v := .agg #[.slice G0 N6.ends.length d0, .slice G1 N6.ids.length d1, .slice G2 N6.inputs.length d2]) (by simp [results, Tryz.results62, go_sem, hfin]) rfl ⟨_, N6, rfl, HQ.out.1, HDR2.out.alike HAL.out, HQ.out.2.1.mono (by omega), HQ.out.2.2⟩
end Go.Proofs.YtljjbhihllnnaaaGreat
