/- Networks joined in memory: a list of slices appended, numbers appended, one number stored. No program's function in sight. -/
import Derived.Test.YtlaahgdikiiahaaCJn35
import Derived.Test.YtlaahgdikiiahaaCJn10
import Derived.Test.YtlaahgdikiiahaaCMkl
set_option linter.unusedSimpArgs false
set_option linter.unusedVariables false
namespace Go.Proofs.Ytlaahgdikiiahaa
open Go.RowKit
theorem run_append_slices (w : World) (ty : TypeId) (B : Nat) (v : Value) (n : Nat) (us : List Value) (hown : w.ownsRow B 38 1 v n us) (g m c1 : Nat) (vs : List Value) (hm : vs.length = m) (hvs : ∀ j q, vs[j]? = some q → w.cell? ⟨g, j, none⟩ = some q) (h1 : ∀ q ∈ vs, q.oneCell' = true) (hp : 0 < n + m) (hn : n + m ≤ 1048576) (hB : B ≤ w.heap.size) :
 ∃ A c w', (Builtin.append_ #[24, 24] ty #[v, .slice (some ⟨g, 0, none⟩) m c1]).run Try.prog w = .ok (.slice A (n + m) c) w' ∧ w'.ownsRow B 38 1 (.slice A (n + m) c) (n + m) (us ++ vs) ∧ w.grownBy w' v.ownBlock ∧ Lies w v (.slice A (n + m) c) := by
 obtain ⟨i0, hi, hz0, hz1, hz2⟩ := info_parts endsInf
 obtain ⟨v', w', hr, h2, h3, h4, h5⟩ := run_append_own_at (P := Try.prog) w B 24 ty 38 i0 _ 1 24 Try.underlying24 hi hz0 hz1 hz2 rfl (by omega) v n us hown ⟨g, 0, none⟩ m c1 vs (by rw [hm, Nat.mul_one]) (by
  intro j q hq
  rw [addr_add, Nat.zero_add]; exact hvs j q hq) h1 (by unfold maxLen; omega) (by omega) hB
 rcases h2.2 with ⟨_, h0⟩ | ⟨g', cap, cur, rfl, hrest⟩
 ·omega
 ·refine ⟨_, cap, w', hr, h2, h3, fun k hk => ?_⟩
  rcases h5 with h5 | h5
  ·exact .inl (h5 ▸ hk)
  ·rw [hk] at h5; exact .inr (Option.some.inj h5)
theorem wpList_append_slices (w : World) {ops : Array Oper} {rest : List Oper} {o : Oper} {a : Act} {Q : Exit → Act → World → Prop} (hgd : o.guard = none) (s x : Operand)
 (ho : o.op = .call { callee := .builtin .append, args := #[s, x], argTypes := #[24, 24] })
 (B : Nat) (v : Value) (n : Nat) (us : List Value) (hs : a.eval s = v) (hown : w.ownsRow B 38 1 v n us) (g m c1 : Nat) (vs : List Value) (hx : a.eval x = .slice (some ⟨g, 0, none⟩) m c1) (hm : vs.length = m) (hvs : ∀ j q, vs[j]? = some q → w.cell? ⟨g, j, none⟩ = some q) (h1 : ∀ q ∈ vs, q.oneCell' = true) (hp : 0 < n + m) (hn : n + m ≤ 1048576) (hB : B ≤ w.heap.size)
 (h : ∀ A c w', w'.ownsRow B 38 1 (.slice A (n + m) c) (n + m) (us ++ vs) → w.grownBy w' v.ownBlock → Lies w v (.slice A (n + m) c) → wpList Try.prog ops Q rest (a.put o.dst (.slice A (n + m) c)) w') :
 wpList Try.prog ops Q (o :: rest) a w := by
 refine wpList_plain hgd fun K hK => ?_
 obtain ⟨A, c, w', hr, h2, h3, h4⟩ := run_append_slices w o.type B v n us hown g m c1 vs hm hvs h1 hp hn hB
 unfold Oper.wp execOp
 simp only [ho, resolve, invoke, builtin, Sem.run_bind, Sem.run_pure, Result.andThen_ok, List.map_toArray, List.map_cons, List.map_nil, hs, hx, hr]
 exact hK _ _ (h A c w' h2 h3 h4)
theorem gl_append {e1 e2 : List (List (Int × Int))} {j : Nat} : gl (e1 ++ e2) j = if j < e1.length then gl e1 j else gl e2 (j - e1.length) := by
 unfold gl
 simp only [List.getD_eq_getElem?_getD]
 rw [List.getElem?_append]
 by_cases h : j < e1.length <;> simp [h]
theorem ownsRow_keepB {w w' : World} {B : Nat} {t : TypeId} {sz : Nat} {v : Value} {n : Nat} {xs : List Value} (h : w.ownsRow B t sz v n xs) (hk : ∀ b, B ≤ b → b < w.heap.size → w'.heap[b]? = w.heap[b]?) : w'.ownsRow B t sz v n xs := by
 refine ⟨h.1, ?_⟩
 rcases h.2 with h4 | ⟨g, cap, cur, h1, hB, hh, hr⟩
 ·exact .inl h4
 ·exact .inr ⟨g, cap, cur, h1, hB, (hk g hB (Array.getElem?_eq_some_iff.1 hh).1).trans hh, hr⟩
theorem OwnEs.joinRows {W w2 : World} {b1 : Nat} {v' : Value} {e1 e2 : List (List (Int × Int))} {us1 us2 : Nat → Value}
 (hi1 : ∀ i, i < e1.length → OwnE W b1 (us1 i) (gl e1 i))
 (hd1 : ∀ i j, i < e1.length → j < e1.length → i ≠ j → ∀ g, (us1 i).ownBlock = some g → (us1 j).ownBlock ≠ some g)
 (hi2 : ∀ i, i < e2.length → OwnE W b1 (us2 i) (gl e2 i)) (hd2 : ∀ i j, i < e2.length → j < e2.length → i ≠ j → ∀ g, (us2 i).ownBlock = some g → (us2 j).ownBlock ≠ some g)
 (hx : ∀ i j, i < e1.length → j < e2.length → ∀ g, (us1 i).ownBlock = some g → (us2 j).ownBlock ≠ some g)
 (hr : w2.ownsRow b1 38 1 v' (e1.length + e2.length) ((List.range e1.length).map us1 ++ (List.range e2.length).map us2)) (hk : KeptBut 38 W w2) : OwnEs w2 b1 v' (e1 ++ e2) := by
 have ln : (e1 ++ e2).length = e1.length + e2.length := List.length_append
 have hus : (List.range (e1.length + e2.length)).map (fun j => if j < e1.length then us1 j else us2 (j - e1.length)) = (List.range e1.length).map us1 ++ (List.range e2.length).map us2 := by
  rw [List.range_add, List.map_append, List.map_map]
  congr 1
  ·exact List.map_congr_left fun a ha => if_pos (List.mem_range.1 ha)
  ·refine List.map_congr_left fun a _ => ?_
   have h1 : ¬ (e1.length + a < e1.length) := by omega
   simp [h1]
 refine ⟨fun j => if j < e1.length then us1 j else us2 (j - e1.length), by rw [ln, hus]; exact hr, fun j hj => ?_, fun a b ha hb' hne g hga => ?_⟩
 ·rw [ln] at hj
  rw [gl_append]
  by_cases h : j < e1.length
  ·simp only [h, if_true]
   exact (hi1 j h).but hk (by decide)
  ·simp only [h, if_false]
   exact (hi2 (j - e1.length) (by omega)).but hk (by decide)
 ·rw [ln] at ha hb'
  by_cases h : a < e1.length
  ·simp only [h, if_true] at hga
   by_cases h3 : b < e1.length
   ·simp only [h3, if_true]
    exact hd1 a b h h3 hne g hga
   ·simp only [h3, if_false]
    exact hx a (b - e1.length) h (by omega) g hga
  ·simp only [h, if_false] at hga
   by_cases h3 : b < e1.length
   ·simp only [h3, if_true]
    exact fun e => hx b (a - e1.length) h3 (by omega) g e hga
   ·simp only [h3, if_false]
    exact hd2 _ _ (by omega) (by omega) (by omega) g hga
section
variable {W W1 W' w2 : World} {B g gE cap v n : Nat} {x y z y' z' : Value} {N : Net} {es : List (Int × Int)}
theorem NB.appY {ids' : List Int} (h : NB W B g x y z N) (ho : OwnI w2 B y' ids') (hg : W.grownBy w2 y.ownBlock) (hl : Lies W y y') :
 NB (w2.setCell ⟨g, 1, none⟩ y') B g x y' z { N with ids := ids' } := by
 obtain ⟨k1, k2, k3, k4⟩ := h.parts
 have hk : KeptBut 3 W w2 := KeptBut.of_grown hg (rowType k2)
 obtain ⟨b1, b2⟩ := k3.beside k4 hg hl
 have hbx := (hk g _ _ _ h.bx (by decide)).trans h.bx
 have hk2 : KeptBut 27 w2 (w2.setCell ⟨g, 1, none⟩ y') := KeptBut.of_set (p := ⟨g, 1, none⟩) hbx _
 exact ⟨Blk.put hbx 1 _, ⟨_, _, _, rfl, (k1.but hk (by decide) (by decide)).but hk2 (by decide) (by decide), ho.but hk2 (by decide), b1.but hk2 (by decide), b2⟩⟩
theorem NB.appZ {ins' : List Int} (h : NB W B g x y z N) (ho : OwnI w2 B z' ins') (hg : W.grownBy w2 z.ownBlock) (hl : Lies W z z') :
 NB (w2.setCell ⟨g, 2, none⟩ z') B g x y z' { N with inputs := ins' } := by
 obtain ⟨k1, k2, k3, k4⟩ := h.parts
 have hk : KeptBut 3 W w2 := KeptBut.of_grown hg (rowType k3)
 obtain ⟨b1, b2⟩ := k2.beside (Apart.symm k4) hg hl
 have hbx := (hk g _ _ _ h.bx (by decide)).trans h.bx
 have hk2 : KeptBut 27 w2 (w2.setCell ⟨g, 2, none⟩ z') := KeptBut.of_set (p := ⟨g, 2, none⟩) hbx _
 exact ⟨Blk.put hbx 2 _, ⟨_, _, _, rfl, (k1.but hk (by decide) (by decide)).but hk2 (by decide) (by decide), b1.but hk2 (by decide), ho.but hk2 (by decide), Apart.symm b2⟩⟩
theorem NB.put1 {ga na ca j : Nat} {p : Int} (hn : N.ends.length = n) (h : NB W B g (.slice (some ⟨gE, 0, none⟩) n cap) y z N)
 {us : Nat → Value} (hr0 : W.ownsRow B 38 1 (.slice (some ⟨gE, 0, none⟩) n cap) N.ends.length ((List.range N.ends.length).map us)) (hi : ∀ i, i < N.ends.length → OwnE W B (us i) (gl N.ends i))
 (hd : ∀ i j, i < N.ends.length → j < N.ends.length → i ≠ j → ∀ g, (us i).ownBlock = some g → (us j).ownBlock ≠ some g) (hv : v < N.ends.length) (hj : j < dg N.ends v) (hu : us v = .slice (some ⟨ga, 0, none⟩) na ca) :
 NB (W.setCell ⟨ga, j * 2, none⟩ (.int .i64 p)) B g (.slice (some ⟨gE, 0, none⟩) n cap) y z { N with ends := set2 N.ends v j (p, (pt N.ends v j).2) } ∧ LowB B W (W.setCell ⟨ga, j * 2, none⟩ (.int .i64 p)) ∧ KeptBut 40 W (W.setCell ⟨ga, j * 2, none⟩ (.int .i64 p)) := by
 subst hn
 obtain ⟨k1, k2, k3, k4⟩ := h.parts
 have hov := hi v hv
 rw [hu] at hov
 obtain ⟨t1, t2, t3⟩ := OwnEs.rowTurn (i := j * 2) (u := .int .i64 p) hr0 hi hd hv hu (by rw [hu]; exact hov.put1 (u := p) hj)
 exact ⟨⟨(t2 g _ _ _ h.bx (by decide)).trans h.bx, ⟨_, _, _, rfl, t1, k2.but t2 (by decide), k3.but t2 (by decide), k4⟩⟩, LowB.set (p := ⟨ga, j * 2, none⟩) t3 _, t2⟩
end
structure Two (W : World) (B g g' : Nat) (x y z : Value) (N : Net) (x' y' z' : Value) (ids' ins' : List Int) : Prop where
 nb : NB W B g x y z N
 bx : Blk W g' 27 #[x', y', z']
 pI : OwnI W B y' ids'
 pZ : OwnI W B z' ins'
 aI : Apart y y'
 aZ : Apart y z'
 cZ : Apart z z'
section
variable {W w2 : World} {B g g' : Nat} {x y z x' y' z' xx : Value} {N : Net} {ids' ins' : List Int}
theorem Two.appX {es' : List (List (Int × Int))} {us : List Value} (h : Two W B g g' x y z N x' y' z' ids' ins') (hn : g' ≠ g) (hB : B ≤ W.heap.size) (hg0 : B ≤ g) (hr : W.ownsRow B 38 1 x N.ends.length us) (ho : OwnEs w2 B xx es') (hg : W.grownBy w2 x.ownBlock) :
 Two (w2.setCell ⟨g, 0, none⟩ xx) B g g' xx y z { N with ends := es' } x' y' z' ids' ins' ∧ LowB B W (w2.setCell ⟨g, 0, none⟩ xx) := by
 obtain ⟨k1, k2, k3, k4⟩ := h.nb.parts
 have hk : KeptBut 38 W w2 := KeptBut.of_grown hg (rowType hr)
 have hbx := (hk g _ _ _ h.nb.bx (by decide)).trans h.nb.bx
 have hbx' : Blk w2 g' 27 #[x', y', z'] := (hk g' _ _ _ h.bx (by decide)).trans h.bx
 have hk2 : KeptBut 27 w2 (w2.setCell ⟨g, 0, none⟩ xx) := KeptBut.of_set (p := ⟨g, 0, none⟩) hbx _
 exact ⟨⟨⟨Blk.put hbx 0 _, ⟨_, _, _, rfl, ho.but hk2 (by decide) (by decide), (k2.but hk (by decide)).but hk2 (by decide), (k3.but hk (by decide)).but hk2 (by decide), k4⟩⟩,
  hbx'.far hn _, (h.pI.but hk (by decide)).but hk2 (by decide), (h.pZ.but hk (by decide)).but hk2 (by decide), h.aI, h.aZ, h.cZ⟩,
  (LowB.of_grown hg hB fun k hk' => (World.ownsRow.lt hr k hk').1).trans (LowB.set (p := ⟨g, 0, none⟩) hg0 _)⟩
theorem Two.appY {idn : List Int} (h : Two W B g g' x y z N x' y' z' ids' ins') (hn : g' ≠ g) (hB : B ≤ W.heap.size) (hg0 : B ≤ g) (ho : OwnI w2 B xx idn) (hg : W.grownBy w2 y.ownBlock) (hl : Lies W y xx) :
 NB (w2.setCell ⟨g, 1, none⟩ xx) B g x xx z { N with ids := idn } ∧ Blk (w2.setCell ⟨g, 1, none⟩ xx) g' 27 #[x', y', z'] ∧ OwnI (w2.setCell ⟨g, 1, none⟩ xx) B z' ins' ∧ LowB B W (w2.setCell ⟨g, 1, none⟩ xx) := by
 obtain ⟨k1, k2, k3, k4⟩ := h.nb.parts
 have hk : KeptBut 3 W w2 := KeptBut.of_grown hg (rowType k2)
 have hbx := (hk g _ _ _ h.nb.bx (by decide)).trans h.nb.bx
 have hbx' : Blk w2 g' 27 #[x', y', z'] := (hk g' _ _ _ h.bx (by decide)).trans h.bx
 have hk2 : KeptBut 27 w2 (w2.setCell ⟨g, 1, none⟩ xx) := KeptBut.of_set (p := ⟨g, 1, none⟩) hbx _
 exact ⟨h.nb.appY ho hg hl, hbx'.far hn _, (h.pZ.beside h.aZ hg hl).1.but hk2 (by decide), (LowB.of_grown hg hB fun k hk' => (k2.blk k hk').1).trans (LowB.set (p := ⟨g, 1, none⟩) hg0 _)⟩
theorem NB.appZL {idn : List Int} (h : NB W B g x y z N) (hB : B ≤ W.heap.size) (hg0 : B ≤ g) (ho : OwnI w2 B xx idn) (hg : W.grownBy w2 z.ownBlock) (hl : Lies W z xx) :
 NB (w2.setCell ⟨g, 2, none⟩ xx) B g x y xx { N with inputs := idn } ∧ LowB B W (w2.setCell ⟨g, 2, none⟩ xx) := by
 obtain ⟨k1, k2, k3, k4⟩ := h.parts
 exact ⟨h.appZ ho hg hl, (LowB.of_grown hg hB fun k hk' => (k3.blk k hk').1).trans (LowB.set (p := ⟨g, 2, none⟩) hg0 _)⟩
theorem apart_of {v1 v2 : Value} {a b c d : Nat} (h1 : ∀ g, v1.ownBlock = some g → a ≤ g ∧ g < b) (h2 : ∀ g, v2.ownBlock = some g → c ≤ g ∧ g < d) (h : b ≤ c ∨ d ≤ a) : Apart v1 v2 := fun g e1 e2 => by
 have := h1 g e1; have := h2 g e2; omega
theorem ownsRow_but {T t : TypeId} {w w' : World} {B : Nat} {sz : Nat} {v : Value} {n : Nat} {xs : List Value} (h : w.ownsRow B t sz v n xs) (hk : KeptBut T w w') (ht : t ≠ T) : w'.ownsRow B t sz v n xs := by
 refine ⟨h.1, ?_⟩
 rcases h.2 with h4 | ⟨g, cap, cur, h1, hB, hh, hr⟩
 ·exact .inl h4
 ·exact .inr ⟨g, cap, cur, h1, hB, (hk g _ _ _ hh ht).trans hh, hr⟩
theorem ownsRow_mono {t : TypeId} {w : World} {B B' : Nat} {sz : Nat} {v : Value} {n : Nat} {xs : List Value} (h : w.ownsRow B t sz v n xs) (hB : B' ≤ B) : w.ownsRow B' t sz v n xs := by
 refine ⟨h.1, ?_⟩
 rcases h.2 with h4 | ⟨g, cap, cur, h1, h2, hh, hr⟩
 ·exact .inl h4
 ·exact .inr ⟨g, cap, cur, h1, Nat.le_trans hB h2, hh, hr⟩
end
def mkNtE (N : Net) : Mkg where
 Y := fun _ v => ∃ A c A1 c1 A2 c2, v = .agg #[.slice A N.ends.length c, .slice A1 N.ids.length c1, .slice A2 N.inputs.length c2]
 F := fun _ v b e x => ∃ xe : World, xe.heap.size = e ∧ OwnNt xe b v N ∧ Below xe.heap.size xe x
 st := fun _ _ _ _ _ _ hb h => by obtain ⟨xe, h1, h2, h3⟩ := h; exact ⟨xe, h1, h2, Below.then_ h3 hb⟩
theorem mkNtE.gives {N : Net} {ar : Array Value} {x x' : World} {v : Value} (hb : Below x.heap.size x x') (ho : OwnNt x' x.heap.size v N) : Gives (mkNtE N) ar x v x' := ⟨hb, ho.parts, x', rfl, ho, Below.refl _ _⟩
structure Mx (n : Nat) (ess ess' : List (List (Int × Int))) (k j : Nat) : Prop where
 len : ess'.length = ess.length
 deg : ∀ a, dg ess' a = dg ess a
 at_ : ∀ a i, a < ess.length → i < dg ess a → pt ess' a i = if a < k ∨ (a = k ∧ i < j) then ((pt ess a i).1 + n, (pt ess a i).2) else pt ess a i
theorem Mx.start (n : Nat) (ess : List (List (Int × Int))) : Mx n ess ess 0 0 :=
 ⟨rfl, fun _ => rfl, fun a i _ _ => by rw [if_neg (by omega)]⟩
theorem Mx.next {n : Nat} {ess ess' : List (List (Int × Int))} {k j : Nat} (h : Mx n ess ess' k j) (hk : k < ess.length) (hj : j < dg ess k) :
 Mx n ess (set2 ess' k j ((pt ess k j).1 + n, (pt ess' k j).2)) k (j + 1) := by
 have hk' : k < ess'.length := by rw [h.len]; exact hk
 have hj' : j < dg ess' k := by rw [h.deg]; exact hj
 refine ⟨by rw [set2_len, h.len], fun a => by rw [set2_dg hk', h.deg], fun a i ha hi => ?_⟩
 rw [set2_pt hk' hj']
 by_cases e : a = k ∧ i = j
 ·obtain ⟨rfl, rfl⟩ := e
  rw [if_pos ⟨rfl, rfl⟩, if_pos (by omega), h.at_ a i ha hi, if_neg (by omega)]
 ·rw [if_neg e, h.at_ a i ha hi]
  by_cases e2 : a < k ∨ (a = k ∧ i < j)
  ·rw [if_pos e2, if_pos (by omega)]
  ·rw [if_neg e2, if_neg (by omega)]
theorem Mx.now {n : Nat} {ess ess' : List (List (Int × Int))} {k j : Nat} (h : Mx n ess ess' k j) (hk : k < ess.length) (hj : j < dg ess k) : pt ess' k j = pt ess k j := by
 rw [h.at_ k j hk hj, if_neg (by omega)]
theorem Mx.row {n : Nat} {ess ess' : List (List (Int × Int))} {k j : Nat} (h : Mx n ess ess' k j) (hj : dg ess k ≤ j) : Mx n ess ess' (k + 1) 0 :=
 ⟨h.len, h.deg, fun a i ha hi => by
  rw [h.at_ a i ha hi]
  by_cases e : a < k ∨ (a = k ∧ i < j)
  ·rw [if_pos e, if_pos (by omega)]
  ·rw [if_neg e, if_neg (fun h2 => e (by
    rcases h2 with h2 | h2
    ·rcases (by omega : a < k ∨ a = k) with h3 | h3
     ·exact .inl h3
     ·subst h3; exact .inr ⟨rfl, by omega⟩
    ·omega))]⟩
theorem Mx.done {n : Nat} {ess ess' : List (List (Int × Int))} {k : Nat} (h : Mx n ess ess' k 0) (hk : ess.length ≤ k) : ess' = ess.map (shiftE n) := by
 have hg : ∀ a, a < ess.length → gl (ess.map (shiftE n)) a = shiftE n (gl ess a) := fun a ha => by
  unfold gl
  simp only [List.getD_eq_getElem?_getD, List.getElem?_map]
  rw [List.getElem?_eq_getElem ha]; rfl
 refine ess_ext (by rw [h.len, List.length_map]) (fun a ha => ?_) fun a i ha hi => ?_
 ·rw [h.len] at ha
  rw [h.deg]; unfold dg; rw [hg a ha]; simp [shiftE]
 ·rw [h.len] at ha
  rw [h.deg] at hi
  rw [h.at_ a i ha hi, if_pos (by omega)]
  unfold pt
  rw [hg a ha]
  unfold gp shiftE
  unfold dg at hi
  simp [hi]
end Go.Proofs.Ytlaahgdikiiahaa
