/- A part of a network under way, in memory: the rows so far, the map of places. No program's function in sight. -/
import Derived.Test.YtkbhbbehidhknaaCJn9
import Derived.Test.YtkbhbbehidhknaaCJn24
namespace Go.Proofs.Ytkbhbbehidhknaa
open Go.RowKit Go.Maps

theorem OwnEs.pushOwn {w w2 : World} {B : Nat} {x' u : Value} {ess : List (List (Int × Int))} {es : List (Int × Int)} {us : Nat → Value} (hi : ∀ i, i < ess.length → OwnE w B (us i) (gl ess i))
    (hd : ∀ i j, i < ess.length → j < ess.length → i ≠ j → ∀ g, (us i).ownBlock = some g → (us j).ownBlock ≠ some g)
    (hu : OwnE w B u es) (hx : ∀ i, i < ess.length → ∀ g, (us i).ownBlock = some g → u.ownBlock ≠ some g)
    (h2 : w2.ownsRow B 33 1 x' (ess.length + 1) ((List.range ess.length).map us ++ [u])) (hk : KeptBut 33 w w2) : OwnEs w2 B x' (ess ++ [es]) := by
  have ln : (ess ++ [es]).length = ess.length + 1 := by simp
  have hus : (List.range (ess.length + 1)).map (fun j => if j < ess.length then us j else u) = (List.range ess.length).map us ++ [u] := by
    rw [List.range_succ, List.map_append]
    congr 1
    · apply List.map_congr_left
      intro a ha
      rw [if_pos (List.mem_range.1 ha)]
    · simp
  refine ⟨fun j => if j < ess.length then us j else u, by rw [ln, hus]; exact h2, fun j hj => ?_, fun a b ha hb hne g hga => ?_⟩
  · rw [ln] at hj
    rw [gl_snoc]
    by_cases h : j < ess.length
    · simp only [h, if_true]
      exact (hi j h).but hk (by decide)
    · obtain rfl : j = ess.length := by omega
      simp only [h, if_false, if_true]
      exact hu.but hk (by decide)
  · rw [ln] at ha hb
    by_cases h : a < ess.length
    · simp only [h, if_true] at hga
      by_cases h3 : b < ess.length
      · simp only [h3, if_true]
        exact hd a b h h3 hne g hga
      · simp only [h3, if_false]
        exact hx a h g hga
    · simp only [h, if_false] at hga
      have h3 : b < ess.length := by omega
      simp only [h3, if_true]
      exact fun e => hx b h3 g e hga

/-- the network under way in a box g, the map of places gm -/
structure PS (wz : World) (g gm B : Nat) (x y z : Value) (N : Net) (s : Nat) (f : Value → Option Value) (W : World) : Prop where
  nb : NB W B g x y z N
  mp : OwnM W 35 gm s f
  low : LowB g wz W
  ggm : g < gm
  gmB : gm < B
  sz : B ≤ W.heap.size
section
variable {wz W W1 w2 : World} {g gm B s : Nat} {x y z x' y' z' u : Value} {N : Net} {f : Value → Option Value} {es : List (Int × Int)}
theorem PS.below (h : PS wz g gm B x y z N s f W) (hb : Below W.heap.size W W1) : PS wz g gm B x y z N s f W1 :=
  ⟨h.nb.below hb, h.mp.below hb, h.low.trans (LowB.of_below hb (by have := h.ggm; have := h.gmB; have := h.sz; omega)), h.ggm, h.gmB, Nat.le_trans h.sz hb.size⟩
theorem PS.start (hb : Blk W g 27 #[.slice none 0 0, .slice none 0 0, .slice none 0 0]) (hm : OwnM W 35 gm s f) (hl : LowB g wz W) (h1 : g < gm) (h2 : gm < B) (hB : B ≤ W.heap.size) :
    PS wz g gm B (.slice none 0 0) (.slice none 0 0) (.slice none 0 0) ⟨[], [], []⟩ s f W :=
  ⟨⟨hb, ⟨_, _, _, rfl, OwnEs.nil, World.ownsRow_nil _ _ _ _, World.ownsRow_nil _ _ _ _, fun g hg => by cases hg⟩⟩, hm, hl, h1, h2, hB⟩
theorem PS.lowGrown {row : Option Nat} {u : Value} {i : Nat} (h : PS wz g gm B x y z N s f W) (hg : W.grownBy w2 row) (hr : ∀ k, row = some k → B ≤ k) :
    OwnM (w2.setCell ⟨g, i, none⟩ u) 35 gm s f ∧ LowB g wz (w2.setCell ⟨g, i, none⟩ u) ∧ B ≤ (w2.setCell ⟨g, i, none⟩ u).heap.size := by
  have h1 := h.ggm
  have h2 := h.gmB
  have h3 := h.sz
  refine ⟨(h.mp.kept hg fun e => by have := hr gm e.symm; omega).far (by simp only; omega) _, (h.low.trans (LowB.of_grown hg (by omega) fun k hk => by have := hr k hk; omega)).trans (LowB.set (p := ⟨g, i, none⟩) (Nat.le_refl _) _), ?_⟩
  have := hg.size
  have e : (w2.setCell ⟨g, i, none⟩ u).heap.size = w2.heap.size := by simp [World.setCell]
  omega
/-- a row added, and stored -/
theorem PS.pushX {us : Nat → Value} {n b1 : Nat} (h : PS wz g gm B x y z N s f W) (hn : N.ends.length = n) (hr0 : W.ownsRow B 33 1 x N.ends.length ((List.range N.ends.length).map us)) (hi : ∀ i, i < N.ends.length → OwnE W B (us i) (gl N.ends i))
    (hd : ∀ i j, i < N.ends.length → j < N.ends.length → i ≠ j → ∀ g, (us i).ownBlock = some g → (us j).ownBlock ≠ some g)
    (hu : OwnE W b1 u es) (hB : B ≤ b1) (hus : ∀ i, i < N.ends.length → ∀ g, (us i).ownBlock = some g → g < b1)
    (h2 : w2.ownsRow B 33 1 x' (n + 1) ((List.range n).map us ++ [u])) (hg : W.grownBy w2 x.ownBlock) :
    PS wz g gm B x' y z { N with ends := N.ends ++ [es] } s f (w2.setCell ⟨g, 0, none⟩ x') := by
  subst hn
  obtain ⟨k1, k2, k3, k4⟩ := h.nb.parts
  have hk : KeptBut 33 W w2 := KeptBut.of_grown hg (rowType hr0)
  have hbx := (hk g _ _ _ h.nb.bx (by decide)).trans h.nb.bx
  have hk2 : KeptBut 27 w2 (w2.setCell ⟨g, 0, none⟩ x') := KeptBut.of_set (p := ⟨g, 0, none⟩) hbx _
  obtain ⟨m1, m2, m3⟩ := h.lowGrown (i := 0) (u := x') hg (fun k hk => (World.ownsRow.lt hr0 k hk).1)
  have hes := OwnEs.pushOwn hi hd (hu.mono hB) (fun i hi' k hk1 hk2 => by have := hus i hi' k hk1; have := (hu.lt k hk2).1; omega) h2 hk
  exact ⟨⟨Blk.put hbx 0 _, ⟨_, _, _, rfl, hes.but hk2 (by decide) (by decide), (k2.but hk (by decide)).but hk2 (by decide), (k3.but hk (by decide)).but hk2 (by decide), k4⟩⟩, m1, m2, h.ggm, h.gmB, m3⟩
theorem PS.appY {ids' : List Int} (h : PS wz g gm B x y z N s f W) (ho : OwnI w2 B y' ids') (hg : W.grownBy w2 y.ownBlock) (hl : Lies W y y') :
    PS wz g gm B x y' z { N with ids := ids' } s f (w2.setCell ⟨g, 1, none⟩ y') := by
  obtain ⟨k1, k2, k3, k4⟩ := h.nb.parts
  obtain ⟨m1, m2, m3⟩ := h.lowGrown (i := 1) (u := y') hg (fun k hk => (k2.blk k hk).1)
  exact ⟨h.nb.appY ho hg hl, m1, m2, h.ggm, h.gmB, m3⟩
theorem PS.appZ {ins' : List Int} (h : PS wz g gm B x y z N s f W) (ho : OwnI w2 B z' ins') (hg : W.grownBy w2 z.ownBlock) (hl : Lies W z z') :
    PS wz g gm B x y z' { N with inputs := ins' } s f (w2.setCell ⟨g, 2, none⟩ z') := by
  obtain ⟨k1, k2, k3, k4⟩ := h.nb.parts
  obtain ⟨m1, m2, m3⟩ := h.lowGrown (i := 2) (u := z') hg (fun k hk => (k3.blk k hk).1)
  exact ⟨h.nb.appZ ho hg hl, m1, m2, h.ggm, h.gmB, m3⟩
end
end Go.Proofs.Ytkbhbbehidhknaa
