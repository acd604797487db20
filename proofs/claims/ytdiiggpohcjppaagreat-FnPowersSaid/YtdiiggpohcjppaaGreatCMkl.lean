/- What operations make in a region that draws its order: slices of ints, of pairs, blocks, zero rows. No program in sight. -/
import Derived.Test.YtdiiggpohcjppaaGreatCMk
import Derived.Test.YtdiiggpohcjppaaGreatCJn8
set_option linter.unusedSimpArgs false
set_option linter.unusedVariables false
namespace Go.Proofs.YtdiiggpohcjppaaGreat
open Go Go.RowKit
def mkI (xs : List Int) : Mkg where
 Y := fun _ v => ∃ A c, v = .slice A xs.length c
 F := fun _ v b e x => OwnI x b v xs ∧ ∀ g, v.ownBlock = some g → g < e
 st := fun _ _ _ _ _ _ hb h => ⟨h.1.below hb, h.2⟩
theorem mkI.gives {xs : List Int} {ar : Array Value} {x x' : World} {v : Value} (hb : Below x.heap.size x x') (ho : OwnI x' x.heap.size v xs) : rz (mkI xs) ar x v x' :=
 ⟨hb, ho.shape, ho, fun g hg => (ho.blk g hg).2⟩
def mkEn (es : List (Int × Int)) : Mkg where
 Y := fun _ v => ∃ A c, v = .slice A es.length c
 F := fun _ v b e x => OwnE x b v es ∧ ∀ g, v.ownBlock = some g → g < e
 st := fun _ _ _ _ _ _ hb h => ⟨h.1.below hb, h.2⟩
theorem mkEn.gives {es : List (Int × Int)} {ar : Array Value} {x x' : World} {v : Value} (hb : Below x.heap.size x x') (ho : OwnE x' x.heap.size v es) : rz (mkEn es) ar x v x' :=
 ⟨hb, ho.shape, ho, fun g hg => (ho.lt g hg).2⟩
def mkB1 (t : TypeId) (cs : Array Value) : Mkg where
 Y := fun _ v => ∃ g, v = .pointer (some ⟨g, 0, none⟩)
 F := fun _ v b e x => ∃ g, v = .pointer (some ⟨g, 0, none⟩) ∧ b ≤ g ∧ g < e ∧ Blk x g t cs
 st := fun _ _ _ _ _ _ hb h => by obtain ⟨g, h1, h2, h3, h4⟩ := h; exact ⟨g, h1, h2, h3, h4.below hb⟩
theorem mkB1.gives {t : TypeId} {cs : Array Value} {ar : Array Value} {x : World} : rz (mkB1 t cs) ar x (.pointer (some ⟨x.heap.size, 0, none⟩)) (x.alloc (.cells cs t)) :=
 ⟨(Below.refl _ _).alloc (Nat.le_refl _) _, ⟨_, rfl⟩, _, rfl, Nat.le_refl _, by simp, Blk.new _ _ _⟩
theorem Gv {w w' : World} {g n : Nat} {t : TypeId} {f : Nat → Value} (h : w.rowIs g t n f) (hb : Below w.heap.size w w') : w'.rowIs g t n f := by
 obtain ⟨c, hc, h⟩ := h
 exact ⟨c, (hb.block g (Array.getElem?_eq_some_iff.1 hc).1).trans hc, h⟩
def mkZ (t : TypeId) (z : Value) (n : Nat) : Mkg where
 Y := fun _ v => ∃ g, v = .slice (some ⟨g, 0, none⟩) n n
 F := fun _ v b e x => ∃ g, v = .slice (some ⟨g, 0, none⟩) n n ∧ b ≤ g ∧ g < e ∧ x.rowIs g t n (fun _ => z)
 st := fun _ _ _ _ _ _ hb h => by obtain ⟨g, h1, h2, h3, h4⟩ := h; exact ⟨g, h1, h2, h3, Gv h4 hb⟩
theorem mkZ.gives {t : TypeId} {z : Value} {n : Nat} {ar : Array Value} {x : World} : rz (mkZ t z n) ar x (.slice (some ⟨x.heap.size, 0, none⟩) n n) (x.alloc (.cells (madeCells #[z] n) t)) :=
 ⟨(Below.refl _ _).alloc (Nat.le_refl _) _, ⟨_, rfl⟩, _, rfl, Nat.le_refl _, by simp, World.rowIs_made x z n t⟩
def mkNt (N : Net) : Mkg where
 Y := fun _ v => ∃ A c A1 c1 A2 c2, v = .agg #[.slice A N.ends.length c, .slice A1 N.ids.length c1, .slice A2 N.inputs.length c2]
 F := fun _ v b _ x => OwnNt x b v N
 st := fun _ _ _ _ _ _ hb h => h.below hb
theorem mkNt.gives {N : Net} {ar : Array Value} {x x' : World} {v : Value} (hb : Below x.heap.size x x') (ho : OwnNt x' x.heap.size v N) : rz (mkNt N) ar x v x' := ⟨hb, ho.parts, ho⟩
def mkSl1 (t : TypeId) (cs : Array Value) : Mkg where
 Y := fun _ v => ∃ g, v = .slice (some ⟨g, 0, none⟩) 1 1
 F := fun _ v b e x => ∃ g, v = .slice (some ⟨g, 0, none⟩) 1 1 ∧ b ≤ g ∧ g < e ∧ Blk x g t cs
 st := fun _ _ _ _ _ _ hb h => by obtain ⟨g, h1, h2, h3, h4⟩ := h; exact ⟨g, h1, h2, h3, h4.below hb⟩
theorem mkSl1.gives {t : TypeId} {cs : Array Value} {ar : Array Value} {x : World} : rz (mkSl1 t cs) ar x (.slice (some ⟨x.heap.size, 0, none⟩) 1 1) (x.alloc (.cells cs t)) :=
 ⟨(Below.refl _ _).alloc (Nat.le_refl _) _, ⟨_, rfl⟩, _, rfl, Nat.le_refl _, by simp, Blk.new _ _ _⟩
end Go.Proofs.YtdiiggpohcjppaaGreat
