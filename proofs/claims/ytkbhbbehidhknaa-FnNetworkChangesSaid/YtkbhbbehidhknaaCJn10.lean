/- Parts of the proof, joined: Mkl, Ppt. -/
import Derived.Test.YtkbhbbehidhknaaCMk
import Derived.Test.YtkbhbbehidhknaaCJn1
import Derived.Test.YtkbhbbehidhknaaCJn0
namespace Go.Proofs.Ytkbhbbehidhknaa
open Go Go.RowKit

/-- a slice of ints of the call's own -/
def mkI (xs : List Int) : Mkg where
  Y := fun _ v => ∃ A c, v = .slice A xs.length c
  F := fun _ v b e x => OwnI x b v xs ∧ ∀ g, v.ownBlock = some g → g < e
  st := fun _ _ _ _ _ _ hb h => ⟨h.1.below hb, h.2⟩
theorem mkI.gives {xs : List Int} {ar : Array Value} {x x' : World} {v : Value} (hb : Below x.heap.size x x') (ho : OwnI x' x.heap.size v xs) : Gives (mkI xs) ar x v x' :=
  ⟨hb, ho.shape, ho, fun g hg => (ho.blk g hg).2⟩
/-- a slice of pairs of the call's own -/
def mkE (es : List (Int × Int)) : Mkg where
  Y := fun _ v => ∃ A c, v = .slice A es.length c
  F := fun _ v b e x => OwnE x b v es ∧ ∀ g, v.ownBlock = some g → g < e
  st := fun _ _ _ _ _ _ hb h => ⟨h.1.below hb, h.2⟩
theorem mkE.gives {es : List (Int × Int)} {ar : Array Value} {x x' : World} {v : Value} (hb : Below x.heap.size x x') (ho : OwnE x' x.heap.size v es) : Gives (mkE es) ar x v x' :=
  ⟨hb, ho.shape, ho, fun g hg => (ho.lt g hg).2⟩
/-- a block, by its address -/
def mkB1 (t : TypeId) (cs : Array Value) : Mkg where
  Y := fun _ v => ∃ g, v = .pointer (some ⟨g, 0, none⟩)
  F := fun _ v b e x => ∃ g, v = .pointer (some ⟨g, 0, none⟩) ∧ b ≤ g ∧ g < e ∧ Blk x g t cs
  st := fun _ _ _ _ _ _ hb h => by obtain ⟨g, h1, h2, h3, h4⟩ := h; exact ⟨g, h1, h2, h3, h4.below hb⟩
theorem mkB1.gives {t : TypeId} {cs : Array Value} {ar : Array Value} {x : World} : Gives (mkB1 t cs) ar x (.pointer (some ⟨x.heap.size, 0, none⟩)) (x.alloc (.cells cs t)) :=
  ⟨(Below.refl _ _).alloc (Nat.le_refl _) _, ⟨_, rfl⟩, _, rfl, Nat.le_refl _, by simp, Blk.new _ _ _⟩
theorem rowIs_below {w w' : World} {g n : Nat} {t : TypeId} {f : Nat → Value} (h : w.rowIs g t n f) (hb : Below w.heap.size w w') : w'.rowIs g t n f := by
  obtain ⟨c, hc, h⟩ := h
  exact ⟨c, (hb.block g (Array.getElem?_eq_some_iff.1 hc).1).trans hc, h⟩
/-- a row of n zero values of one cell -/
def mkZ (t : TypeId) (z : Value) (n : Nat) : Mkg where
  Y := fun _ v => ∃ g, v = .slice (some ⟨g, 0, none⟩) n n
  F := fun _ v b e x => ∃ g, v = .slice (some ⟨g, 0, none⟩) n n ∧ b ≤ g ∧ g < e ∧ x.rowIs g t n (fun _ => z)
  st := fun _ _ _ _ _ _ hb h => by obtain ⟨g, h1, h2, h3, h4⟩ := h; exact ⟨g, h1, h2, h3, rowIs_below h4 hb⟩
theorem mkZ.gives {t : TypeId} {z : Value} {n : Nat} {ar : Array Value} {x : World} : Gives (mkZ t z n) ar x (.slice (some ⟨x.heap.size, 0, none⟩) n n) (x.alloc (.cells (madeCells #[z] n) t)) :=
  ⟨(Below.refl _ _).alloc (Nat.le_refl _) _, ⟨_, rfl⟩, _, rfl, Nat.le_refl _, by simp, World.rowIs_made x z n t⟩
/-- a network of the call's own -/
def mkNt (N : Net) : Mkg where
  Y := fun _ v => ∃ A c A1 c1 A2 c2, v = .agg #[.slice A N.ends.length c, .slice A1 N.ids.length c1, .slice A2 N.inputs.length c2]
  F := fun _ v b _ x => OwnNt x b v N
  st := fun _ _ _ _ _ _ hb h => h.below hb
theorem mkNt.gives {N : Net} {ar : Array Value} {x x' : World} {v : Value} (hb : Below x.heap.size x x') (ho : OwnNt x' x.heap.size v N) : Gives (mkNt N) ar x v x' := ⟨hb, ho.parts, ho⟩
/-- a slice of one element made of cells: what a composite slice literal, or append's list of one, is built from -/
def mkSl1 (t : TypeId) (cs : Array Value) : Mkg where
  Y := fun _ v => ∃ g, v = .slice (some ⟨g, 0, none⟩) 1 1
  F := fun _ v b e x => ∃ g, v = .slice (some ⟨g, 0, none⟩) 1 1 ∧ b ≤ g ∧ g < e ∧ Blk x g t cs
  st := fun _ _ _ _ _ _ hb h => by obtain ⟨g, h1, h2, h3, h4⟩ := h; exact ⟨g, h1, h2, h3, h4.below hb⟩
theorem mkSl1.gives {t : TypeId} {cs : Array Value} {ar : Array Value} {x : World} : Gives (mkSl1 t cs) ar x (.slice (some ⟨x.heap.size, 0, none⟩) 1 1) (x.alloc (.cells cs t)) :=
  ⟨(Below.refl _ _).alloc (Nat.le_refl _) _, ⟨_, rfl⟩, _, rfl, Nat.le_refl _, by simp, Blk.new _ _ _⟩
end Go.Proofs.Ytkbhbbehidhknaa

namespace Go.Proofs.Ytkbhbbehidhknaa
open Go.RowKit

/-- the ports of all nodes ahead of k, and the first j of node k, stand at their new places -/
structure PP (v : Nat) (π : List Int) (ess ess' : List (List (Int × Int))) (k j : Nat) : Prop where
  len : ess'.length = ess.length
  deg : ∀ a, dg ess' a = dg ess a
  at_ : ∀ a i, a < ess.length → i < dg ess a → (a < k ∨ (a = k ∧ i < j)) → pt ess' a (piN π v a i) = phiE π v (pt ess a i)
theorem PP.start (v : Nat) (π : List Int) (ess : List (List (Int × Int))) : PP v π ess ess 0 0 := ⟨rfl, fun _ => rfl, fun a i _ _ h => by omega⟩
section
variable {v k j : Nat} {π : List Int} {ess ess' : List (List (Int × Int))}
theorem piN_lt (hp : π.Perm (upTo (dg ess v))) {a i : Nat} (hi : i < dg ess a) : piN π v a i < dg ess a := by
  unfold piN
  by_cases h : a = v
  · subst h
    obtain ⟨m, hm, hd⟩ := perm_at hp hi
    rw [if_pos rfl, hm, Int.toNat_natCast]; exact hd
  · rw [if_neg h]; exact hi
theorem piN_inj (hp : π.Perm (upTo (dg ess v))) {a i i' : Nat} (hi : i < dg ess a) (hi' : i' < dg ess a) (e : piN π v a i = piN π v a i') : i = i' := by
  unfold piN at e
  by_cases h : a = v
  · subst h
    rw [if_pos rfl, if_pos rfl] at e
    obtain ⟨m, hm, -⟩ := perm_at hp hi
    obtain ⟨m', hm', -⟩ := perm_at hp hi'
    exact perm_inj hp hi hi' (by omega)
  · rw [if_neg h, if_neg h] at e; exact e
theorem PP.next (h : PP v π ess ess' k j) (hp : π.Perm (upTo (dg ess v))) (hk : k < ess.length) (hj : j < dg ess k) :
    PP v π ess (set2 ess' k (piN π v k j) (phiE π v (pt ess k j))) k (j + 1) := by
  have hk' : k < ess'.length := by rw [h.len]; exact hk
  have hj' : piN π v k j < dg ess' k := by rw [h.deg]; exact piN_lt hp hj
  refine ⟨by rw [set2_len, h.len], fun a => by rw [set2_dg hk', h.deg], fun a i ha hi hw => ?_⟩
  rw [set2_pt hk' hj']
  by_cases e : a = k ∧ i = j
  · obtain ⟨rfl, rfl⟩ := e
    rw [if_pos ⟨rfl, rfl⟩]
  · rw [if_neg]
    · exact h.at_ a i ha hi (by omega)
    · rintro ⟨rfl, e2⟩
      exact e ⟨rfl, piN_inj hp hi hj e2⟩
theorem PP.row (h : PP v π ess ess' k j) (hj : dg ess k ≤ j) : PP v π ess ess' (k + 1) 0 :=
  ⟨h.len, h.deg, fun a i ha hi hw => h.at_ a i ha hi (by
    rcases (by omega : a < k ∨ a = k) with h1 | h1
    · exact .inl h1
    · subst h1; exact .inr ⟨rfl, by omega⟩)⟩
theorem PP.done (h : PP v π ess ess' k 0) (hp : π.Perm (upTo (dg ess v))) (hk : ess.length ≤ k) : ess' = portsE ess v π := by
  refine ess_ext (by rw [h.len, portsE_len]) (fun a _ => by rw [h.deg, portsE_dg]) fun a i ha hi => ?_
  rw [h.len] at ha
  rw [h.deg] at hi
  have key : ∃ m, m < dg ess a ∧ piN π v a m = i := by
    by_cases hav : a = v
    · subst hav
      obtain ⟨m, hm, e⟩ := piN_surj hp hi
      exact ⟨m, hm, e⟩
    · exact ⟨i, hi, by unfold piN; rw [if_neg hav]⟩
  obtain ⟨m, hm, rfl⟩ := key
  rw [h.at_ a m ha hm (by omega), (portsE_at hp ha hm).2]
end
/-- a value known whole, that older memory bears -/
def mkV (a : Value) : Mkg where
  Y := fun _ v => v = a
  F := fun _ _ _ _ _ => True
  st := fun _ _ _ _ _ _ _ _ => trivial
theorem mkV.gives {a : Value} {ar : Array Value} {x x' : World} (hb : Below x.heap.size x x') : Gives (mkV a) ar x a x' := ⟨hb, rfl, trivial⟩
end Go.Proofs.Ytkbhbbehidhknaa
