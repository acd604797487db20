/- Trees by ports of parents: roots, depths, sums. Plain facts; no program in sight. -/
import Derived.Test.YtcjghlplkbpjcaaFun
namespace Go.Proofs.Ytcjghlplkbpjcaa

/-- the node to which the port i of node w leads -/
def nodeAt (N : Net) (w : Nat) (i : Int) : Nat := (gp (gl N.ends w) i.toNat).1.toNat
/-- the parent of node w -/
def par (N : Net) (ps : List Int) (w : Nat) : Nat := nodeAt N w (gi ps w)
/-- k steps up -/
def up (N : Net) (ps : List Int) : Nat → Nat → Nat
  | 0, v => v
  | k + 1, v => par N ps (up N ps k v)

theorem good_len {N : Net} (h : goodB N = true) : 1 ≤ N.ends.length ∧ N.ends.length ≤ 40 := by
  have := inB_iff.1 (goodB_iff.1 h).1
  omega
theorem good_deg {N : Net} (h : goodB N = true) {k : Nat} (hk : k < N.ends.length) : (gl N.ends k).length ≤ 6 := ((goodB_iff.1 h).2.2.2.2 k hk).1
theorem good_node {N : Net} (h : goodB N = true) {k j : Nat} (hk : k < N.ends.length) (hj : j < (gl N.ends k).length) :
    0 ≤ (gp (gl N.ends k) j).1 ∧ (gp (gl N.ends k) j).1 < N.ends.length := by
  have := ((goodB_iff.1 h).2.2.2.2 k hk).2 j hj
  have := inB_iff.1 this.1
  omega

/-- node j is the root, or has a port to its parent -/
def nodeOk (N : Net) (ps : List Int) (r j : Nat) : Prop := (gi ps j = -1 → j = r) ∧ (gi ps j ≠ -1 → inB (gi ps j) 0 (((gl N.ends j).length : Int) - 1) = true)
/-- node v has the depth k -/
def depthIs (N : Net) (ps : List Int) (r v k : Nat) : Prop := k ≤ ps.length ∧ up N ps k v = r ∧ ∀ i, i < k → up N ps i v ≠ r
/-- a tree with the root r and the depths ds -/
def TreeAt (N : Net) (ps : List Int) (r : Nat) (ds : List Int) : Prop :=
  ps.length = N.ends.length ∧ r < ps.length ∧ gi ps r = -1 ∧ (∀ j, j < ps.length → nodeOk N ps r j) ∧ ds.length = ps.length ∧
    ∀ v, v < ps.length → ∃ k : Nat, gi ds v = k ∧ depthIs N ps r v k

theorem nodeAt_lt {N : Net} (h : goodB N = true) {w : Nat} {i : Int} (hw : w < N.ends.length) (hi : inB i 0 (((gl N.ends w).length : Int) - 1) = true) : nodeAt N w i < N.ends.length ∧ (gp (gl N.ends w) i.toNat).1 = (nodeAt N w i : Int) := by
  have := inB_iff.1 hi
  have := good_node h hw (j := i.toNat) (by omega)
  unfold nodeAt
  omega

theorem par_lt {N : Net} {ps : List Int} {r w : Nat} (h : goodB N = true) (hl : ps.length = N.ends.length) (hw : w < ps.length) (ho : nodeOk N ps r w) (hr : w ≠ r) :
    par N ps w < ps.length ∧ (gp (gl N.ends w) (gi ps w).toNat).1 = (par N ps w : Int) ∧ 0 ≤ gi ps w ∧ (gi ps w).toNat < (gl N.ends w).length := by
  have h1 : gi ps w ≠ -1 := fun e => hr (ho.1 e)
  have h2 := ho.2 h1
  have h3 := nodeAt_lt h (by omega) h2
  have h4 := inB_iff.1 h2
  unfold par
  omega

theorem up_lt {N : Net} {ps : List Int} {r v : Nat} (h : goodB N = true) (hl : ps.length = N.ends.length) (ho : ∀ j, j < ps.length → nodeOk N ps r j) (hv : v < ps.length) :
    ∀ k, (∀ i, i < k → up N ps i v ≠ r) → up N ps k v < ps.length
  | 0, _ => hv
  | k + 1, hi => by
    have h1 := up_lt h hl ho hv k fun i hk => hi i (by omega)
    exact (par_lt h hl h1 (ho _ h1) (hi k (by omega))).1

theorem depthIs_unique {N : Net} {ps : List Int} {r v k k' : Nat} (h : depthIs N ps r v k) (h' : depthIs N ps r v k') : k = k' := by
  rcases Nat.lt_trichotomy k k' with h1 | h1 | h1
  · exact absurd h.2.1 (h'.2.2 k h1)
  · exact h1
  · exact absurd h'.2.1 (h.2.2 k' h1)

theorem TreeAt.unique {N : Net} {ps : List Int} {r r' : Nat} {ds ds' : List Int} (h : TreeAt N ps r ds) (h' : TreeAt N ps r' ds') : r = r' ∧ ds = ds' := by
  have hr : r = r' := by
    have := (h'.2.2.2.1 r h.2.1).1 h.2.2.1
    exact this
  subst hr
  refine ⟨rfl, ints_ext' (h.2.2.2.2.1.trans h'.2.2.2.2.1.symm) fun j hj => ?_⟩
  have hj' : j < ps.length := by rw [← h.2.2.2.2.1]; exact hj
  obtain ⟨k, e, hk⟩ := h.2.2.2.2.2 j hj'
  obtain ⟨k', e', hk'⟩ := h'.2.2.2.2.2 j hj'
  rw [e, e', depthIs_unique hk hk']

theorem up_succ' (N : Net) (ps : List Int) (k v : Nat) : up N ps (k + 1) v = up N ps k (par N ps v) := by
  induction k with
  | zero => rfl
  | succ k ih => rw [up, ih]; rfl

/-- a parent is one less deep -/
theorem TreeAt.par {N : Net} {ps : List Int} {r : Nat} {ds : List Int} (h : TreeAt N ps r ds) (hg : goodB N = true) {v : Nat} (hv : v < ps.length) (hr : v ≠ r) :
    par N ps v < ps.length ∧ gi ds v = gi ds (par N ps v) + 1 ∧ 0 ≤ gi ds (par N ps v) := by
  have hp := par_lt hg h.1 hv (h.2.2.2.1 v hv) hr
  obtain ⟨k, e, hk⟩ := h.2.2.2.2.2 v hv
  obtain ⟨m, e', hm⟩ := h.2.2.2.2.2 _ hp.1
  rcases k with _ | k
  · exact absurd hk.2.1 hr
  · have : depthIs N ps r (Proofs.Ytcjghlplkbpjcaa.par N ps v) k := by
      refine ⟨by have := hk.1; omega, ?_, fun i hi => ?_⟩
      · rw [← up_succ']; exact hk.2.1
      · rw [← up_succ']; exact hk.2.2 (i + 1) (by omega)
    have := depthIs_unique hm this
    omega
theorem TreeAt.zero {N : Net} {ps : List Int} {r : Nat} {ds : List Int} (h : TreeAt N ps r ds) {v : Nat} (hv : v < ps.length) : (gi ds v = 0 ↔ v = r) ∧ 0 ≤ gi ds v ∧ gi ds v ≤ ps.length := by
  obtain ⟨k, e, hk⟩ := h.2.2.2.2.2 v hv
  refine ⟨⟨fun h0 => ?_, fun h0 => ?_⟩, by omega, by have := hk.1; omega⟩
  · obtain rfl : k = 0 := by omega
    exact hk.2.1
  · subst h0
    rcases k with _ | k
    · omega
    · exact absurd rfl (hk.2.2 0 (by omega))
end Go.Proofs.Ytcjghlplkbpjcaa
