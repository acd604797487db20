/- From the form's reading of an argument to the readings of Mem: slices of ints, of pairs, of slices of pairs, networks. No program's function in sight. -/
import Derived.Test.YtljjbhihllnnaaaGreatCJn1
import Derived.ProofKit
import Derived.Deep.SlicePairs
import Derived.Lib.SmallJoins
namespace Go.Proofs.YtljjbhihllnnaaaGreat
open Go.ChangeShapes Go.WideShapes Go.ChangeAt Go.RowKit Go.Deep Go.Joins

section
variable {H : Type} {enc : TypeId × Value → H} {P : Program} {w : World} {base : Nat} {spare : Nat → Bool} {held : Bool}

def anyB : Nat → Prop := fun _ => True

theorem gi_ofFn (n : Nat) (f : Nat → Int) {j : Nat} (h : j < n) : gi ((List.range n).map f) j = f j := by simp [gi, h]
theorem gp_ofFn (n : Nat) (f : Nat → Int × Int) {j : Nat} (h : j < n) : gp ((List.range n).map f) j = f j := by simp [gp, h]
theorem gl_ofFn (n : Nat) (f : Nat → List (Int × Int)) {j : Nat} (h : j < n) : gl ((List.range n).map f) j = f j := by simp [gl, h]

theorem plain_of_cell {a : Addr} {v : Value} (h : w.cell? a = some v) : a = ⟨a.block, a.off, none⟩ := by
  obtain ⟨b, o, s⟩ := a
  have : s = none := World.cell?_spot h
  subst this; rfl

theorem read_ints {t e : TypeId} {fuel : Nat} {cs : List Value} {x : DataW H × List MemPlace} (ht : P.underlying t = some (.slice e)) (he : P.underlying e = some (.int .i64)) (hc : P.cellsOf e = 1)
    (h : DataW.trod enc P w base spare held fuel t cs = some x) : ∃ v xs, cs = [v] ∧ IntsR w anyB v xs := by
  rcases open_slice1 ht hc h with ⟨rfl, _⟩ | ⟨a, len, cap, m, n, V, D, Pl, rfl, hb, hl, hm, hmm, _, hx⟩
  · exact ⟨_, [], rfl, IntsR.nil⟩
  · have hlm : len ≤ m := by rw [hmm]; split <;> omega
    obtain ⟨z, hz⟩ := choose_lt (α := Int) (n := len) (p := fun i z => V i = .int .i64 z) (fun i hi => by
      obtain ⟨_, h2⟩ := hx i (by omega)
      obtain ⟨q, e1, _, _⟩ := DataW.trod_int he h2
      simp at e1
      exact ⟨q, e1⟩)
    refine ⟨_, (List.range len).map z, rfl, some a, cap, by simp, by simpa using hl, hm, fun hp => ?_⟩
    simp only [List.length_map, List.length_range] at hp ⊢
    have h0 := (hx 0 (by omega)).1
    obtain ⟨b, off, sp⟩ := a
    have hsp : sp = none := by simpa [Addr.add] using World.cell?_spot h0
    subst hsp
    refine ⟨b, off, rfl, trivial, fun j hj => ?_⟩
    have := (hx j (by omega)).1
    rw [add_plain] at this
    rw [this, hz j hj, gi_ofFn len z hj]

theorem read_ends {t e i : TypeId} {f0 f1 : Field} {fuel : Nat} {cs : List Value} {x : DataW H × List MemPlace} (ht : P.underlying t = some (.slice e)) (he : P.underlying e = some (.struct #[f0, f1]))
    (ce : P.cellsOf e = 2) (o0 : f0.offset = 0) (o1 : f1.offset = 1) (t0 : f0.type = i) (t1 : f1.type = i) (hi : P.underlying i = some (.int .i64)) (ci : P.cellsOf i = 1)
    (h : DataW.trod enc P w base spare held fuel t cs = some x) : ∃ v xs, cs = [v] ∧ EndsR w anyB v xs := by
  rcases open_slice_pairs ht he ce o0 o1 (by rw [t0]; exact ci) (by rw [t1]; exact ci) h with ⟨rfl, _⟩ | ⟨a, len, cap, m, n, V0, V1, D0, D1, P0, P1, rfl, hb, hl, hm, hmm, _, hx⟩
  · exact ⟨_, [], rfl, none, 0, rfl, by simp, by simp [maxLen], fun h => absurd h (by simp)⟩
  · have hlm : len ≤ m := by rw [hmm]; split <;> omega
    obtain ⟨z, hz⟩ := choose_lt (α := Int × Int) (n := len) (p := fun i z => V0 i = .int .i64 z.1 ∧ V1 i = .int .i64 z.2) (fun i hi' => by
      obtain ⟨_, _, h2, h3⟩ := hx i (by omega)
      rw [t0] at h2
      rw [t1] at h3
      obtain ⟨q, e1, _, _⟩ := DataW.trod_int hi h2
      obtain ⟨q', e2, _, _⟩ := DataW.trod_int hi h3
      simp at e1 e2
      exact ⟨(q, q'), e1, e2⟩)
    refine ⟨_, (List.range len).map z, rfl, some a, cap, by simp, by simpa using hl, hm, fun hp => ?_⟩
    simp only [List.length_map, List.length_range] at hp ⊢
    have h0 := (hx 0 (by omega)).1
    obtain ⟨b, off, sp⟩ := a
    have hsp : sp = none := by simpa [Addr.add] using World.cell?_spot h0
    subst hsp
    refine ⟨b, off, rfl, trivial, fun j hj => ?_⟩
    obtain ⟨g0, g1, _, _⟩ := hx j (by omega)
    rw [add_plain] at g0 g1
    obtain ⟨z0, z1⟩ := hz j hj
    rw [g0, z0, gp_ofFn len z hj, show off + j * 2 + 1 = off + (j * 2 + 1) by omega, g1, z1]
    exact ⟨rfl, rfl⟩

theorem read_endss {tt t e i : TypeId} {f0 f1 : Field} {fuel : Nat} {cs : List Value} {x : DataW H × List MemPlace} (htt : P.underlying tt = some (.slice t)) (ct : P.cellsOf t = 1) (ht : P.underlying t = some (.slice e)) (he : P.underlying e = some (.struct #[f0, f1]))
    (ce : P.cellsOf e = 2) (o0 : f0.offset = 0) (o1 : f1.offset = 1) (t0 : f0.type = i) (t1 : f1.type = i) (hi : P.underlying i = some (.int .i64)) (ci : P.cellsOf i = 1)
    (h : DataW.trod enc P w base spare held fuel tt cs = some x) : ∃ v xs, cs = [v] ∧ EndSSR w anyB v xs := by
  rcases open_slice1 htt ct h with ⟨rfl, _⟩ | ⟨a, len, cap, m, n, V, D, Pl, rfl, hb, hl, hm, hmm, _, hx⟩
  · exact ⟨_, [], rfl, none, 0, rfl, by simp, by simp [maxLen], fun h => absurd h (by simp)⟩
  · have hlm : len ≤ m := by rw [hmm]; split <;> omega
    obtain ⟨z, hz⟩ := choose_lt (α := List (Int × Int)) (n := len) (p := fun i z => EndsR w anyB (V i) z) (fun k hk => by
      obtain ⟨_, h2⟩ := hx k (by omega)
      obtain ⟨v, xs, e1, hr⟩ := read_ends ht he ce o0 o1 t0 t1 hi ci h2
      simp at e1
      subst e1
      exact ⟨xs, hr⟩)
    refine ⟨_, (List.range len).map z, rfl, some a, cap, by simp, by simpa using hl, hm, fun hp => ?_⟩
    simp only [List.length_map, List.length_range] at hp ⊢
    have h0 := (hx 0 (by omega)).1
    obtain ⟨b, off, sp⟩ := a
    have hsp : sp = none := by simpa [Addr.add] using World.cell?_spot h0
    subst hsp
    refine ⟨b, off, rfl, trivial, fun j hj => ⟨V j, ?_, ?_⟩⟩
    · have := (hx j (by omega)).1
      rwa [add_plain] at this
    · rw [gl_ofFn len z hj]; exact hz j hj
end
end Go.Proofs.YtljjbhihllnnaaaGreat
