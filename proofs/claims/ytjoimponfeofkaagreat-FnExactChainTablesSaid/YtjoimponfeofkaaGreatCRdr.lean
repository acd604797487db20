/- From the form's reading of an argument to rows of a table. No program's function in sight. -/
import Derived.Test.YtjoimponfeofkaaGreatCRd
import Derived.Test.YtjoimponfeofkaaGreatCJn3
namespace Go.Proofs.YtjoimponfeofkaaGreat
open Go.ChangeShapes Go.WideShapes Go.ChangeAt Go.RowKit Go.Deep Go.Joins

section
variable {H : Type} {enc : TypeId × Value → H} {P : Program} {w : World} {base : Nat} {spare : Nat → Bool} {held : Bool}
theorem ga_ofFn (n : Nat) (f : Nat → RowT) {j : Nat} (h : j < n) : ga ((List.range n).map f) j = f j := by simp [ga, h]
theorem read_rows {t e s i : TypeId} {f0 f1 : Field} {fuel : Nat} {cs : List Value} {x : DataW H × List MemPlace} (ht : P.underlying t = some (.slice e)) (he : P.underlying e = some (.struct #[f0, f1]))
    (ce : P.cellsOf e = 2) (o0 : f0.offset = 0) (o1 : f1.offset = 1) (t0 : f0.type = s) (t1 : f1.type = i) (hs : P.underlying s = some .string) (hi : P.underlying i = some (.int .i64)) (cs' : P.cellsOf s = 1) (ci : P.cellsOf i = 1)
    (h : DataW.trod enc P w base spare held fuel t cs = some x) : ∃ v rows, cs = [v] ∧ SlR encR w anyB v rows ∧ ∀ j, j < rows.length → (ga rows j).1.size ≤ 9223372036854775807 := by
  rcases open_slice_pairs ht he ce o0 o1 (by rw [t0]; exact cs') (by rw [t1]; exact ci) h with ⟨rfl, _⟩ | ⟨a, len, cap, m, n, V0, V1, D0, D1, P0, P1, rfl, hb, hl, hm, hmm, _, hx⟩
  · exact ⟨_, [], rfl, SlR.nil, fun j hj => by simp at hj⟩
  · have hlm : len ≤ m := by rw [hmm]; split <;> omega
    obtain ⟨z, hz⟩ := choose_lt (α := RowT) (n := len) (p := fun i z => (V0 i = .string z.1 ∧ V1 i = .int .i64 z.2) ∧ z.1.size ≤ maxLen) (fun i hi' => by
      obtain ⟨_, _, h2, h3⟩ := hx i (by omega)
      rw [t0] at h2
      rw [t1] at h3
      obtain ⟨q, e1, _, e3⟩ := DataW.trod_string hs h2
      obtain ⟨q', e2, _, _⟩ := DataW.trod_int hi h3
      simp at e1 e2
      exact ⟨(q, q'), ⟨e1, e2⟩, e3⟩)
    refine ⟨_, (List.range len).map z, rfl, ⟨some a, cap, by simp, by simpa using hl, hm, fun hp => ?_⟩, fun j hj => ?_⟩
    · simp only [List.length_map, List.length_range] at hp ⊢
      have h0 := (hx 0 (by omega)).1
      obtain ⟨b, off, sp⟩ := a
      have hsp : sp = none := by simpa [Addr.add] using World.cell?_spot h0
      subst hsp
      rw [add_plain] at h0
      refine ⟨b, off, rfl, trivial, lt_of_cell h0, fun j hj q hq => ?_⟩
      obtain ⟨g0, g1, _, _⟩ := hx j (by omega)
      rw [add_plain] at g0 g1
      obtain ⟨⟨z0, z1⟩, -⟩ := hz j hj
      rw [ga_ofFn len z hj]
      have hq2 : q < 2 := hq
      match q, hq2 with
      | 0, _ => rw [show off + j * encR.k + 0 = off + j * 2 from rfl, g0, z0]; rfl
      | 1, _ => rw [show off + j * encR.k + 1 = off + (j * 2 + 1) by show off + j * 2 + 1 = _; omega, g1, z1]; rfl
    · simp only [List.length_map, List.length_range] at hj
      rw [ga_ofFn len z hj]
      have := (hz j hj).2
      unfold maxLen at this; omega
end
end Go.Proofs.YtjoimponfeofkaaGreat
