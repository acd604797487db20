/- What SumUp gives, in both cases. -/
import Derived.Test.YtcjghlplkbpjcaaIm7
import Derived.Test.YtcjghlplkbpjcaaSp7
namespace Go.Proofs.Ytcjghlplkbpjcaa
open Go.RowKit

/-- what SumUp gives, in both cases -/
def SumRes (N : Net) (ps vals s : List Int) (h b : Int) (ok : Bool) : Prop := (SumOk N ps vals ∧ SumIs N ps vals s h b ∧ ok = true) ∨ (¬ SumOk N ps vals ∧ s = [] ∧ h = 0 ∧ b = 0 ∧ ok = false)
theorem SumRes.unique {N : Net} {ps vals s s' : List Int} {h h' b b' : Int} {ok ok' : Bool} (x : SumRes N ps vals s h b ok) (y : SumRes N ps vals s' h' b' ok') : s = s' ∧ h = h' ∧ b = b' ∧ ok = ok' := by
  rcases x with ⟨x1, x2, rfl⟩ | ⟨x1, rfl, rfl, rfl, rfl⟩
  · rcases y with ⟨_, y2, rfl⟩ | ⟨y1, _⟩
    · obtain ⟨rfl, rfl, rfl⟩ := x2.unique x1.1 y2
      exact ⟨rfl, rfl, rfl, rfl⟩
    · exact absurd x1 y1
  · rcases y with ⟨y1, _⟩ | ⟨_, rfl, rfl, rfl, rfl⟩
    · exact absurd y1 x1
    · exact ⟨rfl, rfl, rfl, rfl⟩
theorem SumRes.len {N : Net} {ps vals s : List Int} {h b : Int} {ok : Bool} (x : SumRes N ps vals s h b ok) : s.length ≤ 40 := by
  rcases x with ⟨x1, x2, rfl⟩ | ⟨_, rfl, _⟩
  · rw [x2.bits.1]; exact x1.small.2
  · simp
def RetSum2 (N : Net) (ps vals : List Int) (w : World) (e : Ending) (w' : World) : Prop :=
  ∃ (v : Value) (s : List Int) (h b : Int) (ok : Bool), e = .returned (.tuple #[v, .int .i64 h, .int .i64 b, .bool ok]) ∧ OwnI w' w.heap.size v s ∧ SumRes N ps vals s h b ok ∧ Below w.heap.size w w'
theorem RetSum.two {N : Net} {ps vals : List Int} {w w' : World} {e : Ending} (h : RetSum N ps vals w e w') : RetSum2 N ps vals w e w' := by
  obtain ⟨hb, ⟨h1, v, s, h, b, h2, rfl, ho⟩ | ⟨h1, rfl⟩⟩ := h
  · exact ⟨v, s, h, b, true, rfl, ho, .inl ⟨h1, h2, rfl⟩, hb⟩
  · exact ⟨_, [], 0, 0, false, rfl, OwnI.nil, .inr ⟨h1, rfl, rfl, rfl, rfl⟩, hb⟩

end Go.Proofs.Ytcjghlplkbpjcaa
