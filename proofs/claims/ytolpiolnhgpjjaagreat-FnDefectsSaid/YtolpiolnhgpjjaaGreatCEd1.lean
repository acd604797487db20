/- spec.neFirst, spec.neEdges over data -/
import Derived.Test.YtolpiolnhgpjjaaGreatCJn19
import Derived.Test.YtolpiolnhgpjjaaGreatCDt
set_option linter.unusedSimpArgs false
set_option linter.unusedVariables false
namespace Go.Proofs.YtolpiolnhgpjjaaGreat
open Go Go.RowKit
def By (N : Net) (v i : Nat) : Bool := decide ((v : Int) < (gp (gl N.ends v) i).1) || (decide ((v : Int) = (gp (gl N.ends v) i).1) && decide ((i : Int) ≤ (gp (gl N.ends v) i).2))
def D3 (N : Net) (v i : Nat) : List (List Int) := if By N v i = true then [[(v : Int), (i : Int), (gp (gl N.ends v) i).1, (gp (gl N.ends v) i).2]] else []
def ms (N : Net) (v m : Nat) : List (List Int) := (List.range m).flatMap (D3 N v)
def sn (N : Net) (m : Nat) : List (List Int) := (List.range m).flatMap fun v => ms N v (gl N.ends v).length
theorem ub (N : Net) (v m : Nat) : ms N v (m + 1) = ms N v m ++ D3 N v m := by simp [ms, List.range_succ]
theorem xq (N : Net) (m : Nat) : sn N (m + 1) = sn N m ++ ms N m (gl N.ends m).length := by simp [sn, List.range_succ]
theorem Fy (N : Net) (v m : Nat) : (ms N v m).length ≤ m := by
 induction m with
 | zero => simp [ms]
 | succ m ih =>
  rw [ub, List.length_append];have : (D3 N v m).length ≤ 1 := by unfold D3; split <;> simp
  omega
theorem Ad (N : Net) : ∀ m, m ≤ N.ends.length → (∀ v, v < N.ends.length → (gl N.ends v).length ≤ 1000) → (sn N m).length ≤ m * 1000
 | 0, _, _ => by simp [sn]
 | m + 1, h, hd => by
  rw [xq, List.length_append, Nat.add_mul];have h1 := Ad N m (by omega) hd;have h2 := Fy N m (gl N.ends m).length;have h3 := hd m (by omega);omega
theorem K6 (t : TypeId) (L : List (List Int)) (a b c d : Int) : L.map (lsC t) ++ [[C.sl true t 1 [[C.p (.int .i64 a)], [C.p (.int .i64 b)], [C.p (.int .i64 c)], [C.p (.int .i64 d)]]]] = (L ++ [[a, b, c, d]]).map (lsC t) := by simp [lsC, iC]
end Go.Proofs.YtolpiolnhgpjjaaGreat
