/- The program's test of a range. -/
import Derived.Test.YtclkboemgneojaaChecked
import Derived.Test.YtclkboemgneojaaFun
namespace Go.Proofs.Ytclkboemgneojaa
open Go.RowKit

theorem within_any (n lo hi : Int) (w : World) :
    Calls Try.prog 54 #[.int .i64 n, .int .i64 lo, .int .i64 hi] w (RetQ w (.bool (inB n lo hi))) := by
  by_cases h1 : lo ≤ n
  · have e1 : decide (lo ≤ n) = true := by simp [h1]
    by_cases h2 : n ≤ hi
    · have HE : Hid (inB n lo hi = true) := by simp [Hid, inB, h1, h2]
      go_enter Try.func54, Try.ntmps54
      go_wp2
      go_ret
      exact ⟨by rw [HE.out]; rfl, rfl⟩
    · have HE : Hid (inB n lo hi = false) := by simp [Hid, inB, h2]
      have e2 : decide (n ≤ hi) = false := by simp [h2]
      go_enter Try.func54, Try.ntmps54
      go_wp2
      go_ret
      exact ⟨by rw [HE.out]; rfl, rfl⟩
  · have HE : Hid (inB n lo hi = false) := by simp [Hid, inB, h1]
    have e1 : decide (lo ≤ n) = false := by simp [h1]
    go_enter Try.func54, Try.ntmps54
    go_wp2
    go_ret
    exact ⟨by rw [HE.out]; rfl, rfl⟩
end Go.Proofs.Ytclkboemgneojaa
