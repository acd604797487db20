/- The reference's greater of two numbers. -/
import Derived.Test.YtclkboemgneojaaSp1
namespace Go.Proofs.Ytclkboemgneojaa
open Go.RowKit

theorem l1Most_any (a b : Int) (w : World) : Calls Try.prog 174 #[.int .i64 a, .int .i64 b] w (RetQ w (.int .i64 (max a b))) := by
  by_cases h : b < a
  · have HE : Hid (max a b = a) := Int.max_eq_left (by omega)
    go_enter Try.func174, Try.ntmps174
    go_wp2
    go_ret
    exact ⟨by rw [HE.out]; rfl, rfl⟩
  · have HE : Hid (max a b = b) := Int.max_eq_right (by omega)
    go_enter Try.func174, Try.ntmps174
    go_wp2
    go_ret
    exact ⟨by rw [HE.out]; rfl, rfl⟩
end Go.Proofs.Ytclkboemgneojaa
