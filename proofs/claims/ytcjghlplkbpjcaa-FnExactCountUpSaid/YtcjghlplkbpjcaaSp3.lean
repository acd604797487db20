/- The reference's copies of lists, greatest numbers, binary digits. -/
import Derived.Test.YtcjghlplkbpjcaaSp1
import Derived.Test.YtcjghlplkbpjcaaApp
import Derived.Lib.BitFns
namespace Go.Proofs.Ytcjghlplkbpjcaa
open Go.RowKit

set_option maxHeartbeats 400000 in
theorem l1Own_any {S : Nat → Prop} (v : Value) (xs : List Int) (w : World) (h : IntsR w S v xs) (hn : xs.length ≤ 2097152) :
    Calls Try.prog 121 #[v] w (RetI w xs) := by
  have HR := Lib.hid h
  clear h
  go_enter Try.func121, Try.ntmps121
  go_wp2_with (at_builtin; refine wpList_append_ints _ rfl (.tmp 3) (.tmp 4) rfl w.heap.size _ [] rfl (OwnI.made _ rfl (Nat.le_refl _)) _ xs rfl (HR.out.below ((Below.refl _ _).alloc (Nat.le_refl _) _)) (by simp; omega) (by simp) ?_)
  intro A c w' ho hg
  have HO := Lib.hid ho
  have HB := Lib.hid (below_grown ((Below.refl w.heap.size w).alloc (Nat.le_refl _) (Obj.cells #[] 3)) (OwnI.made #[] rfl (Nat.le_refl _)) hg (by simp))
  clear ho hg
  go_wp2_with fail
  go_ret
  exact ⟨_, rfl, by simpa using HO.out, HB.out⟩

theorem l1Most_any (a b : Int) (w : World) : Calls Try.prog 99 #[.int .i64 a, .int .i64 b] w (RetQ w (.int .i64 (max a b))) := by
  by_cases h : b < a
  · have HE : Hid (max a b = a) := Int.max_eq_left (by omega)
    go_enter Try.func99, Try.ntmps99
    go_wp2
    go_ret
    exact ⟨by rw [HE.out]; rfl, rfl⟩
  · have HE : Hid (max a b = b) := Int.max_eq_right (by omega)
    go_enter Try.func99, Try.ntmps99
    go_wp2
    go_ret
    exact ⟨by rw [HE.out]; rfl, rfl⟩

theorem l1Abs_any (a : Int) (w : World) (h1 : -1000000000000 ≤ a) (h2 : a ≤ 1000000000000) : Calls Try.prog 122 #[.int .i64 a] w (RetQ w (.int .i64 (a.natAbs : Int))) := by
  have HE : Hid (max a (-a) = (a.natAbs : Int)) := by show max a (-a) = _; omega
  go_enter Try.func122, Try.ntmps122
  go_wp2_with (go_at_call 99; refine (l1Most_any _ _ _).mono ?_; rintro e w1 ⟨rfl, rfl⟩)
  go_ret
  exact ⟨by rw [← HE.out]; rfl, rfl⟩

/-- the binary digits of a number, at least one -/
def bitsN (n : Nat) : Nat := max (Lib.bitLen n) 1

theorem bitLenAux_le : ∀ f x, Lib.bitLenAux f x ≤ f
  | 0, _ => Nat.le_refl _
  | f + 1, x => by
    unfold Lib.bitLenAux
    split
    · omega
    · have := bitLenAux_le f (x / 2); omega
theorem bitLenAux_mono : ∀ f x, x < 2 ^ f → Lib.bitLenAux (f + 1) x = Lib.bitLenAux f x
  | 0, x, h => by
    obtain rfl : x = 0 := by simpa using h
    rfl
  | f + 1, x, h => by
    rw [Lib.bitLenAux]
    conv => rhs; rw [Lib.bitLenAux]
    split
    · rfl
    · rw [bitLenAux_mono f (x / 2) (by rw [Nat.pow_succ] at h; omega)]
theorem bitLen_half {x : Nat} (h : 0 < x) (hx : x < 18446744073709551616) : Lib.bitLen x = 1 + Lib.bitLen (x / 2) := by
  unfold Lib.bitLen
  conv => lhs; rw [Lib.bitLenAux]
  rw [if_neg (by omega), ← bitLenAux_mono 63 (x / 2) (by simp; omega)]
theorem bitsN_half {x : Nat} (h : 1 < x) (hx : x < 18446744073709551616) : bitsN x = 1 + bitsN (x / 2) := by
  have h1 := bitLen_half (x := x) (by omega) hx
  have h2 := bitLen_half (x := x / 2) (by omega) (by omega)
  unfold bitsN
  omega
theorem bitsN_small {x : Nat} (h : x ≤ 1) : bitsN x = 1 := by
  rcases x with _ | x
  · rfl
  · obtain rfl : x = 0 := by omega
    rfl
theorem bitsN_le (x : Nat) : 1 ≤ bitsN x ∧ bitsN x ≤ 64 := by
  have := bitLenAux_le 64 x
  unfold bitsN Lib.bitLen
  omega

set_option maxHeartbeats 400000 in
theorem biBits_any (x : Int) (w : World) (h1 : -1000000000000 ≤ x) (h2 : x ≤ 1000000000000) : Calls Try.prog 60 #[.int .i64 x] w (RetQ w (.int .i64 (bitsN x.natAbs))) := by
  have C := Lib.hid (l1Abs_any x w h1 h2)
  have hle : x.natAbs ≤ 1000000000000 := by omega
  obtain ⟨n, hn⟩ : ∃ n, n = x.natAbs := ⟨_, rfl⟩
  rw [← hn] at C hle ⊢
  clear hn h1 h2
  go_enter Try.func60, Try.ntmps60
  go_wp2_with (go_at_call 122; refine C.out.mono ?_; rintro e w1 ⟨rfl, rfl⟩)
  go_loop [0, 3] (fun y b => ∃ m c : Nat, y = .int .i64 m ∧ b = .int .i64 c ∧ m ≤ n ∧ c + bitsN m = bitsN n + 1 ∧ c ≤ 65) (fun y _ => (intOf y).toNat)
  case atStart => exact ⟨n, 1, rfl, rfl, Nat.le_refl _, by omega, by omega⟩
  case round =>
    obtain ⟨m, c, rfl, rfl, hm, hc, hc2⟩ := hrel
    have hbm := bitsN_le m
    have hbn := bitsN_le n
    by_cases hlt : 1 < m
    · have hh := bitsN_half (x := m) hlt (by omega)
      have HH := Lib.hid (And.intro hh hc)
      have hc3 : c ≤ 64 := by omega
      clear hh hc
      go_wp2
      go_round
      case rel =>
        refine ⟨m / 2, c + 1, by go_num, by go_num, by omega, ?_, by omega⟩
        have := HH.out
        omega
      case measure => simp [intOf]; omega
    · have hs := bitsN_small (x := m) (by omega)
      have HE : Hid ((bitsN n : Int) = c) := by show (bitsN n : Int) = c; omega
      clear hs hc hbm hbn
      go_wp2
      go_ret
      exact ⟨by rw [HE.out]; rfl, rfl⟩
end Go.Proofs.Ytcjghlplkbpjcaa
