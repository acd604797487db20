/- The reference's small functions. -/
import Derived.Test.YtclkboemgneojaaChecked
import Derived.Test.YtclkboemgneojaaFun
namespace Go.Proofs.Ytclkboemgneojaa
open Go.RowKit

theorem l1In_any (n lo hi : Int) (w : World) :
    Calls Try.prog 48 #[.int .i64 n, .int .i64 lo, .int .i64 hi] w (RetQ w (.bool (inB n lo hi))) := by
  by_cases h1 : lo ≤ n
  · have e1 : decide (lo ≤ n) = true := by simp [h1]
    by_cases h2 : n ≤ hi
    · have HE : Hid (inB n lo hi = true) := by simp [Hid, inB, h1, h2]
      go_enter Try.func48, Try.ntmps48
      go_wp2
      go_ret
      exact ⟨by rw [HE.out]; rfl, rfl⟩
    · have HE : Hid (inB n lo hi = false) := by simp [Hid, inB, h2]
      have e2 : decide (n ≤ hi) = false := by simp [h2]
      go_enter Try.func48, Try.ntmps48
      go_wp2
      go_ret
      exact ⟨by rw [HE.out]; rfl, rfl⟩
  · have HE : Hid (inB n lo hi = false) := by simp [Hid, inB, h1]
    have e1 : decide (lo ≤ n) = false := by simp [h1]
    go_enter Try.func48, Try.ntmps48
    go_wp2
    go_ret
    exact ⟨by rw [HE.out]; rfl, rfl⟩

set_option maxHeartbeats 400000 in
theorem l1Has_any {S : Nat → Prop} (v : Value) (xs : List Int) (n : Int) (w : World) (h : IntsR w S v xs) :
    Calls Try.prog 111 #[v, .int .i64 n] w (RetQ w (.bool (hasB xs n))) := by
  have hb := h.bound
  obtain ⟨A, c, rfl, hnc, hm, hx⟩ := h
  have HX := Lib.hid hx
  clear hx
  go_enter Try.func111, Try.ntmps111
  go_wp2
  go_loop [9] (fun i => ∃ k : Nat, k ≤ xs.length ∧ i = .int .i64 k ∧ ∀ j, j < k → gi xs j ≠ n) (fun i => xs.length - (intOf i).toNat)
  case atStart => exact ⟨0, Nat.zero_le _, rfl, fun j hj => absurd hj (Nat.not_lt_zero _)⟩
  case round =>
    obtain ⟨k, hk, rfl, hs⟩ := hrel
    have HS := Lib.hid hs
    clear hs
    by_cases hlt : k < xs.length
    · obtain ⟨b, off, rfl, -, hc⟩ := HX.out (by omega)
      have h1 := hc k hlt
      clear hc
      by_cases he : gi xs k = n
      · have HT := Lib.hid (hasB_of_lt hlt he)
        have e2 : (gi xs k == n) = true := by simp [he]
        clear he
        go_wp2
        go_ret
        exact ⟨by rw [HT.out]; rfl, rfl⟩
      · have e2 : (gi xs k == n) = false := by simp [he]
        have HE := Lib.hid he
        clear he
        go_wp2
        go_round
        case rel =>
          refine ⟨k + 1, by omega, by go_num, fun j hj => ?_⟩
          by_cases h1 : j = k
          · subst h1; exact HE.out
          · exact HS.out j (by omega)
        case measure => simp [intOf]; omega
    · have HT : Hid (hasB xs n = false) := hasB_false_all.2 fun j hj => HS.out j (by omega)
      go_wp2
      go_ret
      exact ⟨by rw [HT.out]; rfl, rfl⟩

set_option maxHeartbeats 400000 in
theorem l1All_any {S : Nat → Prop} (v : Value) (xs : List Int) (lo hi : Int) (w : World) (h : IntsR w S v xs) :
    Calls Try.prog 108 #[v, .int .i64 lo, .int .i64 hi] w (RetQ w (.bool (allB xs lo hi))) := by
  have hb := h.bound
  obtain ⟨A, c, rfl, hnc, hm, hx⟩ := h
  have HX := Lib.hid hx
  clear hx
  go_enter Try.func108, Try.ntmps108
  go_wp2
  go_loop [11] (fun i => ∃ k : Nat, k ≤ xs.length ∧ i = .int .i64 k ∧ ∀ j, j < k → inB (gi xs j) lo hi = true) (fun i => xs.length - (intOf i).toNat)
  case atStart => exact ⟨0, Nat.zero_le _, rfl, fun j hj => absurd hj (Nat.not_lt_zero _)⟩
  case round =>
    obtain ⟨k, hk, rfl, hs⟩ := hrel
    have HS := Lib.hid hs
    clear hs
    by_cases hlt : k < xs.length
    · obtain ⟨b, off, rfl, -, hc⟩ := HX.out (by omega)
      have h1 := hc k hlt
      clear hc
      cases he : inB (gi xs k) lo hi
      · have HT : Hid (allB xs lo hi = false) := by
          show _ = false
          rw [← Bool.not_eq_true, allB_iff]
          intro h; have := h k hlt; rw [he] at this; cases this
        have HE := Lib.hid he
        clear he
        go_wp2_with (go_at_call 48; refine (l1In_any _ _ _ _).mono ?_; rintro e w1 ⟨rfl, rfl⟩; rw [HE.out])
        go_ret
        exact ⟨by rw [HT.out]; rfl, rfl⟩
      · have HE := Lib.hid he
        clear he
        go_wp2_with (go_at_call 48; refine (l1In_any _ _ _ _).mono ?_; rintro e w1 ⟨rfl, rfl⟩; rw [HE.out])
        go_round
        case rel =>
          refine ⟨k + 1, by omega, by go_num, fun j hj => ?_⟩
          by_cases h1 : j = k
          · subst h1; exact HE.out
          · exact HS.out j (by omega)
        case measure => simp [intOf]; omega
    · have HT : Hid (allB xs lo hi = true) := allB_iff.2 fun j hj => HS.out j (by omega)
      go_wp2
      go_ret
      exact ⟨by rw [HT.out]; rfl, rfl⟩

theorem IntsR.take {w : World} {S : Nat → Prop} {A : Option Addr} {c k : Nat} {xs : List Int} (h : 0 < xs.length → ∃ b off, A = some ⟨b, off, none⟩ ∧ S b ∧ ∀ j, j < xs.length → w.cell? ⟨b, off + j, none⟩ = some (.int .i64 (gi xs j)))
    (hk : k ≤ xs.length) (hc : xs.length ≤ c) (hm : c ≤ maxLen) : IntsR w S (.slice A k c) (xs.take k) := by
  have hl : (xs.take k).length = k := by simp [hk]
  refine ⟨A, c, by rw [hl], by omega, hm, fun hn => ?_⟩
  obtain ⟨b, off, hA, hS, hcell⟩ := h (by omega)
  refine ⟨b, off, hA, hS, fun j hj => ?_⟩
  rw [hcell j (by omega)]
  simp [gi, show j < k by omega]

set_option maxRecDepth 100000 in
set_option maxHeartbeats 800000 in
theorem neIds_any {S : Nat → Prop} (v : Value) (xs : List Int) (n : Int) (w : World) (h : IntsR w S v xs) :
    Calls Try.prog 153 #[v, .int .i64 n] w (RetQ w (.bool (idsB xs n))) := by
  have hb := h.bound
  obtain ⟨A, c, rfl, hnc, hm, hx⟩ := h
  have HX := Lib.hid hx
  have HM := Lib.hid hm
  clear hx hm
  go_enter Try.func153, Try.ntmps153
  go_wp2
  go_loop [9] (fun i => ∃ k : Nat, k ≤ xs.length ∧ i = .int .i64 k ∧ idsUpto xs k) (fun i => xs.length - (intOf i).toNat)
  case atStart => exact ⟨0, Nat.zero_le _, rfl, fun j hj => absurd hj (Nat.not_lt_zero _)⟩
  case round =>
    obtain ⟨k, hk, rfl, hs⟩ := hrel
    have HS := Lib.hid hs
    clear hs
    by_cases hlt : k < xs.length
    · have HR := Lib.hid (IntsR.take HX.out hk hnc HM.out)
      obtain ⟨b, off, rfl, -, hc⟩ := HX.out (by omega)
      have h1 := hc k hlt
      clear hc
      have hck : (k : Int) ≤ (c : Int) := by omega
      cases he : inB (gi xs k) 1 999999
      · have HT : Hid (idsB xs n = false) := by
          simp only [Hid, idsB, Bool.and_eq_false_iff, decide_eq_false_iff_not]
          refine .inl fun h => ?_
          have := (h k hlt).1; rw [he] at this; cases this
        have HE := Lib.hid he
        clear he
        go_wp2_with (go_at_call 48; refine (l1In_any _ _ _ _).mono ?_; rintro e w1 ⟨rfl, rfl⟩; rw [HE.out])
        go_ret
        exact ⟨by rw [HT.out]; rfl, rfl⟩
      · have HE := Lib.hid he
        clear he
        cases hh : hasB (xs.take k) (gi xs k)
        · have HH := Lib.hid hh
          clear hh
          go_wp2_with (first | (go_at_call 48; refine (l1In_any _ _ _ _).mono ?_; rintro e w1 ⟨rfl, rfl⟩; rw [HE.out]) | (go_at_call 111; refine (l1Has_any _ _ _ _ HR.out).mono ?_; rintro e w1 ⟨rfl, rfl⟩; rw [HH.out]))
          go_round
          case rel =>
            refine ⟨k + 1, by omega, by go_num, fun j hj => ?_⟩
            by_cases h1 : j = k
            · subst h1; exact ⟨HE.out, HH.out⟩
            · exact HS.out j (by omega)
          case measure => simp [intOf]; omega
        · have HT : Hid (idsB xs n = false) := by
            simp only [Hid, idsB, Bool.and_eq_false_iff, decide_eq_false_iff_not]
            refine .inl fun h => ?_
            have := (h k hlt).2; rw [hh] at this; cases this
          have HH := Lib.hid hh
          clear hh
          go_wp2_with (first | (go_at_call 48; refine (l1In_any _ _ _ _).mono ?_; rintro e w1 ⟨rfl, rfl⟩; rw [HE.out]) | (go_at_call 111; refine (l1Has_any _ _ _ _ HR.out).mono ?_; rintro e w1 ⟨rfl, rfl⟩; rw [HH.out]))
          go_ret
          exact ⟨by rw [HT.out]; rfl, rfl⟩
    · obtain rfl : k = xs.length := by omega
      have HT : Hid (idsB xs n = (xs.length == 0 || (xs.length : Int) == n)) := by
        simp only [Hid, idsB]
        have h2 : ∀ i, i < xs.length → inB (gi xs i) 1 999999 = true ∧ hasB (xs.take i) (gi xs i) = false := HS.out
        rw [decide_eq_true h2, Bool.true_and]
      by_cases h0 : xs.length = 0
      · have e0 : ((xs.length : Int) == 0) = true := by simp [h0]
        have HV : Hid ((xs.length == 0 || (xs.length : Int) == n) = true) := by simp [Hid, h0]
        clear h0
        go_wp2
        go_ret
        exact ⟨by rw [HT.out, HV.out]; rfl, rfl⟩
      · have e0 : ((xs.length : Int) == 0) = false := by simp; exact fun h => h0 (by simp [h])
        by_cases h2 : (xs.length : Int) = n
        · have e2 : ((xs.length : Int) == n) = true := by simp [h2]
          have HV : Hid ((xs.length == 0 || (xs.length : Int) == n) = true) := by simp [Hid, h2]
          clear h0 h2
          go_wp2
          go_ret
          exact ⟨by rw [HT.out, HV.out]; rfl, rfl⟩
        · have e2 : ((xs.length : Int) == n) = false := by simp [h2]
          have HV : Hid ((xs.length == 0 || (xs.length : Int) == n) = false) := by simp [Hid, h0, h2]
          clear h0 h2
          go_wp2
          go_ret
          exact ⟨by rw [HT.out, HV.out]; rfl, rfl⟩
end Go.Proofs.Ytclkboemgneojaa
