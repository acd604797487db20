/- The library's Clone and Sort at slices of int, as this proof uses them; the program's test of identifiers. -/
import Derived.Test.YtcjghlplkbpjcaaIm1
import Derived.Test.YtcjghlplkbpjcaaApp
import Derived.Sort.OwnSortedInts
namespace Go.Proofs.Ytcjghlplkbpjcaa
open Go.RowKit

theorem Clone_int {S : Nat → Prop} (v : Value) (xs : List Int) (w : World) (h : IntsR w S v xs) (hn : xs.length ≤ 2097152) :
    Calls Try.prog 65 #[v] w (RetI w xs) := by
  obtain ⟨A, c, rfl, hnc, hm, hx⟩ := h
  rcases A with _ | ad
  · have h0 : xs.length = 0 := by
      rcases Nat.eq_zero_or_pos xs.length with h | h
      · exact h
      · obtain ⟨b, off, hA, _⟩ := hx h
        cases hA
    obtain rfl : xs = [] := List.eq_nil_of_length_eq_zero h0
    refine (Try.slices_Clone_int_nil _ _ w).mono ?_
    rintro e w' ⟨rfl, rfl⟩
    exact ⟨_, rfl, World.ownsRow_nil _ _ _ _, Below.refl _ _⟩
  · rcases Nat.eq_zero_or_pos xs.length with h0 | h0
    · obtain rfl : xs = [] := List.eq_nil_of_length_eq_zero h0
      refine (Try.slices_Clone_int_zero ad c w).mono ?_
      rintro e w' ⟨v', rfl, ho, -, hb⟩
      exact ⟨_, rfl, ho, hb⟩
    · obtain ⟨b, off, hA, -, hc⟩ := hx h0
      injection hA with hA
      subst hA
      refine (Try.slices_Clone_int b off xs.length c xs w (Nat.le_refl _) (by omega) hc).mono ?_
      rintro e w' ⟨v', rfl, ho, -, hb⟩
      rw [List.take_length] at ho
      exact ⟨_, rfl, ho, hb⟩

/-- numbers in rising order -/
def sorted (xs : List Int) : List Int := xs.mergeSort fun x y => decide (x ≤ y)
theorem sorted_length (xs : List Int) : (sorted xs).length = xs.length := List.length_mergeSort ..

/-- what a sort in place gives -/
def RetSort (w : World) (B : Nat) (v : Value) (ys : List Int) (e : Ending) (w' : World) : Prop := e = .returned (.tuple #[]) ∧ OwnI w' B v ys ∧ w.grownBy w' v.ownBlock

theorem Sort_int (v : Value) (xs : List Int) (B : Nat) (w : World) (h : OwnI w B v xs) (hp : 0 < xs.length) (hn : xs.length ≤ 2097152) :
    Calls Try.prog 158 #[v] w (RetSort w B v (sorted xs)) := by
  obtain ⟨h1, h2⟩ := h
  rcases h2 with ⟨rfl, h0⟩ | ⟨g, cap, cur, rfl, hB, hg, hnc, hm, hs, ht⟩
  · omega
  · rw [Nat.mul_one] at ht
    refine (Try.slices_Sort_int g 0 cap xs w (holds_of_blockI hg ht) (Array.getElem?_eq_some_iff.1 hg).1 (by omega)).mono ?_
    rintro e w' ⟨rfl, n, os, rfl⟩
    refine ⟨rfl, ?_, grownBy_sortedI _⟩
    have := ownsRow_sortedI (n := n) (os := os) (ts := sorted xs) (sorted_length xs) hB hg hnc hm hs
    rw [← sorted_length xs] at this ⊢
    exact this


/-- numbers that rise, in a range -/
def riseUpto (xs : List Int) (lo hi : Int) (k : Nat) : Prop := ∀ i, i < k → inB (gi xs i) lo hi = true ∧ (0 < i → gi xs (i - 1) < gi xs i)
open Classical in
noncomputable def riseB (xs : List Int) (lo hi : Int) : Bool := decide (riseUpto xs lo hi xs.length)
theorem riseB_iff {xs : List Int} {lo hi : Int} : riseB xs lo hi = true ↔ riseUpto xs lo hi xs.length := by simp [riseB]

set_option maxRecDepth 100000 in
set_option maxHeartbeats 800000 in
theorem increasing_any {S : Nat → Prop} (v : Value) (xs : List Int) (lo hi : Int) (w : World) (h : IntsR w S v xs) :
    Calls Try.prog 159 #[v, .int .i64 lo, .int .i64 hi] w (RetQ w (.bool (riseB xs lo hi))) := by
  have hb := h.bound
  obtain ⟨A, c, rfl, hnc, hm, hx⟩ := h
  have HX := Lib.hid hx
  clear hx hm
  go_enter Try.func159, Try.ntmps159
  go_wp2
  go_loop [11] (fun i => ∃ k : Nat, k ≤ xs.length ∧ i = .int .i64 k ∧ riseUpto xs lo hi k) (fun i => xs.length - (intOf i).toNat)
  case atStart => exact ⟨0, Nat.zero_le _, rfl, fun j hj => absurd hj (Nat.not_lt_zero _)⟩
  case round =>
    obtain ⟨k, hk, rfl, hs⟩ := hrel
    have HS := Lib.hid hs
    clear hs
    by_cases hlt : k < xs.length
    · obtain ⟨b, off, rfl, -, hc⟩ := HX.out (by omega)
      have h1 := hc k hlt
      have HF : ¬ (inB (gi xs k) lo hi = true ∧ (0 < k → gi xs (k - 1) < gi xs k)) → Hid (riseB xs lo hi = false) := fun h => by
        show _ = false
        rw [← Bool.not_eq_true, riseB_iff]
        exact fun h' => h (h' k hlt)
      have HF := Lib.hid HF
      cases he : inB (gi xs k) lo hi
      · have HT := HF.out fun h => by rw [he] at h; cases h.1
        have HE := Lib.hid he
        clear he hc
        go_wp2_with (go_at_call 48; refine (within_any _ _ _ _).mono ?_; rintro e w1 ⟨rfl, rfl⟩; rw [HE.out])
        go_ret
        exact ⟨by rw [HT.out]; rfl, rfl⟩
      · have HE := Lib.hid he
        clear he
        rcases Nat.eq_zero_or_pos k with hk0 | hk0
        · have hk1 : k ≤ 0 := by omega
          clear hc hk0
          go_wp2_with (go_at_call 48; refine (within_any _ _ _ _).mono ?_; rintro e w1 ⟨rfl, rfl⟩; rw [HE.out])
          go_round
          case rel =>
            refine ⟨k + 1, by omega, by go_num, fun j hj => ?_⟩
            obtain rfl : j = k := by omega
            exact ⟨HE.out, fun h => absurd h (by omega)⟩
          case measure => simp [intOf]; omega
        · obtain ⟨m, rfl⟩ : ∃ m, k = m + 1 := ⟨k - 1, by omega⟩
          have h2 := hc m (by omega)
          clear hc
          by_cases hr : gi xs m < gi xs (m + 1)
          · have e1 : decide (gi xs (m + 1) ≤ gi xs m) = false := by simp; omega
            have HR := Lib.hid hr
            clear hr
            go_wp2_with (go_at_call 48; refine (within_any _ _ _ _).mono ?_; rintro e w1 ⟨rfl, rfl⟩; rw [HE.out])
            go_round
            case rel =>
              refine ⟨m + 1 + 1, by omega, by go_num, fun j hj => ?_⟩
              by_cases h1 : j = m + 1
              · subst h1; exact ⟨HE.out, fun _ => HR.out⟩
              · exact HS.out j (by omega)
            case measure => simp [intOf]; omega
          · have HT := HF.out fun h => hr (h.2 (by omega))
            have e1 : decide (gi xs (m + 1) ≤ gi xs m) = true := by simp; omega
            clear hr
            go_wp2_with (go_at_call 48; refine (within_any _ _ _ _).mono ?_; rintro e w1 ⟨rfl, rfl⟩; rw [HE.out])
            go_ret
            exact ⟨by rw [HT.out]; rfl, rfl⟩
    · have HT : Hid (riseB xs lo hi = true) := by
        have hk2 : k = xs.length := by omega
        exact riseB_iff.2 (by rw [← hk2]; exact HS.out)
      go_wp2
      go_ret
      exact ⟨by rw [HT.out]; rfl, rfl⟩
end Go.Proofs.Ytcjghlplkbpjcaa
