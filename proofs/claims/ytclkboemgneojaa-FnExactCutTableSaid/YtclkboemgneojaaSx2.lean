/- The reference's search in a table; a row put into one. -/
import Derived.Test.YtclkboemgneojaaSx1
import Derived.Test.YtclkboemgneojaaTa2
import Derived.Test.YtclkboemgneojaaTab2
namespace Go.Proofs.Ytclkboemgneojaa
open Go.RowKit

/-- the place of a view among rows -/
def FindAt (rows : List RowT) (s : ByteArray) (k : Nat) (is : Bool) : Prop :=
  k ≤ rows.length ∧ (∀ j, j < k → lessB (ga rows j).1 s = true) ∧ (k < rows.length → lessB (ga rows k).1 s = false) ∧ (is = true ↔ k < rows.length ∧ (ga rows k).1 = s)
theorem putR_find : ∀ {rows : List RowT} {r : RowT} {k : Nat} {is : Bool}, FindAt rows r.1 k is →
    putR r rows = if is = true then (if (ga rows k).2 = r.2 then some rows else none) else some (rows.take k ++ r :: rows.drop k)
  | [], r, k, is, h => by
    obtain ⟨h1, h2, h3, h4⟩ := h
    have : is = false := by rw [← Bool.not_eq_true, h4]; simp
    subst this
    simp at h1
    simp [putR, h1]
  | x :: xs, r, 0, is, h => by
    obtain ⟨h1, h2, h3, h4⟩ := h
    have h5 := h3 (by simp)
    simp only [ga, List.getD_cons_zero, List.length_cons] at h4 h5
    rw [putR, if_neg (by rw [h5]; simp)]
    by_cases he : x.1 = r.1
    · have : is = true := h4.2 ⟨by omega, he⟩
      subst this
      simp [he, ga]
    · have : is = false := by rw [← Bool.not_eq_true, h4]; simp [he]
      subst this
      simp [he]
  | x :: xs, r, k + 1, is, h => by
    obtain ⟨h1, h2, h3, h4⟩ := h
    have h0 := h2 0 (by omega)
    simp only [ga, List.getD_cons_zero] at h0
    have e : ∀ j, ga (x :: xs) (j + 1) = ga xs j := fun j => by simp [ga]
    have ih := putR_find (rows := xs) (r := r) (k := k) (is := is) ⟨by simpa using h1, fun j hj => by have := h2 (j + 1) (by omega); rwa [e] at this, fun hk => by have := h3 (by simpa using hk); rwa [e] at this, by rw [h4, e]; simp⟩
    rw [putR, if_pos h0, ih, e]
    cases is
    · simp
    · by_cases h6 : (ga xs k).2 = r.2 <;> simp [h6]

def RetFd (w : World) (rows : List RowT) (s : ByteArray) (e : Ending) (w' : World) : Prop := ∃ (k : Nat) (is : Bool), e = .returned (.tuple #[.int .i64 (k : Nat), .bool is]) ∧ FindAt rows s k is ∧ Below w.heap.size w w'

set_option maxRecDepth 100000 in
set_option maxHeartbeats 1000000 in
theorem taFind_any {S : Nat → Prop} (v : Value) (D : Int) (rows : List RowT) (s : ByteArray) (w : World) (h : SlR encR w S v rows) :
    Calls Try.prog 126 #[.agg #[.int .i64 D, v], .string s] w (RetFd w rows s) := by
  have hbd := h.bound
  have HR := Lib.hid h
  obtain ⟨A, c, rfl, hnc, hm, hx⟩ := h
  unfold maxLen at hm
  have HX := Lib.hid hx
  clear hx
  have hb0 : Below w.heap.size w (w.alloc (.cells #[.int .i64 D, .slice A rows.length c] 28)) := (Below.refl _ _).alloc (Nat.le_refl _) _
  have HB0 := Lib.hid hb0
  have hk0 := (Blk.new w 28 #[.int .i64 D, .slice A rows.length c]).cell
  clear hb0
  go_enter Try.func126, Try.ntmps126
  go_wp2_with fail
  generalize w.alloc (.cells #[.int .i64 D, .slice A rows.length c] 28) = w1 at *
  go_loop [6] (fun i => ∃ k : Nat, k ≤ rows.length ∧ i = .int .i64 k ∧ ∀ j, j < k → lessB (ga rows j).1 s = true) (fun i => rows.length - (intOf i).toNat)
  case atStart => exact ⟨0, Nat.zero_le _, rfl, fun j hj => absurd hj (Nat.not_lt_zero _)⟩
  case round =>
    obtain ⟨k, hk, rfl, hj⟩ := hrel
    have HJ := Lib.hid hj
    clear hj
    by_cases hlt : k < rows.length
    · obtain ⟨b, off, rfl, -, hbl, hc⟩ := HX.out (by omega)
      have c0 : w1.cell? ⟨b, off + k * 2, none⟩ = some (.string (ga rows k).1) := by
        rw [HB0.out.cell (p := ⟨b, off + k * 2, none⟩) hbl]; simpa [encR] using hc k hlt 0 (by decide)
      have i0 : (0 : Int) ≤ (k : Int) := by omega
      have i1 : (k : Int) < (rows.length : Int) := by omega
      clear hc
      cases hs : lessB (ga rows k).1 s with
      | true =>
        have es : Op.bytesLess (ga rows k).1.toList s.toList = true := hs
        have HS := Lib.hid hs
        clear hs
        go_wp2_with fail
        go_round
        case rel =>
          refine ⟨k + 1, by omega, by go_num, fun j hj => ?_⟩
          by_cases h3 : j = k
          · subst h3; exact HS.out
          · exact HJ.out j (by omega)
        case measure => simp [intOf]; omega
      | false =>
        have es : Op.bytesLess (ga rows k).1.toList s.toList = false := hs
        have HS := Lib.hid hs
        clear hs
        by_cases he : (ga rows k).1 = s
        · have e1 : ((ga rows k).1.toList == s.toList) = true := by simp [he]
          have HE := Lib.hid he
          clear he
          go_wp2_with fail
          go_quiet (fail)
          go_wp2_with fail
          go_ret2
          exact ⟨k, true, rfl, ⟨hk, HJ.out, fun _ => HS.out, by simp [hlt, HE.out]⟩, below_drewN HB0.out _⟩
        · have e1 : ((ga rows k).1.toList == s.toList) = false := by
            rw [beq_eq_false_iff_ne]
            intro h
            exact he (bytes_ext (by rw [← ByteArray.toList_eq, ← ByteArray.toList_eq]; exact h))
          have HE := Lib.hid he
          clear he
          go_wp2_with fail
          go_quiet (fail)
          go_wp2_with fail
          go_ret2
          exact ⟨k, false, rfl, ⟨hk, HJ.out, fun _ => HS.out, by simp [HE.out]⟩, below_drewN HB0.out _⟩
    · obtain rfl : k = rows.length := by omega
      go_wp2_with fail
      go_quiet (fail)
      go_wp2_with fail
      go_ret2
      exact ⟨rows.length, false, rfl, ⟨hk, HJ.out, fun h => absurd h (Nat.lt_irrefl _), by simp⟩, below_drewN HB0.out _⟩
end Go.Proofs.Ytclkboemgneojaa
