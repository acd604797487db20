/- The statements' own helpers, on pairs: comparing. -/
import Derived.Test.YtclkboemgneojaaLh1
import Derived.StillTailTactics
namespace Go.Proofs.Ytclkboemgneojaa
open Go.RowKit

set_option maxHeartbeats 400000 in
theorem eqEnd_any (a b c d : Int) (w : World) :
    Calls Try.prog 198 #[.agg #[.int .i64 a, .int .i64 b], .agg #[.int .i64 c, .int .i64 d]] w (RetV w (.bool (a == c && b == d))) := by
  have fin : ∀ o1 o2 : Obj, Below w.heap.size w ((w.alloc o1).alloc o2) := fun o1 o2 => ((Below.refl _ _).alloc (Nat.le_refl _) _).alloc (by simp) _
  by_cases h1 : a = c
  · have e1 : (a != c) = false := by simp [h1]
    have e1' : (a == c) = true := by simp [h1]
    by_cases h2 : b = d
    · have e2 : (b != d) = false := by simp [h2]
      have e2' : (b == d) = true := by simp [h2]
      clear h1 h2
      go_enter Try.func198, Try.ntmps198
      go_wp2
      go_ret
      exact ⟨by rw [e1', e2']; rfl, fin _ _⟩
    · have e2 : (b != d) = true := by simp [h2]
      have e2' : (b == d) = false := by simp [h2]
      clear h1 h2
      go_enter Try.func198, Try.ntmps198
      go_wp2
      go_ret
      exact ⟨by rw [e2', Bool.and_false]; rfl, fin _ _⟩
  · have e1 : (a != c) = true := by simp [h1]
    have e1' : (a == c) = false := by simp [h1]
    clear h1
    go_enter Try.func198, Try.ntmps198
    go_wp2
    go_ret
    exact ⟨by rw [e1', Bool.false_and]; rfl, fin _ _⟩

theorem pairs_ext {xs ys : List (Int × Int)} (hl : xs.length = ys.length) (h : ∀ j, j < xs.length → gp xs j = gp ys j) : xs = ys := by
  apply List.ext_getElem hl
  intro i h1 h2
  have := h i h1
  rwa [gp_lt h1, gp_lt h2] at this
theorem lists_ext {xs ys : List (List (Int × Int))} (hl : xs.length = ys.length) (h : ∀ j, j < xs.length → gl xs j = gl ys j) : xs = ys := by
  apply List.ext_getElem hl
  intro i h1 h2
  have := h i h1
  rwa [gl_lt h1, gl_lt h2] at this

def sameP (xs ys : List (Int × Int)) : Bool := decide (xs = ys)
def sameL (xs ys : List (List (Int × Int))) : Bool := decide (xs = ys)

set_option maxRecDepth 100000 in
set_option maxHeartbeats 800000 in
theorem eqEndS_any {S S' : Nat → Prop} (v u : Value) (xs ys : List (Int × Int)) (w : World) (h : EndsR w S v xs) (h' : EndsR w S' u ys) :
    Calls Try.prog 170 #[v, u] w (RetV w (.bool (sameP xs ys))) := by
  obtain ⟨A, c, rfl, hnc, hm, hx⟩ := h
  obtain ⟨A', c', rfl, hnc', hm', hx'⟩ := h'
  unfold maxLen at hm hm'
  have HX := Lib.hid hx
  have HX' := Lib.hid hx'
  clear hx hx'
  by_cases hl : xs.length = ys.length
  · have HL := Lib.hid hl
    have e1 : (((xs.length : Nat) : Int) != ((ys.length : Nat) : Int)) = false := by simp [hl]
    clear hl
    go_enter Try.func170, Try.ntmps170
    go_wp2
    go_loopw [5] (fun i wr => ∃ k : Nat, k ≤ xs.length ∧ i = .int .i64 k ∧ (∀ j, j < k → gp xs j = gp ys j) ∧ Below w.heap.size w wr)
      (fun i _ => xs.length - (intOf i).toNat)
    case atStart => exact ⟨0, Nat.zero_le _, rfl, fun j hj => absurd hj (Nat.not_lt_zero _), Below.refl _ _⟩
    case round =>
      obtain ⟨k, hk, rfl, hsame, hbel⟩ := hrel
      have HS := Lib.hid hsame
      clear hsame
      by_cases hlt : k < xs.length
      · have hlt' : k < ys.length := by rw [← HL.out]; exact hlt
        obtain ⟨b, off, rfl, -, hc⟩ := HX.out (by omega)
        obtain ⟨b', off', rfl, -, hc'⟩ := HX'.out (by omega)
        have h1 : wr.cell? ⟨b, off + k * 2, none⟩ = some (.int .i64 (gp xs k).1) := by rw [hbel.cell (by exact lt_of_cell (hc k hlt).1)]; exact (hc k hlt).1
        have h2 : wr.cell? ⟨b, off + k * 2 + 1, none⟩ = some (.int .i64 (gp xs k).2) := by rw [hbel.cell (by exact lt_of_cell (hc k hlt).1)]; exact (hc k hlt).2
        have h3 : wr.cell? ⟨b', off' + k * 2, none⟩ = some (.int .i64 (gp ys k).1) := by rw [hbel.cell (by exact lt_of_cell (hc' k hlt').1)]; exact (hc' k hlt').1
        have h4 : wr.cell? ⟨b', off' + k * 2 + 1, none⟩ = some (.int .i64 (gp ys k).2) := by rw [hbel.cell (by exact lt_of_cell (hc' k hlt').1)]; exact (hc' k hlt').2
        have i1 : (0 : Int) ≤ (k : Int) := by omega
        have i2 : (k : Int) < (xs.length : Int) := by omega
        have i3 : (k : Int) < (ys.length : Int) := by omega
        clear hc hc'
        have HB := Lib.hid hbel.drew
        clear hbel
        by_cases he : gp xs k = gp ys k
        · have e2 : ((gp xs k).1 == (gp ys k).1 && (gp xs k).2 == (gp ys k).2) = true := by simp [he]
          have HE := Lib.hid he
          clear he
          go_wp2
          go_still_tail 8, (by kernel_rfl)
          change wpList _ _ _ _ _ wr.drew
          generalize wr.drew = w2 at HB ⊢
          go_wp2_with (go_at_call 198; refine (eqEnd_any _ _ _ _ _).mono ?_; rintro e w3 ⟨rfl, hb3⟩; rw [e2]; have HB3 := Lib.hid (Below.thenB HB.out hb3 HB.out.size); clear hb3)
          go_roundw
          case rel =>
            refine ⟨k + 1, by omega, by go_num, fun j hj => ?_, HB3.out⟩
            by_cases h1 : j = k
            · subst h1; exact HE.out
            · exact HS.out j (by omega)
          case measure => simp [intOf]; omega
        · have e2 : ((gp xs k).1 == (gp ys k).1 && (gp xs k).2 == (gp ys k).2) = false := by
            simp only [Bool.and_eq_false_iff, beq_eq_false_iff_ne]
            rcases Classical.em ((gp xs k).1 = (gp ys k).1) with h | h
            · exact .inr fun h2 => he (Prod.ext h h2)
            · exact .inl h
          have HE := Lib.hid he
          clear he
          go_wp2
          go_still_tail 8, (by kernel_rfl)
          change wpList _ _ _ _ _ wr.drew
          generalize wr.drew = w2 at HB ⊢
          go_wp2_with (go_at_call 198; refine (eqEnd_any _ _ _ _ _).mono ?_; rintro e w3 ⟨rfl, hb3⟩; rw [e2]; have HB3 := Lib.hid (Below.thenB HB.out hb3 HB.out.size); clear hb3)
          go_ret
          have : sameP xs ys = false := by
            simp only [sameP, decide_eq_false_iff_not]
            intro h3; exact HE.out (by rw [h3])
          rw [this]
          exact ⟨rfl, HB3.out⟩
      · have hk : k = xs.length := by omega
        have : sameP xs ys = true := by
          simp only [sameP, decide_eq_true_eq]
          exact pairs_ext HL.out (fun j hj => HS.out j (by omega))
        have HT := Lib.hid this
        clear this
        go_wp2
        go_ret
        rw [HT.out]
        exact ⟨rfl, hbel⟩
  · have e1 : (((xs.length : Nat) : Int) != ((ys.length : Nat) : Int)) = true := by simp; omega
    have : sameP xs ys = false := by
      simp only [sameP, decide_eq_false_iff_not]
      intro h3; exact hl (by rw [h3])
    have HT := Lib.hid this
    clear this hl
    go_enter Try.func170, Try.ntmps170
    go_wp2
    go_ret
    rw [HT.out]
    exact ⟨rfl, Below.refl _ _⟩
end Go.Proofs.Ytclkboemgneojaa
