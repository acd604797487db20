/- The statements' own helpers, on slices of slices and networks: comparing. -/
import Derived.Test.YtclkboemgneojaaLh2
namespace Go.Proofs.Ytclkboemgneojaa
open Go.RowKit

set_option maxRecDepth 100000 in
set_option maxHeartbeats 800000 in
theorem eqEndSS_any {S S' : Nat → Prop} (v u : Value) (xs ys : List (List (Int × Int))) (w : World) (h : EndSSR w S v xs) (h' : EndSSR w S' u ys) :
    Calls Try.prog 121 #[v, u] w (RetV w (.bool (sameL xs ys))) := by
  obtain ⟨A, c, rfl, hnc, hm, hx⟩ := h
  obtain ⟨A', c', rfl, hnc', hm', hx'⟩ := h'
  unfold maxLen at hm hm'
  have HX := Lib.hid hx
  have HX' := Lib.hid hx'
  clear hx hx'
  by_cases hl : xs.length = ys.length
  · have HL := Lib.hid hl
    have e1 : (((xs.length : Nat) : Int) != ((ys.length : Nat) : Int)) = false := by simp [hl]
    clear hl
    go_enter Try.func121, Try.ntmps121
    go_wp2
    go_loopw [5] (fun i wr => ∃ k : Nat, k ≤ xs.length ∧ i = .int .i64 k ∧ (∀ j, j < k → gl xs j = gl ys j) ∧ Below w.heap.size w wr)
      (fun i _ => xs.length - (intOf i).toNat)
    case atStart => exact ⟨0, Nat.zero_le _, rfl, fun j hj => absurd hj (Nat.not_lt_zero _), Below.refl _ _⟩
    case round =>
      obtain ⟨k, hk, rfl, hsame, hbel⟩ := hrel
      have HS := Lib.hid hsame
      clear hsame
      by_cases hlt : k < xs.length
      · have hlt' : k < ys.length := by rw [← HL.out]; exact hlt
        obtain ⟨b, off, rfl, -, hc⟩ := HX.out (by omega)
        obtain ⟨b', off', rfl, -, hc'⟩ := HX'.out (by omega)
        obtain ⟨x, hx, hxr⟩ := hc k hlt
        obtain ⟨y, hy, hyr⟩ := hc' k hlt'
        have h1 : wr.cell? ⟨b, off + k, none⟩ = some x := by rw [hbel.cell (by exact lt_of_cell hx)]; exact hx
        have h3 : wr.cell? ⟨b', off' + k, none⟩ = some y := by rw [hbel.cell (by exact lt_of_cell hy)]; exact hy
        have HR := Lib.hid (hxr.below hbel.drew)
        have HR' := Lib.hid (hyr.below hbel.drew)
        have i1 : (0 : Int) ≤ (k : Int) := by omega
        have i2 : (k : Int) < (xs.length : Int) := by omega
        have i3 : (k : Int) < (ys.length : Int) := by omega
        clear hc hc' hx hy hxr hyr
        have HB := Lib.hid hbel.drew
        clear hbel
        by_cases he : gl xs k = gl ys k
        · have e2 : sameP (gl xs k) (gl ys k) = true := by simp [he, sameP]
          have HE := Lib.hid he
          clear he
          go_wp2
          go_still_tail 8, (by kernel_rfl)
          change wpList _ _ _ _ _ wr.drew
          generalize wr.drew = w2 at HB HR HR' ⊢
          go_wp2_with (go_at_call 170; refine (eqEndS_any _ _ _ _ _ HR.out HR'.out).mono ?_; rintro e w3 ⟨rfl, hb3⟩; rw [e2]; have HB3 := Lib.hid (Below.thenB HB.out hb3 HB.out.size); clear hb3)
          go_roundw
          case rel =>
            refine ⟨k + 1, by omega, by go_num, fun j hj => ?_, HB3.out⟩
            by_cases h1 : j = k
            · subst h1; exact HE.out
            · exact HS.out j (by omega)
          case measure => simp [intOf]; omega
        · have e2 : sameP (gl xs k) (gl ys k) = false := by simp [he, sameP]
          have HE := Lib.hid he
          clear he
          go_wp2
          go_still_tail 8, (by kernel_rfl)
          change wpList _ _ _ _ _ wr.drew
          generalize wr.drew = w2 at HB HR HR' ⊢
          go_wp2_with (go_at_call 170; refine (eqEndS_any _ _ _ _ _ HR.out HR'.out).mono ?_; rintro e w3 ⟨rfl, hb3⟩; rw [e2]; have HB3 := Lib.hid (Below.thenB HB.out hb3 HB.out.size); clear hb3)
          go_ret
          have : sameL xs ys = false := by
            simp only [sameL, decide_eq_false_iff_not]
            intro h3; exact HE.out (by rw [h3])
          rw [this]
          exact ⟨rfl, HB3.out⟩
      · have hk : k = xs.length := by omega
        have : sameL xs ys = true := by
          simp only [sameL, decide_eq_true_eq]
          exact lists_ext HL.out (fun j hj => HS.out j (by omega))
        have HT := Lib.hid this
        clear this
        go_wp2
        go_ret
        rw [HT.out]
        exact ⟨rfl, hbel⟩
  · have e1 : (((xs.length : Nat) : Int) != ((ys.length : Nat) : Int)) = true := by simp; omega
    have : sameL xs ys = false := by
      simp only [sameL, decide_eq_false_iff_not]
      intro h3; exact hl (by rw [h3])
    have HT := Lib.hid this
    clear this hl
    go_enter Try.func121, Try.ntmps121
    go_wp2
    go_ret
    rw [HT.out]
    exact ⟨rfl, Below.refl _ _⟩

/-- equal networks -/
def sameN (M N : Net) : Bool := sameL M.ends N.ends && sameB M.ids N.ids && sameB M.inputs N.inputs
theorem sameN_refl (N : Net) : sameN N N = true := by simp [sameN, sameL, sameB]

set_option maxRecDepth 100000 in
set_option maxHeartbeats 800000 in
theorem eqNetwork_any {S S' : Nat → Prop} (v u : Value) (M N : Net) (w : World) (h : NetR w S v M) (h' : NetR w S' u N) :
    Calls Try.prog 42 #[v, u] w (RetV w (.bool (sameN M N))) := by
  obtain ⟨ve, vi, vn, rfl, he, hi, hn⟩ := h
  obtain ⟨ue, ui, un, rfl, he', hi', hn'⟩ := h'
  have hb0 : Below w.heap.size w ((w.alloc (Obj.cells #[ve, vi, vn] 40)).alloc (Obj.cells #[ue, ui, un] 40)) := ((Below.refl _ _).alloc (Nat.le_refl _) _).alloc (by simp) _
  have HB0 := Lib.hid hb0
  have C1 := Lib.hid (eqEndSS_any _ _ _ _ _ (he.below hb0) (he'.below hb0))
  have HI := Lib.hid (hi.below hb0)
  have HI' := Lib.hid (hi'.below hb0)
  have HN := Lib.hid (hn.below hb0)
  have HN' := Lib.hid (hn'.below hb0)
  clear he he' hi hi' hn hn' hb0
  cases hs1 : sameL M.ends N.ends
  · have HE : Hid (sameN M N = false) := by simp [Hid, sameN, hs1]
    go_enter Try.func42, Try.ntmps42
    go_wp2_with (go_at_call 121; refine C1.out.mono ?_; rintro e w1 ⟨rfl, hb1⟩; rw [hs1]; have HB1 := Lib.hid (Below.thenB HB0.out hb1 HB0.out.size); clear hb1)
    go_ret
    exact ⟨by rw [HE.out]; rfl, HB1.out⟩
  · cases hs2 : sameB M.ids N.ids
    · have HE : Hid (sameN M N = false) := by simp [Hid, sameN, hs2]
      go_enter Try.func42, Try.ntmps42
      go_wp2_with fail
      refine C1.out.mono ?_
      rintro e w1 ⟨rfl, hb1⟩
      rw [hs1]
      have HB1 := Lib.hid (Below.thenB HB0.out hb1 HB0.out.size)
      have C2 := Lib.hid (eqIntS_any _ _ _ _ _ (HI.out.below hb1) (HI'.out.below hb1))
      obtain ⟨hc, hf⟩ := bcell hb1
      clear hb1
      go_wp2_with (go_at_call 41; refine C2.out.mono ?_; intro e w2 hr; obtain ⟨rfl, hb2⟩ := hr.v; rw [hs2]; have HB2 := Lib.hid (Below.thenB HB1.out hb2 HB1.out.size); clear hb2)
      go_ret
      exact ⟨by rw [HE.out]; rfl, HB2.out⟩
    · have HE : Hid (sameN M N = sameB M.inputs N.inputs) := by simp [Hid, sameN, hs1, hs2]
      go_enter Try.func42, Try.ntmps42
      go_wp2_with fail
      refine C1.out.mono ?_
      rintro e w1 ⟨rfl, hb1⟩
      rw [hs1]
      have HB1 := Lib.hid hb1
      have C2 := Lib.hid (eqIntS_any _ _ _ _ _ (HI.out.below hb1) (HI'.out.below hb1))
      obtain ⟨hc, hc'⟩ := box2 hb1
      clear hb1
      go_wp2_with fail
      refine C2.out.mono ?_
      intro e w2 hr
      obtain ⟨rfl, hb2⟩ := hr.v
      rw [hs2]
      replace hb2 := Below.then_ HB1.out hb2
      have HB2 := Lib.hid hb2
      have C3 := Lib.hid (eqIntS_any _ _ _ _ _ (HN.out.below hb2) (HN'.out.below hb2))
      clear hc hc'
      obtain ⟨hc, hc'⟩ := box2 hb2
      clear hb2 C2 C1
      cases hs3 : sameB M.inputs N.inputs
      all_goals
        go_wp2_with (go_at_call 41; refine C3.out.mono ?_; intro e w3 hr; obtain ⟨rfl, hb3⟩ := hr.v; rw [hs3]; have HB3 := Lib.hid (Below.then_ HB2.out hb3); clear hb3)
        go_ret
        exact ⟨by rw [HE.out, hs3]; rfl, Below.then_ HB0.out HB3.out⟩
end Go.Proofs.Ytclkboemgneojaa
