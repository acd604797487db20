/- The program's test of identifiers, inputs, nodes and ports. -/
import Derived.Test.YtcjghlplkbpjcaaIm2
namespace Go.Proofs.Ytcjghlplkbpjcaa
open Go.RowKit

/-- identifiers as the program tests them -/
noncomputable def idsOkB (xs : List Int) (n : Int) : Bool := xs.length == 0 || ((xs.length : Int) == n && riseB (sorted xs) 1 999999)

set_option maxHeartbeats 800000 in
theorem idsOk_any {S : Nat → Prop} (v : Value) (xs : List Int) (n : Int) (w : World) (h : IntsR w S v xs) (hn : xs.length ≤ 2097152) :
    Calls Try.prog 124 #[v, .int .i64 n] w (RetV w (.bool (idsOkB xs n))) := by
  have C := Lib.hid (Clone_int v xs w h hn)
  obtain ⟨A, c, rfl, hnc, hm, -⟩ := h
  unfold maxLen at hm
  rcases Nat.eq_zero_or_pos xs.length with h0 | h0
  · have e0 : ((xs.length : Int) == 0) = true := by simp [h0]
    have HT : Hid (idsOkB xs n = true) := by simp [Hid, idsOkB, h0]
    clear h0
    go_enter Try.func124, Try.ntmps124
    go_wp2_with fail
    go_ret
    exact ⟨by rw [HT.out]; rfl, Below.refl _ _⟩
  · have e0 : ((xs.length : Int) == 0) = false := by simp; intro h; simp [h] at h0
    have HT : Hid (idsOkB xs n = ((xs.length : Int) == n && riseB (sorted xs) 1 999999)) := by
      have : (xs.length == 0) = false := by simp; intro h; simp [h] at h0
      simp only [Hid, idsOkB, this, Bool.false_or]
    go_enter Try.func124, Try.ntmps124
    go_wp2_with fail
    refine C.out.mono ?_
    rintro e w1 ⟨u, rfl, ho, hb1⟩
    have CS := Lib.hid (Sort_int u xs _ w1 ho h0 hn)
    have HO := Lib.hid ho
    have HB1 := Lib.hid hb1
    clear ho hb1
    go_wp2_with fail
    refine CS.out.mono ?_
    rintro e w2 ⟨rfl, ho2, hg2⟩
    have HB2 := Lib.hid (below_grown HB1.out HO.out hg2 HB1.out.size)
    have CI := Lib.hid (increasing_any u (sorted xs) 1 999999 w2 ho2.ints)
    clear ho2 hg2
    by_cases hl : (xs.length : Int) = n
    · have e1 : ((xs.length : Int) == n) = true := by simp [hl]
      have HL := Lib.hid e1
      clear hl
      go_wp2_with (go_at_call 159; refine CI.out.mono ?_; rintro e w3 ⟨rfl, rfl⟩)
      go_ret
      exact ⟨by rw [HT.out, HL.out, Bool.true_and]; rfl, HB2.out⟩
    · have e1 : ((xs.length : Int) == n) = false := by simp [hl]
      have HL := Lib.hid e1
      clear hl
      go_wp2_with (go_at_call 159; refine CI.out.mono ?_; rintro e w3 ⟨rfl, rfl⟩)
      go_ret
      exact ⟨by rw [HT.out, HL.out, Bool.false_and]; rfl, HB2.out⟩

set_option maxHeartbeats 800000 in
theorem inputsOk_any {S : Nat → Prop} (v : Value) (xs : List Int) (n : Int) (w : World) (h : IntsR w S v xs) :
    Calls Try.prog 125 #[v, .int .i64 n] w (RetV w (.bool ((xs.length : Int) == n && allB xs 0 9))) := by
  have C := Lib.hid (allWithin_any v xs 0 9 w h)
  obtain ⟨A, c, rfl, hnc, hm, -⟩ := h
  unfold maxLen at hm
  by_cases hl : (xs.length : Int) = n
  · have e1 : ((xs.length : Int) == n) = true := by simp [hl]
    have HL := Lib.hid e1
    clear hl
    go_enter Try.func125, Try.ntmps125
    go_wp2_with (go_at_call 63; refine C.out.mono ?_; rintro e w3 ⟨rfl, hb⟩; have HB := Lib.hid hb; clear hb)
    go_ret
    exact ⟨by rw [HL.out, Bool.true_and]; rfl, HB.out⟩
  · have e1 : ((xs.length : Int) == n) = false := by simp [hl]
    have HL := Lib.hid e1
    clear hl
    go_enter Try.func125, Try.ntmps125
    go_wp2_with fail
    go_ret
    exact ⟨by rw [HL.out, Bool.false_and]; rfl, Below.refl _ _⟩

set_option maxHeartbeats 800000 in
theorem hasNode_any (A : Option Addr) (n c : Nat) (vi vn : Value) (x : Int) (w : World) (hn : n ≤ 9223372036854775807) :
    Calls Try.prog 74 #[.agg #[.slice A n c, vi, vn], .int .i64 x] w (RetV w (.bool (inB x 0 ((n : Int) - 1)))) := by
  have hb0 : ∀ o1, Below w.heap.size w (w.alloc o1) := fun o1 => (Below.refl _ _).alloc (Nat.le_refl _) _
  have HB0 := Lib.hid hb0
  clear hb0
  go_enter Try.func74, Try.ntmps74
  go_wp2_with (go_at_call 48; refine (within_any _ _ _ _).mono ?_; rintro e w1 ⟨rfl, rfl⟩)
  go_ret
  exact ⟨rfl, HB0.out _⟩

/-- node v has a port i -/
def portB (N : Net) (v i : Int) : Bool := inB v 0 ((N.ends.length : Int) - 1) && inB i 0 (((gl N.ends v.toNat).length : Int) - 1)

set_option maxRecDepth 100000 in
set_option maxHeartbeats 800000 in
theorem hasPort_any {S : Nat → Prop} (v : Value) (N : Net) (x i : Int) (w : World) (h : NetR w S v N) :
    Calls Try.prog 82 #[v, .int .i64 x, .int .i64 i] w (RetV w (.bool (portB N x i))) := by
  obtain ⟨ve, vi, vn, rfl, he, hi, hn⟩ := h
  obtain ⟨A, c, rfl, hnc, hm, hx⟩ := he
  obtain ⟨A1, c1, rfl, -, -, -⟩ := hi
  obtain ⟨A2, c2, rfl, -, -, -⟩ := hn
  unfold maxLen at hm
  have hb0 : ∀ o1, Below w.heap.size w (w.alloc o1) := fun o1 => (Below.refl _ _).alloc (Nat.le_refl _) _
  have HB0 := Lib.hid hb0
  have HX := Lib.hid hx
  clear hb0 hx
  cases h1 : inB x 0 ((N.ends.length : Int) - 1)
  · have HT : Hid (portB N x i = false) := by simp [Hid, portB, h1]
    have H1 := Lib.hid h1
    clear h1
    go_enter Try.func82, Try.ntmps82
    go_wp2_with (go_at_call 74; refine (hasNode_any _ _ _ _ _ _ _ (by omega)).mono ?_; rintro e w1 ⟨rfl, hb1⟩; rw [H1.out]; have HB1 := Lib.hid (Below.then_ (HB0.out _) hb1); clear hb1)
    go_ret
    exact ⟨by rw [HT.out]; rfl, HB1.out⟩
  · have HT : Hid (portB N x i = inB i 0 (((gl N.ends x.toNat).length : Int) - 1)) := by simp only [Hid, portB, h1, Bool.true_and]
    obtain ⟨hp1, hp2⟩ := inB_iff.1 h1
    have hat : x.toNat < N.ends.length := by omega
    obtain ⟨b, off, rfl, -, hc⟩ := HX.out (by omega)
    obtain ⟨u, hu, A3, c3, rfl, hn3, hm3, -⟩ := hc x.toNat hat
    unfold maxLen at hm3
    have H1 := Lib.hid h1
    clear h1 hc
    go_enter Try.func82, Try.ntmps82
    go_wp2_with fail
    refine (hasNode_any _ _ _ _ _ _ _ (by omega)).mono ?_
    rintro e w1 ⟨rfl, hb1⟩
    rw [H1.out]
    have k1 := box1 hb1
    have hb2 := Below.then_ (HB0.out _) hb1
    have hd : w1.cell? ⟨b, off + x.toNat, none⟩ = some (.slice A3 (gl N.ends x.toNat).length c3) := by rw [hb2.cell (by exact lt_of_cell hu)]; exact hu
    have HB2 := Lib.hid hb2
    clear hb1 hb2 hu
    go_wp2_with (go_at_call 48; refine (within_any _ _ _ _).mono ?_; rintro e w1 ⟨rfl, rfl⟩)
    go_ret
    exact ⟨by rw [HT.out]; rfl, HB2.out⟩
end Go.Proofs.Ytcjghlplkbpjcaa
