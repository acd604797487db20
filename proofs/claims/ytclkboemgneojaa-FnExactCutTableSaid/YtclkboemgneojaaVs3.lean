/- The reference's test whether a view fits a depth. -/
import Derived.Test.YtclkboemgneojaaVs2
namespace Go.Proofs.Ytclkboemgneojaa
open Go.RowKit

theorem fitss_all {ts : List VT} {k : Nat} : fitss ts k = true ↔ ∀ j, j < ts.length → (ga ts j).fits k = true := by
  induction ts with
  | nil => simp [fitss]
  | cons t ts ih =>
    simp only [fitss, Bool.and_eq_true, ih]
    constructor
    · rintro ⟨h1, h2⟩ j hj
      cases j with
      | zero => simpa [ga] using h1
      | succ j => have := h2 j (by simpa using hj); simpa [ga] using this
    · intro h
      exact ⟨by have := h 0 (by simp); simpa [ga] using this, fun j hj => by have := h (j + 1) (by simpa using hj); simpa [ga] using this⟩
theorem fits_mk (d i : Nat) (ps : List Nat) (ts : List VT) (k : Nat) : (VT.mk d i ps ts).fits k = (d == 0 || ((ts.isEmpty == (k == 0)) && fitss ts (k - 1))) := by simp [VT.fits]
theorem fits_no {d i : Nat} {ps : List Nat} {ts : List VT} {k : Nat} (hd : d ≠ 0) {j : Nat} (hj : j < ts.length) (h : (ga ts j).fits (k - 1) = false) : (VT.mk d i ps ts).fits k = false := by
  rw [fits_mk]
  have : fitss ts (k - 1) = false := by
    rw [← Bool.not_eq_true, fitss_all]
    intro h2
    rw [h2 j hj] at h; cases h
  simp [hd, this]
theorem fits_yes {d i : Nat} {ps : List Nat} {ts : List VT} {k : Nat} (he : ts.isEmpty = (k == 0)) (h : ∀ j, j < ts.length → (ga ts j).fits (k - 1) = true) : (VT.mk d i ps ts).fits k = true := by
  rw [fits_mk, fitss_all.2 h, he]; simp

set_option maxRecDepth 100000 in
set_option maxHeartbeats 2000000 in
theorem spFits (n : Nat) : ∀ (t : VT) (w : World) (S : Nat → Prop) (p k : Nat), t.dep < n → TreeR w S t p → k ≤ 1000 →
    Calls Try.prog 125 #[.pointer (some ⟨p, 0, none⟩), .int .i64 (k : Nat)] w (RetQ w (.bool (t.fits k))) := by
  induction n with
  | zero => intro t w S p k h; omega
  | succ n ih =>
    intro t w S p k hn h hk
    obtain ⟨d, i, ps, ts⟩ := t
    simp only [TreeR] at h
    obtain ⟨hS, hl, vp, vt, qs, c0, c1, c2, c3, c4, hp, ht, hts⟩ := h
    rw [dep_mk] at hn
    have IH := Lib.hid ih
    have HT := Lib.hid hts
    have hq : qs.length = ts.length := hts.len
    obtain ⟨A, c, rfl, hnc, hm, hx⟩ := ht
    rw [hq] at hnc hx c3
    unfold maxLen at hm
    have HX := Lib.hid hx
    have HQ := Lib.hid hq
    have HN := Lib.hid hn
    clear ih hts hx hp hq hn
    by_cases hd : d = 0
    · have e1 : ((d : Int) == 0) = true := by simp [hd]
      have HE : Hid ((VT.mk d i ps ts).fits k = true) := Lib.hid (by rw [fits_mk]; simp [hd])
      clear hd
      go_enter Try.func125, Try.ntmps125
      go_wp2_with fail
      go_ret
      exact ⟨by rw [HE.out]; rfl, rfl⟩
    have e1 : ((d : Int) == 0) = false := by simp [hd]
    have HD := Lib.hid hd
    clear hd
    by_cases he : ts.length = 0 ∧ k ≠ 0 ∨ ts.length ≠ 0 ∧ k = 0
    · have HE : Hid ((VT.mk d i ps ts).fits k = false) := Lib.hid (by
        rw [fits_mk]
        rcases he with ⟨h1, h2⟩ | ⟨h1, h2⟩
        · have := List.eq_nil_of_length_eq_zero h1
          subst this; simp [HD.out, h2]
        · have : ts.isEmpty = false := by cases ts with | nil => simp at h1 | cons => rfl
          simp [HD.out, h2, this])
      rcases he with ⟨h1, h2⟩ | ⟨h1, h2⟩
      · have e2 : ((ts.length : Int) == 0) = true := by simp [h1]
        have e3 : ((k : Int) == 0) = false := by simp [h2]
        clear h1 h2
        go_enter Try.func125, Try.ntmps125
        go_wp2_with fail
        go_ret
        exact ⟨by rw [HE.out]; rfl, rfl⟩
      · have e2 : ((ts.length : Int) == 0) = false := by simp [h1]
        have e3 : ((k : Int) == 0) = true := by simp [h2]
        clear h1 h2
        go_enter Try.func125, Try.ntmps125
        go_wp2_with fail
        go_ret
        exact ⟨by rw [HE.out]; rfl, rfl⟩
    obtain ⟨bb, e2, e3⟩ : ∃ bb : Bool, ((ts.length : Int) == 0) = bb ∧ ((k : Int) == 0) = bb := by
      by_cases h1 : ts.length = 0
      · have h2 : k = 0 := by omega
        exact ⟨true, by simp [h1], by simp [h2]⟩
      · have h2 : k ≠ 0 := by omega
        exact ⟨false, by simp [h1], by simp [h2]⟩
    have HI : Hid (ts.isEmpty = (k == 0)) := Lib.hid (by
      cases ts with
      | nil => simp at he ⊢; exact he.symm ▸ rfl
      | cons => simp at he ⊢; exact he)
    have HK : Hid (0 < ts.length → 0 < k) := Lib.hid fun h => by omega
    clear he
    cases bb
    all_goals
    go_enter Try.func125, Try.ntmps125
    go_wp2_with fail
    go_loop [26] (fun x => ∃ j : Nat, j ≤ ts.length ∧ x = .int .i64 j ∧ ∀ r, r < j → (ga ts r).fits (k - 1) = true) (fun x => ts.length - (intOf x).toNat)
    case atStart => exact ⟨0, Nat.zero_le _, rfl, fun r hr => absurd hr (Nat.not_lt_zero _)⟩
    case round =>
      obtain ⟨j, hj, rfl, hall⟩ := hrel
      have HA := Lib.hid hall
      clear hall
      by_cases hlt : j < ts.length
      · obtain ⟨b, off, rfl, -, hlb, hc⟩ := HX.out (by have := HQ.out; omega)
        have cj : w.cell? ⟨b, off + j, none⟩ = some (.pointer (some ⟨ga qs j, 0, none⟩)) := by
          have := hc j (by have := HQ.out; omega) 0 (by decide)
          simpa [encP] using this
        have i1 : (0 : Int) ≤ (j : Int) := by omega
        have i2 : (j : Int) < (ts.length : Int) := by omega
        have hk0 : 0 < k := HK.out (by omega)
        have ek : (k : Int) - 1 = ((k - 1 : Nat) : Int) := by omega
        have HC := Lib.hid (IH.out (ga ts j) w S (ga qs j) (k - 1) (by have := HN.out; have := deps_ge (ga_mem hlt); omega) (HT.out.at_ hlt) (by omega))
        have HEK := Lib.hid ek
        clear hc ek
        cases hf : (ga ts j).fits (k - 1) with
        | false =>
          have HE : Hid ((VT.mk d i ps ts).fits k = false) := Lib.hid (fits_no HD.out hlt hf)
          rw [hf] at HC
          clear hf
          go_wp2_with (go_at_call 125; rw [HEK.out]; refine HC.out.mono ?_; rintro e w1 ⟨rfl, rfl⟩)
          go_ret
          exact ⟨by rw [HE.out]; rfl, rfl⟩
        | true =>
          rw [hf] at HC
          have HF := Lib.hid hf
          clear hf
          go_wp2_with (go_at_call 125; rw [HEK.out]; refine HC.out.mono ?_; rintro e w1 ⟨rfl, rfl⟩)
          go_round
          case rel =>
            refine ⟨j + 1, by omega, by go_num, fun r hr => ?_⟩
            by_cases h3 : r = j
            · subst h3; exact HF.out
            · exact HA.out r (by omega)
          case measure => simp [intOf]; omega
      · obtain rfl : j = ts.length := by omega
        have HE : Hid ((VT.mk d i ps ts).fits k = true) := Lib.hid (fits_yes HI.out HA.out)
        go_wp2_with fail
        go_ret
        exact ⟨by rw [HE.out]; rfl, rfl⟩
end Go.Proofs.Ytclkboemgneojaa
