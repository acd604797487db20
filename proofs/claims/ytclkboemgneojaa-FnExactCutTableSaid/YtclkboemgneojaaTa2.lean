/- The reference's test of a table. -/
import Derived.Test.YtclkboemgneojaaVs4
import Derived.Deep.DeepCutAuto
import Derived.WalkLawsBesides
import Derived.Test.YtclkboemgneojaaTa1
namespace Go.Proofs.Ytclkboemgneojaa
open Go.RowKit
theorem l1In_b (n lo hi : Int) (b : Bool) (w : World) (h : inB n lo hi = b) :
    Calls Try.prog 48 #[.int .i64 n, .int .i64 lo, .int .i64 hi] w (RetQ w (.bool b)) := by subst h; exact l1In_any n lo hi w

set_option maxRecDepth 100000 in
set_option maxHeartbeats 4000000 in
theorem taGood_any {S : Nat → Prop} (v : Value) (D : Int) (rows : List RowT) (w : World) (h : SlR encR w S v rows) :
    Calls Try.prog 47 #[.agg #[.int .i64 D, v]] w (RetV w (.bool (tabB D rows))) := by
  have hbd := h.bound
  have HR := Lib.hid h
  obtain ⟨A, c, rfl, hnc, hm, hx⟩ := h
  unfold maxLen at hm
  have HX := Lib.hid hx
  clear hx
  have hb0 : Below w.heap.size w (w.alloc (.cells #[.int .i64 D, .slice A rows.length c] 28)) := (Below.refl _ _).alloc (Nat.le_refl _) _
  have HB0 := Lib.hid hb0
  have HK0 := Lib.hid (Blk.new w 28 #[.int .i64 D, .slice A rows.length c])
  clear hb0
  cases hD : inB D 0 4 with
  | false =>
    have CW := Lib.hid (fun W => l1In_b D 0 4 false W hD)
    have HN : Hid (tabB D rows = false) := Lib.hid (by simp [tabB, hD])
    clear hD
    go_enter Try.func47, Try.ntmps47
    go_wp2_with (go_at_call 48; refine (CW.out _).mono ?_; rintro e w1 ⟨rfl, rfl⟩)
    go_ret
    exact ⟨by rw [HN.out]; rfl, HB0.out⟩
  | true =>
  have CW := Lib.hid (fun W => l1In_b D 0 4 true W hD)
  have HD := Lib.hid hD
  clear hD
  by_cases hl : 60 < rows.length
  · have HN : Hid (tabB D rows = false) := Lib.hid (by simp [tabB, show ¬ rows.length ≤ 60 by omega])
    go_enter Try.func47, Try.ntmps47
    go_wp2_with (go_at_call 48; refine (CW.out _).mono ?_; rintro e w1 ⟨rfl, rfl⟩)
    go_ret
    exact ⟨by rw [HN.out]; rfl, HB0.out⟩
  go_enter Try.func47, Try.ntmps47
  go_wp2_with (go_at_call 48; refine (CW.out _).mono ?_; rintro e w1 ⟨rfl, rfl⟩)
  clear CW
  go_loopw [20] (fun i wr => ∃ k : Nat, k ≤ rows.length ∧ i = .int .i64 k ∧ (∀ j, j < k → rowB D (ga rows j) = true ∧ (0 < j → lessB (ga rows (j - 1)).1 (ga rows j).1 = true)) ∧
      Blk wr w.heap.size 28 #[.int .i64 D, .slice A rows.length c] ∧ Below w.heap.size w wr) (fun i _ => rows.length - (intOf i).toNat)
  case atStart => exact ⟨0, Nat.zero_le _, rfl, fun j hj => absurd hj (Nat.not_lt_zero _), HK0.out, HB0.out⟩
  case round =>
    obtain ⟨k, hk, rfl, hj, hblk, hbel⟩ := hrel
    have HJ := Lib.hid hj
    have HK := Lib.hid hblk
    have HB := Lib.hid hbel
    clear hj hblk hbel
    by_cases hlt : k < rows.length
    · obtain ⟨b, off, rfl, -, hbl, hc⟩ := HX.out (by omega)
      have hcr : ∀ j, j < rows.length → w.cell? ⟨b, off + j * 2, none⟩ = some (.string (ga rows j).1) ∧ w.cell? ⟨b, off + j * 2 + 1, none⟩ = some (.int .i64 (ga rows j).2) := fun j hj => by
        have h0 := hc j hj 0 (by decide)
        have h1 := hc j hj 1 (by decide)
        simp only [encR, Nat.add_zero, List.getElem?_cons_zero, List.getElem?_cons_succ] at h0 h1
        exact ⟨h0, h1⟩
      have HC := Lib.hid hcr
      have hzw : b < wr.heap.size := Nat.lt_of_lt_of_le hbl HB.out.size
      have hck := hcr k hlt
      have c0 : wr.cell? ⟨b, off + k * 2, none⟩ = some (.string (ga rows k).1) := (HB.out.cell (p := ⟨b, off + k * 2, none⟩) hbl).trans hck.1
      have c1 : wr.cell? ⟨b, off + k * 2 + 1, none⟩ = some (.int .i64 (ga rows k).2) := (HB.out.cell (p := ⟨b, off + k * 2 + 1, none⟩) hbl).trans hck.2
      have i0 : (0 : Int) ≤ (k : Int) := by omega
      have i1 : (k : Int) < (rows.length : Int) := by omega
      have hbw : Below wr.heap.size wr (wr.alloc (.cells #[.string (ga rows k).1, .int .i64 (ga rows k).2] 84)) := (Below.refl _ _).alloc (Nat.le_refl _) _
      have HBW := Lib.hid (Below.then_ HB.out (hbw.mono HB.out.size |> fun h => hbw))
      have HKW := Lib.hid (HK.out.below hbw)
      have HRW := Lib.hid (Blk.new wr 84 #[.string (ga rows k).1, .int .i64 (ga rows k).2])
      clear hc hcr hck hbw
      go_wp2_with fail
      generalize wr.alloc (.cells #[.string (ga rows k).1, .int .i64 (ga rows k).2] 84) = wa at *
      refine (spParse_any (ga rows k).1 wa).mono ?_
      rintro e w1 ⟨pv1, ok1, rfl, hb1, hres⟩
      have HB1 := Lib.hid (Below.then_ HBW.out hb1)
      have HK1 := Lib.hid (HKW.out.below hb1)
      have HR1 := Lib.hid (HRW.out.below hb1)
      clear hb1 c0 c1
      go_upto_region 7 with (fail)
      go_cut [70] (fun u W => ∃ bad : Bool, u = .bool bad ∧ (∃ n, W = w1.drewN n) ∧ bad = !(rowB D (ga rows k) && (decide (k = 0) || lessB (ga rows (k - 1)).1 (ga rows k).1)))
      case first =>
        have kt := HK1.out.cell
        have kr := HR1.out.cell
        cases hv : viewOf (ga rows k).1 with
        | none =>
          rw [hv] at hres
          obtain rfl : ok1 = false := hres
          have HE : Hid (rowB D (ga rows k) = false) := Lib.hid (by simp [rowB, hv])
          clear hv
          go_quiet (fail)
          go_wp2_with fail
          go_meet
          exact ⟨true, rfl, ⟨_, rfl⟩, by rw [HE.out]; rfl⟩
        | some t =>
          rw [hv] at hres
          obtain ⟨rfl, q, rfl, ht⟩ := hres
          obtain ⟨kq0, kq4, -, -⟩ := ht.deg
          have hin := inB_or (ga rows k).2
          have HV : Hid (rowB D (ga rows k) = ((decide ((t.dep : Int) = D) || t.deg == 0) && inB (ga rows k).2 0 99)) := Lib.hid (by simp [rowB, hv])
          clear hv ht
          by_cases hbc : (t.dep : Int) ≠ D ∧ t.deg ≠ 0
          · obtain ⟨hd, hg⟩ := hbc
            have e1 : ((t.dep : Int) != D) = true := by simp [hd]
            have e2 : decide (0 < t.deg) = true := by simp; omega
            have HE : Hid (rowB D (ga rows k) = false) := Lib.hid (by rw [HV.out]; simp [hd, hg])
            clear hd hg HV hin
            go_quiet (fail)
            go_wp2_with fail
            go_meet
            exact ⟨true, rfl, ⟨_, rfl⟩, by rw [HE.out]; rfl⟩
          have HE : Hid (rowB D (ga rows k) = inB (ga rows k).2 0 99) := Lib.hid (by
            rw [HV.out]
            have : (decide ((t.dep : Int) = D) || t.deg == 0) = true := by
              simp only [Bool.or_eq_true, decide_eq_true_eq, beq_iff_eq]; omega
            rw [this, Bool.true_and])
          have HBC := Lib.hid hbc
          clear HV hbc
          by_cases hd : (t.dep : Int) = D
          all_goals
            try have e1 : ((t.dep : Int) != D) = false := by simp [hd]
            try have e1 : ((t.dep : Int) != D) = true := by simp [hd]
            try have e2 : decide (0 < t.deg) = false := by have := HBC.out; simp; omega
            clear hd HBC
            cases hb : inB (ga rows k).2 0 99 with
            | false =>
              have CV := Lib.hid (fun W => l1In_b (ga rows k).2 0 99 false W hb)
              have HE2 := Lib.hid (HE.out.trans hb)
              clear hb
              go_quiet ((go_at_call 48; exact quietQ (CV.out _)))
              go_wp2_with fail
              go_meet
              exact ⟨true, rfl, ⟨_, rfl⟩, by rw [HE2.out]; rfl⟩
            | true =>
              have CV := Lib.hid (fun W => l1In_b (ga rows k).2 0 99 true W hb)
              have HE2 := Lib.hid (HE.out.trans hb)
              clear hb
              by_cases hk0 : k = 0
              · have e3 : decide (0 < k) = false := by simp [hk0]
                have HZ := Lib.hid hk0
                clear hk0
                go_quiet ((go_at_call 48; exact quietQ (CV.out _)))
                go_wp2_with fail
                go_meet
                exact ⟨false, rfl, ⟨_, rfl⟩, by rw [HE2.out, HZ.out]; rfl⟩
              · have e3 : decide (0 < k) = true := by simp; omega
                have hcp := (HC.out (k - 1) (by omega)).1
                have cp : w1.cell? ⟨b, off + (k - 1) * 2, none⟩ = some (.string (ga rows (k - 1)).1) := (HB1.out.cell (p := ⟨b, off + (k - 1) * 2, none⟩) hbl).trans hcp
                have j0 : (0 : Int) ≤ (k : Int) - 1 := by omega
                have j1 : (k : Int) - 1 < (rows.length : Int) := by omega
                have hw : IntKind.i64.wrap ((k : Int) - 1) = (k : Int) - 1 := IntWalk.i64_in _ (by omega)
                have hn : ((k : Int) - 1).toNat = k - 1 := by omega
                have HZ := Lib.hid hk0
                clear hk0 hcp
                cases hs : lessB (ga rows (k - 1)).1 (ga rows k).1 with
                | true =>
                  have es : (!Op.bytesLess (ga rows (k - 1)).1.toList (ga rows k).1.toList) = false := by unfold lessB at hs; rw [hs]; rfl
                  have HS := Lib.hid hs
                  clear hs
                  go_quiet ((go_at_call 48; exact quietQ (CV.out _)))
                  go_wp2_with fail
                  go_meet
                  exact ⟨false, rfl, ⟨_, rfl⟩, by rw [HE2.out, HS.out]; simp⟩
                | false =>
                  have es : (!Op.bytesLess (ga rows (k - 1)).1.toList (ga rows k).1.toList) = true := by unfold lessB at hs; rw [hs]; rfl
                  have HS := Lib.hid hs
                  clear hs
                  go_quiet ((go_at_call 48; exact quietQ (CV.out _)))
                  go_wp2_with fail
                  go_meet
                  exact ⟨true, rfl, ⟨_, rfl⟩, by rw [HE2.out, HS.out]; simp [HZ.out]⟩
      case rest =>
      obtain ⟨bad, rfl, ⟨n, rfl⟩, hbad⟩ := hcut
      have HB2 := Lib.hid (below_drewN HB1.out n)
      have HK2 := Lib.hid (HK1.out.below (below_drewN (Below.refl _ _) n))
      have HBAD := Lib.hid hbad
      clear hbad HB1 HK1 HR1 hres
      cases bad
      · go_wp2_with fail
        go_roundw
        case rel =>
          refine ⟨k + 1, by omega, by go_num, fun j hj => ?_, HK2.out, HB2.out⟩
          by_cases h3 : j = k
          · subst h3
            have := HBAD.out
            simp at this
            exact ⟨this.1, fun h0 => this.2 (by omega)⟩
          · exact HJ.out j (by omega)
        case measure => simp [intOf]; omega
      · have HN : Hid (tabB D rows = false) := Lib.hid (by
          rw [← Bool.not_eq_true, tabB_iff]
          rintro ⟨-, -, t3, t4⟩
          have h4 := t3 k hlt
          have := HBAD.out
          rw [h4] at this
          by_cases h5 : k = 0
          · simp [h5] at this
          · have h6 := asc_iff.1 t4 (k - 1) (by omega)
            rw [show k - 1 + 1 = k by omega] at h6
            rw [h6] at this; simp at this)
        go_wp2_with fail
        go_ret
        exact ⟨by rw [HN.out]; rfl, HB2.out⟩
    · obtain rfl : k = rows.length := by omega
      have HN : Hid (tabB D rows = true) := Lib.hid (by
        simp only [tabB, HD.out, Bool.true_and, Bool.and_eq_true, decide_eq_true_eq]
        exact ⟨by omega, HJ.out⟩)
      go_wp2_with fail
      go_ret
      exact ⟨by rw [HN.out]; rfl, HB.out⟩
end Go.Proofs.Ytclkboemgneojaa
