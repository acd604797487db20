/- The library's stable sort, at slices of int that the call owns, by a function value that compares by a key: a permutation, sorted by the key. -/
import Derived.Test.YtcjghlplkbpjcaaSo3
import Derived.Test.YtcjghlplkbpjcaaSo4
namespace Go.Proofs.Ytcjghlplkbpjcaa
open Go.RowKit

def Sorted2 (κ : Int → Int) (d : List Int) (n : Nat) (d' : List Int) : Prop := d'.Perm d ∧ SortedOn κ d' 0 n

set_option maxRecDepth 100000 in
set_option maxHeartbeats 4000000 in
theorem stable_any (w0 : World) (B g n cap : Nat) (f : FuncId) (caps : Array Value) (cf : Int → Int → Int) (κ : Int → Int) (Pd : Int → Prop) (hC : CmpC w0 g f caps cf κ Pd)
    (d : List Int) (w : World) (h : OwnI w B (.slice (some ⟨g, 0, none⟩) n cap) d) (hl : n = d.length) (hn : n ≤ 1048576) (hpd : ∀ x ∈ d, Pd x) (hg0 : w0.grownBy w (some g)) :
    Calls Try.prog 161 #[.slice (some ⟨g, 0, none⟩) n cap, .int .i64 n, .func (.func f) #[] caps] w (RetTurn w B g n cap (Sorted2 κ d n)) := by
  have HO := Lib.hid h
  have HL := Lib.hid hl
  have HPD := Lib.hid hpd
  have CI := Lib.hid (fun (e : List Int) (a b : Nat) (W : World) (h1 : OwnI W B (.slice (some ⟨g, 0, none⟩) n cap) e) (h2 : e.Perm d) (h3 : w.grownBy W (some g)) (h4 : a ≤ n) (h5 : b ≤ n) =>
    insertion_any w0 B g n cap f caps cf κ Pd hC e a b W h1 (by rw [h2.length_eq]; exact hl) hn (perm_pd h2 hpd) (grown_trans hg0 h3) h4 h5)
  have CM := Lib.hid (fun (e : List Int) (a m b : Nat) (W : World) (h1 : OwnI W B (.slice (some ⟨g, 0, none⟩) n cap) e) (h2 : e.Perm d) (h3 : w.grownBy W (some g)) (h4 : a < m) (h5 : m < b) (h6 : b ≤ n) (h7 : SortedOn κ e a m) (h8 : SortedOn κ e m b) =>
    symMerge_any w0 B g n cap f caps cf κ Pd hC hn b e a m b W (by omega) h1 (by rw [h2.length_eq]; exact hl) (perm_pd h2 hpd) (grown_trans hg0 h3) h4 h5 h6 h7 h8)
  clear h hl hC hpd hg0
  go_enter Try.func161, Try.ntmps161
  go_wp2_with fail
  go_loopw [7, 8] (fun va vb wr => ∃ (q a b : Nat) (e : List Int), va = .int .i64 a ∧ vb = .int .i64 b ∧ a = q * 20 ∧ b = a + 20 ∧ a ≤ n ∧ OwnI wr B (.slice (some ⟨g, 0, none⟩) n cap) e ∧ SameOut d e 0 n ∧ Runs κ e 20 0 a ∧ w.grownBy wr (some g))
    (fun _ vb _ => n + 20 - (intOf vb).toNat)
  case atStart => exact ⟨0, 0, 20, d, rfl, rfl, rfl, rfl, Nat.zero_le _, HO.out, SameOut.refl _ _ _, fun x y _ _ h => absurd h (Nat.not_lt_zero _), World.grownBy.refl _ _⟩
  case round =>
    obtain ⟨q, a, b, e, rfl, rfl, hq, hb, han, hown, hso, hrn, hgr⟩ := hrel
    have HQ := Lib.hid hq
    have HBB := Lib.hid hb
    have hb1 : b ≤ a + 20 := by omega
    have hb2 : a + 20 ≤ b := by omega
    have HOW := Lib.hid hown
    have HSO := Lib.hid hso
    have HRN := Lib.hid hrn
    have HGR := Lib.hid hgr
    clear hq hb hown hso hrn hgr
    by_cases hlt : b ≤ n
    · as_aux_lemma =>
      go_wp2_with fail
      refine (CI.out e a b wr HOW.out HSO.out.1 HGR.out han hlt).mono ?_
      rintro e' w1 ⟨d', rfl, ho1, ⟨hs1, hs2⟩, hg1⟩
      have HO1 := Lib.hid ho1
      have HS1 := Lib.hid hs1
      have HS2 := Lib.hid hs2
      have HG1 := Lib.hid (grown_trans HGR.out hg1)
      clear ho1 hs1 hs2 hg1
      go_wp2_with fail
      go_roundw
      case rel =>
        exact ⟨q + 1, b, b + 20, d', rfl, by go_num, by have := HQ.out; have := HBB.out; omega, rfl, hlt, HO1.out, HSO.out.trans (HS1.out.wider (Nat.zero_le _) hlt), (HRN.out.same HS1.out (.inl (Nat.le_refl _))).more HQ.out HS2.out, HG1.out⟩
      case measure => simp [intOf]; omega
    · go_wp2_with fail
      refine (CI.out e a n wr HOW.out HSO.out.1 HGR.out han (Nat.le_refl _)).mono ?_
      rintro e' w1 ⟨d1, rfl, ho1, ⟨hs1, hs2⟩, hg1⟩
      have HO1 := Lib.hid ho1
      have HS1 := Lib.hid (HSO.out.trans (hs1.wider (Nat.zero_le _) (Nat.le_refl _)))
      have HR1 := Lib.hid ((HRN.out.same hs1 (.inl (Nat.le_refl _))).more HQ.out hs2)
      have HG1 := Lib.hid (grown_trans HGR.out hg1)
      clear ho1 hs1 hs2 hg1 HOW HSO HRN HGR HQ HBB hb1 hb2 han hlt
      go_wp2_with fail
      go_loopw [6] (fun vs wr => ∃ (bs : Nat) (e : List Int), vs = .int .i64 bs ∧ 1 ≤ bs ∧ bs ≤ 2097172 ∧ OwnI wr B (.slice (some ⟨g, 0, none⟩) n cap) e ∧ SameOut d e 0 n ∧ Runs κ e bs 0 n ∧ w.grownBy wr (some g))
        (fun vs _ => n - (intOf vs).toNat)
      case atStart => exact ⟨20, d1, rfl, by omega, by omega, HO1.out, HS1.out, HR1.out, HG1.out⟩
      case round =>
        clear HO1 HS1 HR1 HG1
        obtain ⟨wo, rfl⟩ : ∃ wo : World, wo = wr := ⟨_, rfl⟩
        obtain ⟨bs, e, rfl, hbs1, hbs2, hown, hso, hrn, hgr⟩ := hrel
        have HOW := Lib.hid hown
        have HSO := Lib.hid hso
        have HRN := Lib.hid hrn
        have HGR := Lib.hid hgr
        clear hown hso hrn hgr
        by_cases hbn : bs < n
        · go_wp2_with fail
          go_loopw [7, 8] (fun va vb wr => ∃ (q a b : Nat) (e : List Int), va = .int .i64 a ∧ vb = .int .i64 b ∧ a = q * (2 * bs) ∧ b = a + 2 * bs ∧ a ≤ n ∧ OwnI wr B (.slice (some ⟨g, 0, none⟩) n cap) e ∧ SameOut d e 0 n ∧ Runs κ e (2 * bs) 0 a ∧ Runs κ e bs a n ∧ w.grownBy wr (some g))
            (fun _ vb _ => n + 2 * bs - (intOf vb).toNat)
          case atStart => exact ⟨0, 0, 2 * bs, e, rfl, by go_num, by simp, by simp, Nat.zero_le _, HOW.out, HSO.out, fun x y _ _ h => absurd h (Nat.not_lt_zero _), HRN.out, HGR.out⟩
          case round =>
            clear HOW HSO HRN HGR
            obtain ⟨q, a, b, e, rfl, rfl, hq, hb, han, hown, hso, hrn, hrn2, hgr⟩ := hrel
            have hq1 : a = (2 * q) * bs := by rw [hq, ← Nat.mul_assoc, Nat.mul_comm q 2]
            have hq2 : a + bs = (2 * q + 1) * bs := by rw [hq1, Nat.add_mul, Nat.one_mul]
            have HQ := Lib.hid hq
            have HQ1 := Lib.hid hq1
            have HQ2 := Lib.hid hq2
            have HBB := Lib.hid hb
            have hb1 : b ≤ a + 2 * bs := by omega
            have hb2 : a + 2 * bs ≤ b := by omega
            have HOW := Lib.hid hown
            have HSO := Lib.hid hso
            have HRN := Lib.hid hrn
            have HRN2 := Lib.hid hrn2
            have HGR := Lib.hid hgr
            obtain ⟨m, hm⟩ : ∃ m, m = a + bs := ⟨_, rfl⟩
            have HM : Hid ((a : Int) + (bs : Int) = (m : Int)) := by show (a : Int) + (bs : Int) = (m : Int); omega
            have hm1 : m ≤ a + bs := by omega
            have hm2 : a + bs ≤ m := by omega
            have HM2 := Lib.hid (hm.trans hq2)
            clear hq hq1 hq2 hb hown hso hrn hrn2 hgr hm
            by_cases hlt : b ≤ n
            · as_aux_lemma =>
              go_wp2_with fail
              rw [HM.out]
              refine (CM.out _ a m b wr HOW.out HSO.out.1 HGR.out (by omega) (by omega) hlt (HRN2.out.at_ HQ1.out (Nat.le_refl _) (by omega) hm1) (HRN2.out.at_ HM2.out (by omega) hlt (by omega))).mono ?_
              rintro e' w1 ⟨d', rfl, ho1, ⟨hs1, hs2⟩, hg1⟩
              have HO1 := Lib.hid ho1
              have HS1 := Lib.hid hs1
              have HS2 := Lib.hid hs2
              have HG1 := Lib.hid (grown_trans HGR.out hg1)
              clear ho1 hs1 hs2 hg1
              go_wp2_with fail
              go_roundw
              case rel =>
                exact ⟨q + 1, b, b + 2 * bs, d', rfl, by go_num, by have := HQ.out; have := HBB.out; rw [Nat.add_mul, Nat.one_mul]; omega, rfl, hlt, HO1.out, HSO.out.trans (HS1.out.wider (Nat.zero_le _) hlt), (HRN.out.same HS1.out (.inl (Nat.le_refl _))).more HQ.out HS2.out,
                  (HRN2.out.sub (by omega) (Nat.le_refl _)).same HS1.out (.inr (Nat.le_refl _)), HG1.out⟩
              case measure => simp [intOf]; omega
            · by_cases hmn : m < n
              · as_aux_lemma =>
                go_wp2_with fail
                rw [HM.out]
                go_wp2_with fail
                refine (CM.out _ a m n wr HOW.out HSO.out.1 HGR.out (by omega) hmn (Nat.le_refl _) (HRN2.out.at_ HQ1.out (Nat.le_refl _) (by omega) hm1) (HRN2.out.at_ HM2.out (by omega) (Nat.le_refl _) (by omega))).mono ?_
                rintro e' w1 ⟨d', rfl, ho1, ⟨hs1, hs2⟩, hg1⟩
                have HO1 := Lib.hid ho1
                have HS1 := Lib.hid hs1
                have HS2 := Lib.hid hs2
                have HG1 := Lib.hid (grown_trans HGR.out hg1)
                clear ho1 hs1 hs2 hg1
                go_wp2_with fail
                go_roundw
                case rel => exact ⟨2 * bs, d', by go_num, by omega, by omega, HO1.out, HSO.out.trans (HS1.out.wider (Nat.zero_le _) (Nat.le_refl _)), (HRN.out.same HS1.out (.inl (Nat.le_refl _))).more HQ.out HS2.out, HG1.out⟩
                case measure => simp [intOf]; omega
              · as_aux_lemma =>
                have HS3 := Lib.hid (HRN.out.more HQ.out (HRN2.out.at_ (c := n) HQ1.out (Nat.le_refl _) (Nat.le_refl _) (by omega)))
                have hmn2 : n ≤ a + bs := by omega
                go_wp2_with fail
                go_roundw
                case rel => exact ⟨2 * bs, _, by go_num, by omega, by omega, HOW.out, HSO.out, HS3.out, HGR.out⟩
                case measure => simp [intOf]; omega
        · have hbn2 : n ≤ bs := by omega
          go_wp2_with fail
          go_end0
          exact ⟨e, rfl, HOW.out, ⟨HSO.out.1, HRN.out.all hbn2⟩, HGR.out⟩

set_option maxRecDepth 100000 in
set_option maxHeartbeats 1000000 in
theorem SortStable_any (w0 : World) (B g n cap : Nat) (f : FuncId) (caps : Array Value) (cf : Int → Int → Int) (κ : Int → Int) (Pd : Int → Prop) (hC : CmpC w0 g f caps cf κ Pd)
    (d : List Int) (w : World) (h : OwnI w B (.slice (some ⟨g, 0, none⟩) n cap) d) (hl : n = d.length) (hn : n ≤ 1048576) (hpd : ∀ x ∈ d, Pd x) (hg0 : w0.grownBy w (some g)) :
    Calls Try.prog 129 #[.slice (some ⟨g, 0, none⟩) n cap, .func (.func f) #[] caps] w (RetTurn w B g n cap (Sorted2 κ d n)) := by
  have CS := Lib.hid (stable_any w0 B g n cap f caps cf κ Pd hC d w h hl hn hpd hg0)
  clear h hl hpd hg0 hC
  go_enter Try.func129, Try.ntmps129
  go_wp2_with fail
  refine CS.out.mono ?_
  rintro e' w1 ⟨d', rfl, ho1, hs1, hg1⟩
  have HF := Lib.hid (show ∃ d', OwnI w1 B (.slice (some ⟨g, 0, none⟩) n cap) d' ∧ Sorted2 κ d n d' ∧ w.grownBy w1 (some g) from ⟨d', ho1, hs1, hg1⟩)
  clear ho1 hs1 hg1
  go_wp2_with fail
  go_end0
  obtain ⟨d', a1, a2, a3⟩ := HF.out
  exact ⟨d', rfl, a1, a2, a3⟩
end Go.Proofs.Ytcjghlplkbpjcaa
