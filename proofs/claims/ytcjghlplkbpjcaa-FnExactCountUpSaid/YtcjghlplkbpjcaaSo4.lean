/- The library's insertion sort, at slices of int that the call owns, by a function value that compares by a key. -/
import Derived.Test.YtcjghlplkbpjcaaSo2
import Derived.Test.YtcjghlplkbpjcaaSrt3
namespace Go.Proofs.Ytcjghlplkbpjcaa
open Go.RowKit

set_option maxRecDepth 100000 in
set_option maxHeartbeats 4000000 in
theorem insertion_any (w0 : World) (B g n cap : Nat) (f : FuncId) (caps : Array Value) (cf : Int → Int → Int) (κ : Int → Int) (Pd : Int → Prop) (hC : CmpC w0 g f caps cf κ Pd)
    (d : List Int) (a b : Nat) (w : World) (h : OwnI w B (.slice (some ⟨g, 0, none⟩) n cap) d) (hl : n = d.length) (hn : n ≤ 1048576) (hpd : ∀ x ∈ d, Pd x) (hg0 : w0.grownBy w (some g))
    (ha : a ≤ n) (hb : b ≤ n) :
    Calls Try.prog 178 #[.slice (some ⟨g, 0, none⟩) n cap, .int .i64 a, .int .i64 b, .func (.func f) #[] caps] w (RetTurn w B g n cap (Merged κ d a b)) := by
  have HO := Lib.hid h
  have HL := Lib.hid hl
  have HC := Lib.hid hC
  have HPD := Lib.hid hpd
  have HG0 := Lib.hid hg0
  have hen := hC.en
  clear h hl hC hpd hg0
  go_enter Try.func178, Try.ntmps178
  go_wp2
  go_loopw [8] (fun vi wr => ∃ (i : Nat) (e : List Int), vi = .int .i64 i ∧ a + 1 ≤ i ∧ (i ≤ b ∨ i = a + 1) ∧ OwnI wr B (.slice (some ⟨g, 0, none⟩) n cap) e ∧ SameOut d e a b ∧ SortedOn κ e a i ∧ w.grownBy wr (some g))
    (fun vi _ => b - (intOf vi).toNat)
  case atStart => exact ⟨a + 1, d, by go_num, Nat.le_refl _, .inr rfl, HO.out, SameOut.refl _ _ _, SortedOn.short (Nat.le_refl _), World.grownBy.refl _ _⟩
  case round =>
    obtain ⟨wo, rfl⟩ : ∃ wo : World, wo = wr := ⟨_, rfl⟩
    obtain ⟨i, e, rfl, hi1, hi2, hown, hso, hsr, hgr⟩ := hrel
    have HI2 := Lib.hid hi2
    have HSO := Lib.hid hso
    have HSR := Lib.hid hsr
    have HOW := Lib.hid hown
    have HGR := Lib.hid hgr
    clear hi2 hso hsr hown hgr
    by_cases hlt : i < b
    · go_wp2
      go_loopw [9] (fun vj wr => ∃ j : Nat, vj = .int .i64 j ∧ a ≤ j ∧ j ≤ i ∧ OwnI wr B (.slice (some ⟨g, 0, none⟩) n cap) (bubL e i (i - j)) ∧ (∀ x, j ≤ x → x < i → κ (gi e i) ≤ κ (gi e x)) ∧ w.grownBy wr (some g))
        (fun vj _ => (intOf vj).toNat)
      case atStart => exact ⟨i, rfl, by omega, Nat.le_refl _, by rw [Nat.sub_self]; exact HOW.out, fun x h1 h2 => absurd h1 (by omega), HGR.out⟩
      case round =>
        obtain ⟨j, rfl, hj1, hj2, hown, hhi, hgr⟩ := hrel
        have HHI := Lib.hid hhi
        have HGI := Lib.hid hgr
        have HOI := Lib.hid hown
        clear hhi hgr hown
        have hlen : n = (bubL e i (i - j)).length := by rw [bubL_length, HSO.out.len]; exact HL.out
        have HLN := Lib.hid hlen
        clear hlen
        have hie : i < e.length := by have := HLN.out; rw [bubL_length] at this; omega
        have HIE := Lib.hid hie
        clear hie
        by_cases hja : a < j
        · have hin : j < n := by omega
          obtain ⟨c1, f1⟩ := HOI.out.at_ HLN.out (j := j) hin
          obtain ⟨c2, f2⟩ := HOI.out.at_ HLN.out (j := j - 1) (by omega)
          have g1 : gi (bubL e i (i - j)) j = gi e i := by rw [bubL_get HIE.out (i - j) (by omega), if_neg (by omega), if_pos (by omega)]
          have g2 : gi (bubL e i (i - j)) (j - 1) = gi e (j - 1) := by rw [bubL_get HIE.out (i - j) (by omega), if_neg (by omega), if_neg (by omega)]
          have hpe : ∀ x ∈ e, Pd x := perm_pd HSO.out.1 HPD.out
          have hp1 : Pd (gi e i) := gi_pd hpe HIE.out
          have hp2 : Pd (gi e (j - 1)) := gi_pd hpe (by have := HIE.out; omega)
          have CC := Lib.hid (fun k => HC.out.call (gi e i) (gi e (j - 1)) (wr.drewN k) hp1 hp2 (grown_drewN (grown_trans HG0.out HGI.out) k))
          have hsg := HC.out.sgn (gi e i) (gi e (j - 1)) hp1 hp2
          have HO1 : Hid (OwnI ((wr.setCell ⟨g, j, none⟩ (.int .i64 (gi (bubL e i (i - j)) (j - 1)))).setCell ⟨g, j - 1, none⟩ (.int .i64 (gi (bubL e i (i - j)) j))) B (.slice (some ⟨g, 0, none⟩) n cap) (bubL e i (i - (j - 1)))) := by
            have e1 : i - (j - 1) = (i - j) + 1 := by omega
            have e2 : i - (i - j) = j := by omega
            rw [e1, bubL, e2]
            exact (HOI.out.put HLN.out _).put (by rw [List.length_set]; exact HLN.out) _
          have HG1 := Lib.hid (grown_put (grown_put HGI.out j (.int .i64 (gi (bubL e i (i - j)) (j - 1)))) (j - 1) (.int .i64 (gi (bubL e i (i - j)) j)))
          rw [g1] at c1 HO1 HG1
          rw [g2] at c2 HO1 HG1
          have hlo : ¬ κ (gi e i) < κ (gi e (j - 1)) → ∀ x, a ≤ x → x < j → κ (gi e x) ≤ κ (gi e i) := fun hk x h1 h2 => by
            by_cases e3 : x = j - 1
            · rw [e3]; omega
            · have := HSR.out x (j - 1) h1 (by omega) (by omega); omega
          have HLO := Lib.hid hlo
          clear g1 g2 hpe hp1 hp2 hlo
          by_cases hk : κ (gi e i) < κ (gi e (j - 1))
          · have hneg : cf (gi e i) (gi e (j - 1)) < 0 := hsg.2 hk
            have hneg2 : decide (cf (gi e i) (gi e (j - 1)) < 0) = true := by simpa using hneg
            have HN : Hid (∀ x, j - 1 ≤ x → x < i → κ (gi e i) ≤ κ (gi e x)) := fun x h1 h2 => by
              by_cases e3 : x = j - 1
              · rw [e3]; omega
              · exact HHI.out x (by omega) h2
            have hja2 : decide (a < j) = true := by simp; omega
            clear hsg hk
            obtain ⟨k, hk⟩ : ∃ k, j - 1 = k := ⟨_, rfl⟩
            rw [hk] at c2 f2 HO1 HG1 CC hneg hneg2 HN
            have hkj1 : k + 1 ≤ j := by omega
            have hkj2 : j ≤ k + 1 := by omega
            have hw1 : IntKind.i64.wrap ((j : Int) - 1) = (k : Int) := by rw [IntWalk.i64_in _ (by omega)]; omega
            clear hk
            have i1 : (0 : Int) ≤ (j : Int) := by omega
            have i2 : (j : Int) < (n : Int) := by omega
            have i3 : (0 : Int) ≤ (k : Int) := by omega
            have i4 : (k : Int) < (n : Int) := by omega
            generalize gi e k = y at c2 HO1 HG1 CC hneg hneg2
            generalize gi e i = x at c1 HO1 HG1 CC hneg hneg2 HN
            as_aux_lemma =>
            go_wp2_with fail
            go_quiet ((exact quietD (CC.out _)))
            go_wp2_with fail
            go_region
            all_goals go_wp2_with fail
            go_roundw
            case rel => exact ⟨k, rfl, by omega, by omega, HO1.out, HN.out, grown_drewN HG1.out _⟩
            case measure => simp [intOf]; omega
          · have hneg : ¬ cf (gi e i) (gi e (j - 1)) < 0 := fun h => hk (hsg.1 h)
            have hneg2 : decide (cf (gi e i) (gi e (j - 1)) < 0) = false := by simpa using hneg
            have HLO' := Lib.hid (HLO.out hk)
            have hja2 : decide (a < j) = true := by simp; omega
            have HMR := Lib.hid (merge_right (κ := κ) (i := j) (a := a) (m := i) HIE.out hj1 hj2 HSR.out HLO'.out HHI.out)
            clear hsg hk HLO HO1 HG1 HLO'
            obtain ⟨k, hk⟩ : ∃ k, j - 1 = k := ⟨_, rfl⟩
            rw [hk] at c2 f2 CC hneg hneg2
            have hkj1 : k + 1 ≤ j := by omega
            have hw1 : IntKind.i64.wrap ((j : Int) - 1) = (k : Int) := by rw [IntWalk.i64_in _ (by omega)]; omega
            clear hk
            have i1 : (0 : Int) ≤ (j : Int) := by omega
            have i2 : (j : Int) < (n : Int) := by omega
            have i3 : (0 : Int) ≤ (k : Int) := by omega
            have i4 : (k : Int) < (n : Int) := by omega
            generalize gi e k = y at c2 CC hneg hneg2
            generalize gi e i = x at c1 CC hneg hneg2
            as_aux_lemma =>
            go_wp2_with fail
            go_quiet ((exact quietD (CC.out _)))
            go_wp2_with fail
            go_roundw
            case rel => exact ⟨i + 1, bubL e i (i - j), by go_num, by omega, .inl (by omega), HOI.out, HSO.out.trans (HMR.out.1.wider (Nat.le_refl _) (by omega)), HMR.out.2, grown_drewN HGI.out _⟩
            case measure => simp [intOf]; omega
        · have hja2 : decide (a < j) = false := by simp; omega
          have HMR := Lib.hid (merge_right (κ := κ) (i := j) (a := a) (m := i) HIE.out hj1 hj2 HSR.out (fun x h1 h2 => absurd h1 (by omega)) HHI.out)
          as_aux_lemma =>
          go_wp2_with fail
          go_quiet (fail)
          go_wp2_with fail
          go_roundw
          case rel => exact ⟨i + 1, bubL e i (i - j), by go_num, by omega, .inl (by omega), HOI.out, HSO.out.trans (HMR.out.1.wider (Nat.le_refl _) (by omega)), HMR.out.2, grown_drewN HGI.out _⟩
          case measure => simp [intOf]; omega
    · have hb2 : b ≤ i := by omega
      go_wp2
      go_end0
      exact ⟨e, rfl, HOW.out, ⟨HSO.out, HSR.out.sub (Nat.le_refl _) hb2⟩, HGR.out⟩
end Go.Proofs.Ytcjghlplkbpjcaa
