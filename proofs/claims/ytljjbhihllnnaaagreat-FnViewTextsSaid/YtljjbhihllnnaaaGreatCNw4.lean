/- The reference's permuted ports. -/
import Derived.Test.YtljjbhihllnnaaaGreatCJn3
import Derived.Test.YtljjbhihllnnaaaGreatCJn16
import Derived.StillTailTactics
namespace Go.Proofs.YtljjbhihllnnaaaGreat
open Go.RowKit


set_option maxRecDepth 100000 in
set_option maxHeartbeats 4000000 in
theorem nePorts_any {S S' : Nat → Prop} (u pv : Value) (N : Net) (v : Nat) (π : List Int) (w : World) (h : NetR w S u N) (hpv : IntsR w S' pv π) (hs : Small N) (hv : v < N.ends.length) (hsym : Sym N.ends) (hperm : π.Perm (upTo (dg N.ends v))) :
    Calls Tryz.prog 166 #[u, .int .i64 v, pv] w (RetNt w (portsN N v π)) := by
  have HNR := Lib.hid h
  have HS := Lib.hid hs
  have hs1 := hs.1
  have hsv := hs.2.1 v hv
  have hπl : π.length = dg N.ends v := by rw [hperm.length_eq, upTo_length]
  obtain ⟨ve, vi, vn, rfl, he, hi, hn⟩ := h
  obtain ⟨A, c, rfl, -, -, hxe⟩ := he
  obtain ⟨A1, c1, rfl, -, -, -⟩ := hi
  obtain ⟨A2, c2, rfl, -, -, -⟩ := hn
  obtain ⟨Ap, cp, rfl, -, -, hxp⟩ := hpv
  obtain ⟨be, offe, rfl, -, hce⟩ := hxe (by omega)
  obtain ⟨uv, huv, hrv⟩ := hce v hv
  obtain ⟨Av, cv, rfl, hnv, hmv, hcv⟩ := hrv
  unfold maxLen at hmv
  have HCV := Lib.hid hcv
  have HXP := Lib.hid hxp
  have HUV := Lib.hid huv
  have HSY := Lib.hid hsym
  have HPM := Lib.hid hperm
  have HPL := Lib.hid hπl
  have hb2 : ∀ o1 o2, Below w.heap.size w ((w.alloc o1).alloc o2) := fun o1 o2 => ((Below.refl _ _).alloc (Nat.le_refl _) _).alloc (by simp) _
  have HB2 := Lib.hid hb2
  have HKa := Lib.hid ((Blk.new w 27 #[.slice (some ⟨be, offe, none⟩) N.ends.length c, .slice A1 N.ids.length c1, .slice A2 N.inputs.length c2]).alloc (.cells #[.slice none 0 0, .slice none 0 0, .slice none 0 0] 27))
  have HRa : Hid (Blk ((w.alloc (.cells #[.slice (some ⟨be, offe, none⟩) N.ends.length c, .slice A1 N.ids.length c1, .slice A2 N.inputs.length c2] 27)).alloc (.cells #[.slice none 0 0, .slice none 0 0, .slice none 0 0] 27)) (w.heap.size + 1) 27 #[.slice none 0 0, .slice none 0 0, .slice none 0 0]) := by
    have := Blk.new (w.alloc (.cells #[.slice (some ⟨be, offe, none⟩) N.ends.length c, .slice A1 N.ids.length c1, .slice A2 N.inputs.length c2] 27)) 27 #[.slice none 0 0, .slice none 0 0, .slice none 0 0]
    exact Lib.hid (by simpa using this)
  clear hb2 hs hce hxe hxp hcv huv hsym hperm hπl
  go_enter Tryz.func166, Tryz.ntmps166
  go_wp2_with fail
  refine (neOwn_any _ N _ (HNR.out.below (HB2.out _ _)) HS.out).mono ?_
  rintro e w1 ⟨v1, rfl, ho, hb1⟩
  have HK1 := Lib.hid (HKa.out.below hb1)
  have HR1 := Lib.hid (HRa.out.below hb1)
  have HB1 := Lib.hid (Below.then_ (HB2.out _ _) hb1)
  obtain ⟨ue, ui, un, rfl, hes, hoi, hon, hdd⟩ := ho
  simp only [World.size_alloc] at hes hoi hon
  have hrl : w.heap.size + 1 < w1.heap.size := HR1.out.lt
  obtain ⟨A5, c5, rfl⟩ := hoi.shape
  obtain ⟨A6, c6, rfl⟩ := hon.shape
  obtain ⟨gE, cap, rfl⟩ : ∃ gE cap, ue = .slice (some ⟨gE, 0, none⟩) N.ends.length cap := by
    obtain ⟨us, h1, _⟩ := hes
    rcases h1.2 with ⟨_, h0⟩ | ⟨g, cap, cur, h2, _⟩
    · omega
    · exact ⟨g, cap, h2⟩
  have HDD := Lib.hid hdd
  obtain ⟨us, hrow, hin, hdis⟩ := hes
  have hbx : InBx (w1.alloc (.cells #[.slice (some ⟨gE, 0, none⟩) N.ends.length cap, .slice A5 N.ids.length c5, .slice A6 N.inputs.length c6] 27)) (w.heap.size + 1 + 1) w1.heap.size gE cap A5 A6 c5 c6 N.ends N.ids N.inputs us :=
    have hb := (Below.refl w1.heap.size w1).alloc (Nat.le_refl _) (.cells #[.slice (some ⟨gE, 0, none⟩) N.ends.length cap, .slice A5 N.ids.length c5, .slice A6 N.inputs.length c6] 27)
    ⟨World.ownsRow.alloc hrow _, fun i hi => (hin i hi).below hb, hdis, hoi.below hb, hon.below hb, Blk.new _ _ _⟩
  have HIB := Lib.hid hbx
  have HBa := Lib.hid (Below.then_ HB1.out ((Below.refl w1.heap.size w1).alloc (Nat.le_refl _) (.cells #[.slice (some ⟨gE, 0, none⟩) N.ends.length cap, .slice A5 N.ids.length c5, .slice A6 N.inputs.length c6] 27)))
  have HR2 := Lib.hid (HR1.out.alloc (.cells #[.slice (some ⟨gE, 0, none⟩) N.ends.length cap, .slice A5 N.ids.length c5, .slice A6 N.inputs.length c6] 27))
  have kb0 := (HK1.out.alloc (.cells #[.slice (some ⟨gE, 0, none⟩) N.ends.length cap, .slice A5 N.ids.length c5, .slice A6 N.inputs.length c6] 27)).cell
  have hza : w1.heap.size < (w1.alloc (.cells #[.slice (some ⟨gE, 0, none⟩) N.ends.length cap, .slice A5 N.ids.length c5, .slice A6 N.inputs.length c6] 27)).heap.size := by simp
  clear hb1 hoi hon hdd hbx hrow hin hdis
  go_upto_region 2 with (fail)
  obtain ⟨b7, hb7⟩ : ∃ b7, b7 = w1.heap.size := ⟨_, rfl⟩
  rw [← hb7] at hza HIB ⊢
  have hrl7 : w.heap.size + 1 < b7 := by omega
  generalize w1.alloc (.cells #[.slice (some ⟨gE, 0, none⟩) N.ends.length cap, .slice A5 N.ids.length c5, .slice A6 N.inputs.length c6] 27) = wa at *
  have kuv : wa.cell? ⟨be, offe + v, none⟩ = some (.slice Av (gl N.ends v).length cv) := (HBa.out.cell (p := ⟨be, offe + v, none⟩) (lt_of_cell HUV.out)).trans HUV.out
  have iv1 : (0 : Int) ≤ (v : Int) := by omega
  have iv2 : (v : Int) < (N.ends.length : Int) := by omega
  clear hb7 HKa HRa HK1 HR1 HB1
  go_wp2_with fail
  clear kb0 kuv
  go_loopw [18] (fun vi wr => ∃ k : Nat, k ≤ dg N.ends v ∧ vi = .int .i64 k ∧ InBx wr (w.heap.size + 1 + 1) b7 gE cap A5 A6 c5 c6 (portsK N.ends v π k) N.ids N.inputs us ∧ Below w.heap.size w wr ∧ Blk wr (w.heap.size + 1) 27 #[.slice none 0 0, .slice none 0 0, .slice none 0 0])
    (fun vi _ => dg N.ends v - (intOf vi).toNat)
  case atStart => exact ⟨0, Nat.zero_le _, rfl, HIB.out, HBa.out, HR2.out⟩
  case round =>
    clear HIB HBa HR2
    obtain ⟨k, hk, rfl, hib, hbel, hres⟩ := hrel
    obtain ⟨i1, i2, -, -⟩ := portsK_inv HSY.out hv HPM.out k hk
    have HIB := Lib.hid hib
    have HBE := Lib.hid hbel
    have HRE := Lib.hid hres
    have hzr : w.heap.size + 1 + 1 ≤ wr.heap.size := by have := hres.lt; have := hib.hbox.lt; omega
    by_cases hlt : k < dg N.ends v
    · have hlt' : k < (gl N.ends v).length := hlt
      obtain ⟨b, q, e1, hb, hq, e2⟩ := HSY.out v k hv hlt
      obtain ⟨bv, offv, rfl, -, hcell⟩ := HCV.out (by omega)
      obtain ⟨d1, d2⟩ := hcell k hlt'
      have e1' : gp (gl N.ends v) k = ((b : Int), (q : Int)) := e1
      rw [e1'] at d1 d2
      obtain ⟨bp, offp, rfl, -, hcp⟩ := HXP.out (by have := HPL.out; omega)
      obtain ⟨m, hm, hmd⟩ := perm_at HPM.out hlt
      have dp := hcp k (by have := HPL.out; omega)
      rw [hm] at dp
      have D1 : wr.cell? ⟨bv, offv + k * 2, none⟩ = some (.int .i64 b) := (hbel.cell (p := ⟨bv, offv + k * 2, none⟩) (lt_of_cell d1)).trans d1
      have D2 : wr.cell? ⟨bv, offv + k * 2 + 1, none⟩ = some (.int .i64 q) := (hbel.cell (p := ⟨bv, offv + k * 2 + 1, none⟩) (lt_of_cell d2)).trans d2
      have HCP := Lib.hid hcp
      have HM := Lib.hid hm
      have HE1 := Lib.hid e1
      have HI1 := Lib.hid i1
      have HI2 := Lib.hid i2
      have j1 : (0 : Int) ≤ (k : Int) := by omega
      have j2 : (k : Int) < ((gl N.ends v).length : Int) := by omega
      have hpl1 : (k : Int) < (π.length : Int) := by have := HPL.out; omega
      clear hib hbel hres hcell d1 d2 e1 e1' e2 hcp hm i1 i2 dp
      go_upto_region 5 with (fail)
      have hqπ : q < π.length ∨ b ≠ v := by
        by_cases h : b = v
        · subst h; left; have := HPL.out; omega
        · exact .inr h
      have hbX : Below wr.heap.size wr (wr.alloc (.cells #[.int .i64 b, .int .i64 q] 38)) := (Below.refl _ _).alloc (Nat.le_refl _) _
      have HBX := Lib.hid hbX
      by_cases hbv : b = v
      · obtain rfl : v = b := hbv.symm
        have hql : (q : Int) < (π.length : Int) := by rcases hqπ with h | h <;> omega
        have q0 : (0 : Int) ≤ (q : Int) := by omega
        have d1 := HCP.out q (by omega)
        have D1 : (wr.alloc (.cells #[.int .i64 v, .int .i64 q] 38)).cell? ⟨bp, offp + q, none⟩ = some (.int .i64 (gi π q)) := ((HBE.out.alloc HBE.out.size _).cell (p := ⟨bp, offp + q, none⟩) (lt_of_cell d1)).trans d1
        clear d1
        go_upto_region 8 with (fail)
        have HIY := Lib.hid (HIB.out.below ((Below.refl wr.heap.size wr).alloc (Nat.le_refl _) (.cells #[.int .i64 v, .int .i64 (gi π q)] 38)))
        have HBY := Lib.hid (HBE.out.alloc HBE.out.size (.cells #[.int .i64 v, .int .i64 (gi π q)] 38))
        have HRY := Lib.hid (HRE.out.alloc (.cells #[.int .i64 v, .int .i64 (gi π q)] 38))
        have HK9 := Lib.hid (Blk.new wr 38 #[.int .i64 v, .int .i64 (gi π q)])
        clear D1 D2 HBX hbX
        generalize wr.alloc (.cells #[.int .i64 v, .int .i64 (gi π q)] 38) = Y at HIY HBY HRY HK9 ⊢

        have hE1 : (portsK N.ends v π k).length = N.ends.length := HI1.out
        have hE2 : m < dg (portsK N.ends v π k) v := by rw [HI2.out]; exact hmd
        obtain ⟨ga, ca, hua, kv, hBa, hla, ka1, ka2, hfa, kb⟩ := HIY.out.spot (a := v) (j := m) (by omega) hE2
        rw [hE1] at kb
        have kp : Y.cell? ⟨bp, offp + k, none⟩ = some (.int .i64 m) := by
          have d := HCP.out k (by have := HPL.out; omega)
          rw [HM.out] at d
          exact (HBY.out.cell (p := ⟨bp, offp + k, none⟩) (lt_of_cell d)).trans d
        have k9 := HK9.out.cell
        have m1 : (m : Int) < ((dg (portsK N.ends v π k) v : Nat) : Int) := by omega
        have m0 : (0 : Int) ≤ (m : Int) := by omega
        have HNW := Lib.hid ((HIY.out.below (Below.refl _ _).drew).store (x := v) (y := (gi π q)) (show v < (portsK N.ends v π k).length by omega) hE2 hua)
        have hgw : w.heap.size + 1 + 1 ≤ ga := hBa
        have HBN := Lib.hid ((HBY.out.drew.setCell (p := ⟨ga, m * 2, none⟩) (show w.heap.size ≤ ga by omega) (.int .i64 v)).setCell (p := ⟨ga, m * 2 + 1, none⟩) (show w.heap.size ≤ ga by omega) (.int .i64 (gi π q)))
        have HRN := Lib.hid (Blk.far (p := ⟨ga, m * 2 + 1, none⟩) (Blk.far (p := ⟨ga, m * 2, none⟩) (HRY.out.below (Below.refl _ _).drew) (show w.heap.size + 1 ≠ ga by omega) (.int .i64 v)) (show w.heap.size + 1 ≠ ga by omega) (.int .i64 (gi π q)))
        clear hua hBa

        go_still_tail 11, (by kernel_rfl)
        change wpList _ _ _ _ _ Y.drew
        have HST : Hid (portsK N.ends v π (k + 1) = set2 (portsK N.ends v π k) v m ((v : Int), gi π q)) := Lib.hid (by
          show portsStep N.ends v π (portsK N.ends v π k) k = _
          unfold portsStep; simp only; rw [HE1.out, HM.out]; simp)
        go_wp2_with fail
        go_roundw
        case rel => exact ⟨k + 1, by omega, by go_num, by rw [HST.out]; exact HNW.out, HBN.out, HRN.out⟩
        case measure => simp [intOf]; omega
      · have hbi : ¬ (b : Int) = (v : Int) := by omega
        have HIX := Lib.hid (HIB.out.below HBX.out)
        have HBW := Lib.hid (HBE.out.alloc HBE.out.size (.cells #[.int .i64 b, .int .i64 q] 38))
        have HRX := Lib.hid (HRE.out.alloc (.cells #[.int .i64 b, .int .i64 q] 38))
        have HKX := Lib.hid (Blk.new wr 38 #[.int .i64 b, .int .i64 q])
        clear D1 D2 HBX hbX
        go_upto_region 7 with (fail)
        generalize hX : wr.alloc (.cells #[.int .i64 b, .int .i64 q] 38) = X at HIX HBW HRX HKX ⊢
        clear hX
        have hE1 : (portsK N.ends v π k).length = N.ends.length := HI1.out
        have hE2 : q < dg (portsK N.ends v π k) b := by rw [HI2.out]; exact hq
        obtain ⟨ga, ca, hua, kv, hBa, hla, ka1, ka2, hfa, kb⟩ := HIX.out.spot (a := b) (j := q) (by omega) hE2
        rw [hE1] at kb
        have kp : X.cell? ⟨bp, offp + k, none⟩ = some (.int .i64 m) := by
          have d := HCP.out k (by have := HPL.out; omega)
          rw [HM.out] at d
          exact (HBW.out.cell (p := ⟨bp, offp + k, none⟩) (lt_of_cell d)).trans d
        have k9 := HKX.out.cell
        have m1 : (q : Int) < ((dg (portsK N.ends v π k) b : Nat) : Int) := by omega
        have m0 : (0 : Int) ≤ (q : Int) := by omega
        have b0 : (0 : Int) ≤ (b : Int) := by omega
        have b1 : (b : Int) < (N.ends.length : Int) := by omega
        have hga9 : wr.heap.size ≠ ga := by
          have h1 := HIB.out.inn b (by omega)
          rw [hua] at h1
          have := (h1.lt ga rfl).2
          omega
        have HIY := Lib.hid ((HIX.out.below (Below.refl _ _).drew).store (x := (v : Int)) (y := (m : Int)) (show b < (portsK N.ends v π k).length by omega) hE2 hua)
        have hgw : w.heap.size + 1 + 1 ≤ ga := hBa
        have HBY := Lib.hid ((HBW.out.drew.setCell (p := ⟨ga, q * 2, none⟩) (show w.heap.size ≤ ga by omega) (.int .i64 v)).setCell (p := ⟨ga, q * 2 + 1, none⟩) (show w.heap.size ≤ ga by omega) (.int .i64 m))
        have HRY := Lib.hid (Blk.far (p := ⟨ga, q * 2 + 1, none⟩) (Blk.far (p := ⟨ga, q * 2, none⟩) (HRX.out.below (Below.refl _ _).drew) (show w.heap.size + 1 ≠ ga by omega) (.int .i64 v)) (show w.heap.size + 1 ≠ ga by omega) (.int .i64 m))
        have HK9 := Lib.hid (Blk.far (p := ⟨ga, q * 2 + 1, none⟩) (Blk.far (p := ⟨ga, q * 2, none⟩) (HKX.out.below (Below.refl _ _).drew) hga9 (.int .i64 v)) hga9 (.int .i64 m))
        clear hua hBa
        go_still_tail 15, (by kernel_rfl)
        change wpList _ _ _ _ _ X.drew
        go_upto_region 8 with (fail)
        clear kv ka1 ka2 hfa kb kp k9 m1 m0 hga9 hE1 hE2 HIX HBW HRX HKX hgw
        generalize hY : (X.drew.setCell ⟨ga, q * 2, none⟩ (.int .i64 v)).setCell ⟨ga, q * 2 + 1, none⟩ (.int .i64 m) = Y at HIY HBY HRY HK9
        have hY2 : ((X.setCell ⟨ga, q * 2, none⟩ (.int .i64 v)).setCell ⟨ga, q * 2 + 1, none⟩ (.int .i64 m)).drew = Y := hY
        rw [hY2]
        clear hY hY2 hla
        have hE1 : (set2 (portsK N.ends v π k) b q ((v : Int), (m : Int))).length = N.ends.length := by rw [set2_len]; exact HI1.out
        have hE2 : m < dg (set2 (portsK N.ends v π k) b q ((v : Int), (m : Int))) v := by rw [set2_dg (by rw [HI1.out]; exact hb), HI2.out]; exact hmd
        obtain ⟨ga, ca, hua, kv, hBa, hla, ka1, ka2, hfa, kb⟩ := HIY.out.spot (a := v) (j := m) (by omega) hE2
        rw [hE1] at kb
        have kp : Y.cell? ⟨bp, offp + k, none⟩ = some (.int .i64 m) := by
          have d := HCP.out k (by have := HPL.out; omega)
          rw [HM.out] at d
          exact (HBY.out.cell (p := ⟨bp, offp + k, none⟩) (lt_of_cell d)).trans d
        have k9 := HK9.out.cell
        have m1 : (m : Int) < ((dg (set2 (portsK N.ends v π k) b q ((v : Int), (m : Int))) v : Nat) : Int) := by omega
        have m0 : (0 : Int) ≤ (m : Int) := by omega
        have HNW := Lib.hid ((HIY.out.below (Below.refl _ _).drew).store (x := b) (y := q) (show v < (set2 (portsK N.ends v π k) b q ((v : Int), (m : Int))).length by omega) hE2 hua)
        have hgw : w.heap.size + 1 + 1 ≤ ga := hBa
        have HBN := Lib.hid ((HBY.out.drew.setCell (p := ⟨ga, m * 2, none⟩) (show w.heap.size ≤ ga by omega) (.int .i64 b)).setCell (p := ⟨ga, m * 2 + 1, none⟩) (show w.heap.size ≤ ga by omega) (.int .i64 q))
        have HRN := Lib.hid (Blk.far (p := ⟨ga, m * 2 + 1, none⟩) (Blk.far (p := ⟨ga, m * 2, none⟩) (HRY.out.below (Below.refl _ _).drew) (show w.heap.size + 1 ≠ ga by omega) (.int .i64 b)) (show w.heap.size + 1 ≠ ga by omega) (.int .i64 q))
        clear hua hBa
        go_still_tail 11, (by kernel_rfl)
        change wpList _ _ _ _ _ Y.drew
        have HST : Hid (portsK N.ends v π (k + 1) = set2 (set2 (portsK N.ends v π k) b q ((v : Int), (m : Int))) v m ((b : Int), (q : Int))) := Lib.hid (by
          show portsStep N.ends v π (portsK N.ends v π k) k = _
          unfold portsStep; simp only; rw [HE1.out, HM.out]; simp [hbi])
        go_wp2_with fail
        go_roundw
        case rel => exact ⟨k + 1, by omega, by go_num, by rw [HST.out]; exact HNW.out, HBN.out, HRN.out⟩
        case measure => simp [intOf]; omega
    · obtain rfl : k = dg N.ends v := by omega
      have hpa := portsK_all HSY.out hv HPM.out
      have HEE : Hid (OwnEs wr (w.heap.size + 1 + 1) (.slice (some ⟨gE, 0, none⟩) N.ends.length cap) (portsN N v π).ends) := by
        have := HIB.out.es
        rw [i1, hpa] at this
        exact Lib.hid this
      have hb0 := HIB.out.hbox
      rw [i1] at hb0
      have k7 := hb0.cell
      have k2 := HRE.out.cell
      have f2 := HRE.out.free
      have HI1 := Lib.hid HIB.out.hids
      have HI2 := Lib.hid HIB.out.hins
      have HRA := Lib.hid (set3_blk (x := .slice (some ⟨gE, 0, none⟩) N.ends.length cap) (y := .slice A5 N.ids.length c5) (z := .slice A6 N.inputs.length c6) HRE.out)
      have hkp : ∀ b, w.heap.size + 1 + 1 ≤ b → b < wr.heap.size → (set3 wr (w.heap.size + 1) (.slice (some ⟨gE, 0, none⟩) N.ends.length cap) (.slice A5 N.ids.length c5) (.slice A6 N.inputs.length c6)).heap[b]? = wr.heap[b]? := fun b hb _ => set3_block _ _ _ _ _ (by omega)
      have HKP := Lib.hid hkp
      have HBF := Lib.hid (set3_below (p := w.heap.size + 1) HBE.out (by omega) (.slice (some ⟨gE, 0, none⟩) N.ends.length cap) (.slice A5 N.ids.length c5) (.slice A6 N.inputs.length c6))
      have hlt2 : ¬ ((dg N.ends v : Nat) : Int) < ((gl N.ends v).length : Int) := by unfold dg; omega
      clear hib hbel hres hkp hb0 i1 i2 hpa hlt
      go_wp2_with fail
      have hcc := HRA.out.cell
      unfold set3 at hcc
      refine bodyPost_ret (v := .agg #[.slice (some ⟨gE, 0, none⟩) N.ends.length cap, .slice A5 N.ids.length c5, .slice A6 N.inputs.length c6]) ?_ rfl ?_
      · simp [results, Tryz.results166, go_sem, hcc]
      · exact ⟨_, rfl, ⟨_, _, _, rfl, (HEE.out.keepB HKP.out).mono (by omega), (HI1.out.keepB HKP.out).mono (by omega), (HI2.out.keepB HKP.out).mono (by omega), HDD.out⟩, HBF.out⟩
end Go.Proofs.YtljjbhihllnnaaaGreat
