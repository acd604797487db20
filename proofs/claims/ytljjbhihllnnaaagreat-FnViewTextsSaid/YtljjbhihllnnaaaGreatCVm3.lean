/- writeView of the program. -/
import Derived.Test.YtljjbhihllnnaaaGreatCJn23
import Derived.Test.YtljjbhihllnnaaaGreatCJn31
import Derived.Test.YtljjbhihllnnaaaGreatCJn1
import Derived.Test.YtljjbhihllnnaaaGreatCJn6
namespace Go.Proofs.YtljjbhihllnnaaaGreat
open Go.RowKit
attribute [local go_sem] BW.cell BW.frozen

set_option maxRecDepth 100000 in
set_option maxHeartbeats 4000000 in
theorem writeView_any (N : Net) (hg : goodB N = true) (n : Nat) : ∀ (k : Nat) (vN : Value) (w : World) (B b v : Nat) (l : List UInt8), k < n → NetR w (fun q => q < B) vN N → v < N.ends.length → l.length + (ntx N k v).length ≤ 4000 → k ≤ 1000 → BldR w B b l → B ≤ w.heap.size →
    Calls Tryz.prog 51 #[.pointer (some ⟨b, 0, none⟩), vN, .int .i64 (v : Nat), .int .i64 (k : Nat)] w (RetK w B b (l ++ ntx N k v) (.tuple #[])) := by
  have HG := Lib.hid hg
  clear hg
  induction n with
  | zero => intro k vN w B b v l h; omega
  | succ n ih =>
    intro k vN w B b v l hkn h hv hlen hk hbld hB
    have HNR := Lib.hid h
    have IH := Lib.hid ih
    have HBL := Lib.hid hbld
    have HLEN := Lib.hid hlen
    have hbl : b < w.heap.size := by rcases hbld with ⟨_, v, hk, _⟩ | ⟨_, v, hk, _⟩ <;> exact hk.lt
    obtain ⟨hd6, hil, hn40, ⟨q, hq, hq9⟩, hends⟩ := good_row HG.out hv
    have HEN := Lib.hid hends
    have hHD : Hid (hdT N v = [dch (gl N.ends v).length, 46, dch q]) := Lib.hid (by unfold hdT; rw [hq]; rfl)
    have hln : l.length + 3 ≤ 4000 := by have := ntx_pos N k v; omega
    obtain ⟨ve, vi, vn, rfl, he, hi, hn⟩ := h
    obtain ⟨A1, c1, rfl, -, -, -⟩ := hi
    obtain ⟨A, c, rfl, hnc, hmx, hx⟩ := he
    obtain ⟨A2, c2, rfl, hnc2, hmx2, hx2⟩ := hn
    obtain ⟨be, off, rfl, hbe, hc⟩ := hx (by omega)
    obtain ⟨b2, off2, rfl, hb2, hc2⟩ := hx2 (by omega)
    obtain ⟨u, hu, hur⟩ := hc v hv
    have HUR := Lib.hid hur
    obtain ⟨Ae, ce, rfl, -, -, -⟩ := hur
    have ci := hc2 v (by omega)
    rw [hq] at ci
    unfold maxLen at hmx hmx2
    rw [hil] at HNR hnc2 ⊢
    have HKX := Lib.hid (Blk.new w 27 #[.slice (some ⟨be, off, none⟩) N.ends.length c, .slice A1 N.ids.length c1, .slice (some ⟨b2, off2, none⟩) N.ends.length c2])
    have HA0 := Lib.hid ((Below.refl w.heap.size w).alloc (Nat.le_refl _) (.cells #[.slice (some ⟨be, off, none⟩) N.ends.length c, .slice A1 N.ids.length c1, .slice (some ⟨b2, off2, none⟩) N.ends.length c2] 27))
    have hz0 : (w.alloc (.cells #[.slice (some ⟨be, off, none⟩) N.ends.length c, .slice A1 N.ids.length c1, .slice (some ⟨b2, off2, none⟩) N.ends.length c2] 27)).heap.size = w.heap.size + 1 := by simp
    obtain ⟨dg, hdg⟩ : ∃ dg, dg = (gl N.ends v).length := ⟨_, rfl⟩
    have HDG := Lib.hid hdg
    rw [← hdg] at hu hd6 hHD
    have HU := Lib.hid hu
    clear hil hc hc2 hx hx2 hq hends ih hbld hlen hdg
    go_enter Tryz.func51, Tryz.ntmps51
    go_wp2_with fail
    generalize w.alloc (.cells #[.slice (some ⟨be, off, none⟩) N.ends.length c, .slice A1 N.ids.length c1, .slice (some ⟨b2, off2, none⟩) N.ends.length c2] 27) = w0 at *
    have hu0 := (HA0.out.cell (p := ⟨be, off + v, none⟩) (lt_of_cell hu)).trans hu
    have ci0 := (HA0.out.cell (p := ⟨b2, off2 + v, none⟩) (lt_of_cell ci)).trans ci
    have kx := HKX.out.cell
    have kx0 : w0.cell? ⟨w.heap.size, 0, none⟩ = some (.slice (some ⟨be, off, none⟩) N.ends.length c) := by rw [kx]; rfl
    have kx2 : w0.cell? ⟨w.heap.size, 2, none⟩ = some (.slice (some ⟨b2, off2, none⟩) N.ends.length c2) := by rw [kx]; rfl
    have q1 : be < w0.heap.size := lt_of_cell hu0
    have q2 : b2 < w0.heap.size := lt_of_cell ci0
    have q3 : w.heap.size < w0.heap.size := by omega
    have HZ0 := Lib.hid hz0
    clear kx hz0
    have i0 : (0 : Int) ≤ (v : Int) := by omega
    have i1 : (v : Int) < (N.ends.length : Int) := by omega
    have hBZ : B ≤ w0.heap.size := by have := HZ0.out; omega
    refine wp_region_any (by kernel_rfl) ?_
    simp only [List.size_toArray, List.length_cons, List.length_nil, Array.replicate, List.replicate]
    refine wpAny_take (i := 0) (oi := _) (v := ?_) rfl (by kernel_rfl) (by kernel_rfl) (by kernel_rfl) (fun _ _ _ h => h) (Or.inl ⟨by rfl, ?_⟩) ?_
    case refine_2 => intro w0; go_simp; with_reducible rfl
    try simp only [Act.put, List.getElem_toArray, List.getElem_cons_zero, List.getElem_cons_succ, List.setIfInBounds_toArray, List.set_cons_zero, List.set_cons_succ]
    refine wpAny_below_tail 1 14 (by kernel_rfl) (by kernel_rfl) ?_
    simp only [List.take_succ_cons, List.take_zero, List.drop_succ_cons, List.drop_zero]
    repeat (go_big_quiet_step ((go_at_call 108; exact quietB ((digit_any _ _ (by omega)).mono fun _ _ h => h.v))))
    refine wpQuiet_nil ?_
    rintro _ ⟨x1, rfl⟩
    have HX1 := Lib.hid (Below.then_ HA0.out x1.h)
    have HKX1 := Lib.hid (HKX.out.below x1.h)
    obtain ⟨wx, hwx⟩ : ∃ z, z = x1.wd := ⟨_, rfl⟩
    rw [← hwx] at HX1 HKX1 ⊢
    have hbz : B ≤ wx.heap.size := by have := HX1.out.size; omega
    have HAW := Lib.hid (HX1.out.alloc HX1.out.size (.cells #[.int .u8 (48 + (dg : Int)), .int .u8 46, .int .u8 (48 + (q : Int))] 5))
    have hkb : w.heap.size ≠ b := by omega
    have HKW := Lib.hid (HKX1.out.alloc (.cells #[.int .u8 (48 + (dg : Int)), .int .u8 46, .int .u8 (48 + (q : Int))] 5))
    have HSA : Hid (SlR encB (wx.alloc (.cells #[.int .u8 (48 + (dg : Int)), .int .u8 46, .int .u8 (48 + (q : Int))] 5)) (fun q => q ≠ b) (.slice (some ⟨wx.heap.size, 0, none⟩) 3 3) [dch dg, 46, dch q]) := Lib.hid (SlR.three (Blk.new wx 5 _) (dch_int (by omega)) rfl (dch_int (by omega)) (by have := HX1.out.size; omega))
    clear hwx x1 kx0 kx2 hu0 ci0 q1 q2 q3 HA0 HKX ci hu
    go_upto_region 2 with (go_at_call 107; refine (bldWriteK_any B b l [dch dg, 46, dch q] _ _ (HBL.out.below HAW.out) HSA.out (fun _ h => h) hln (by simp; omega)).mono ?_; rintro e w3 ⟨⟨rfl, hb3, hl3⟩, hk3⟩)
    have HB3 := Lib.hid hb3
    have HL3 := Lib.hid ((HAW.out.mono hB).trans hl3)
    have HT3 := Lib.hid ((KeptT.below HAW.out).trans hk3)
    have hk := hk3.2 _ _ _ hkb (by decide) HKW.out
    have HK3 := Lib.hid hk
    have kx3 := hk.cell
    have hu3 := (HL3.out.cell (p := ⟨be, off + v, none⟩) hbe).trans HU.out
    clear hb3 hl3 hk3 hk HKW HAW HSA HX1 HKX1
    have hz3 : B ≤ w3.heap.size := by have := HL3.out.size; omega
    have hbe3 := lt_of_cell hu3
    obtain ⟨l0, hl0⟩ : ∃ l0, l0 = l ++ [dch dg, 46, dch q] := ⟨_, rfl⟩
    rw [← hl0] at HB3
    have HL0 : Hid (l ++ hdT N v = l0) := Lib.hid (by rw [hHD.out, hl0])
    clear hl0
    by_cases hz : k = 0 ∨ dg = 0
    · have HE : Hid (l ++ ntx N k v = l0) := Lib.hid (by
        rw [← HL0.out]
        cases k with
        | zero => rfl
        | succ k =>
          have : gl N.ends v = [] := List.eq_nil_of_length_eq_zero (by have := HDG.out; omega)
          rw [ntx_succ, if_pos this, List.append_nil])
      by_cases hk0 : k = 0
      · have e1 : ((k : Int) == 0) = true := by simp [hk0]
        clear hz hk0
        go_wp2_with fail
        go_end0
        exact ⟨⟨rfl, by rw [HE.out]; exact HB3.out, HL3.out⟩, HT3.out⟩
      · have e1 : ((k : Int) == 0) = false := by simp [hk0]
        have e2 : ((dg : Int) == 0) = true := by rw [beq_iff_eq]; omega
        clear hz hk0
        go_wp2_with fail
        go_end0
        exact ⟨⟨rfl, by rw [HE.out]; exact HB3.out, HL3.out⟩, HT3.out⟩
    have e1 : ((k : Int) == 0) = false := by simp; omega
    have e2 : ((dg : Int) == 0) = false := by rw [beq_eq_false_iff_ne]; omega
    have hkp : 0 < k := by omega
    have htp : 0 < dg := by omega
    obtain ⟨es, hes⟩ : ∃ es, es = gl N.ends v := ⟨_, rfl⟩
    have HES := Lib.hid hes
    have hdl : es.length = dg := by rw [hes, HDG.out]
    have HDL := Lib.hid hdl
    have HE : Hid (l ++ ntx N k v = l0 ++ etx (ntx N (k - 1)) 40 es ++ [41]) := Lib.hid (by
      obtain ⟨k', rfl⟩ : ∃ k', k = k' + 1 := ⟨k - 1, by omega⟩
      rw [ntx_succ, if_neg (by intro e; rw [← hes] at e; rw [e] at hdl; simp at hdl; omega), ← hes, Nat.add_sub_cancel, ← HL0.out]
      simp)
    have HL2 : Hid (l0.length + (etx (ntx N (k - 1)) 40 es).length + 1 ≤ 4000) := Lib.hid (by
      have h1 := HLEN.out
      have h2 := congrArg List.length HE.out
      rw [List.length_append] at h2
      rw [h2] at h1
      simp only [List.length_append, List.length_cons, List.length_nil] at h1; omega)
    rw [← hes] at HUR HEN
    clear hz hes hdl HDG
    go_wp2_with fail
    go_loopw [44, 8] (fun xi xb wr => ∃ (j : Nat) (z : Int), j ≤ dg ∧ xi = .int .i64 j ∧ xb = .int .u8 z ∧ z = (if j = 0 then 40 else 44) ∧ BldR wr B b (l0 ++ etx (ntx N (k - 1)) 40 (es.take j)) ∧ Below B w wr ∧ KeptT b w wr ∧ Blk wr w.heap.size 27 #[.slice (some ⟨be, off, none⟩) N.ends.length c, .slice A1 N.ids.length c1, .slice (some ⟨b2, off2, none⟩) N.ends.length c2]) (fun xi _ _ => dg - (intOf xi).toNat)
    case atStart => exact ⟨0, 40, Nat.zero_le _, rfl, rfl, rfl, by simp only [List.take_zero, etx, List.append_nil]; exact Or.inr HB3.out, HL3.out, HT3.out, HK3.out⟩
    case round =>
      obtain ⟨j, z, hj, rfl, rfl, hz, hbr, hbel, hkt, hkk⟩ := hrel
      have HZ := Lib.hid hz
      have HBR := Lib.hid hbr
      have HB := Lib.hid hbel
      have HKT := Lib.hid hkt
      have HKK := Lib.hid hkk
      have hzr : B ≤ wr.heap.size := by have := hbel.size; omega
      have hbr2 : b < wr.heap.size := by rcases hbr with ⟨_, v, hk, _⟩ | ⟨_, v, hk, _⟩ <;> exact hk.lt
      clear hz hbr hbel hkt hkk kx3 hu3
      by_cases hlt : j < dg
      · obtain ⟨un, pn, hup, hun, hpn⟩ := HEN.out j (by rw [HDL.out]; exact hlt)
        obtain ⟨Ae', ce', hv', -, -, hex⟩ := HUR.out
        rw [HDL.out] at hv' hex
        simp only [Value.slice.injEq, true_and] at hv'
        obtain ⟨rfl, rfl⟩ := hv'
        obtain ⟨bf, offf, rfl, hbf, hce⟩ := hex (by omega)
        obtain ⟨d1, d2⟩ := hce j hlt
        rw [hup] at d1 d2
        have c1' := (HB.out.cell (p := ⟨bf, offf + j * 2, none⟩) hbf).trans d1
        have c2' := (HB.out.cell (p := ⟨bf, offf + j * 2 + 1, none⟩) hbf).trans d2
        have i2 : (0 : Int) ≤ (j : Int) := by omega
        have i3 : (j : Int) < (dg : Int) := by omega
        have ek : (k : Int) - 1 = ((k - 1 : Nat) : Int) := by omega
        have HEK := Lib.hid ek
        have hsn := etx_snoc (ntx N (k - 1)) (s := 40) (es := es) (j := j) (by rw [HDL.out]; exact hlt)
        have hpt : (etx (ntx N (k - 1)) 40 (es.take (j + 1))).length ≤ (etx (ntx N (k - 1)) 40 es).length := by
          rw [etx_len, etx_len]
          have := sumE_take (fun u => (ntx N (k - 1) u).length) (es := es) (j := j + 1)
          have h2 : (es.take (j + 1)).length ≤ es.length := by simp; omega
          omega
        rw [hup] at hsn
        simp only [Int.toNat_natCast] at hsn
        have HSN : Hid (l0 ++ etx (ntx N (k - 1)) 40 (es.take (j + 1)) = (l0 ++ etx (ntx N (k - 1)) 40 (es.take j)) ++ [(if j = 0 then 40 else 44), dch pn, 58] ++ ntx N (k - 1) un) := Lib.hid (by rw [hsn]; simp)
        have HLN : Hid ((l0 ++ etx (ntx N (k - 1)) 40 (es.take j)).length + 3 + (ntx N (k - 1) un).length ≤ 4000) := Lib.hid (by
          rw [hsn] at hpt
          have := HL2.out
          simp only [List.length_append, List.length_cons] at hpt ⊢; omega)
        generalize hl1 : l0 ++ etx (ntx N (k - 1)) 40 (es.take j) = l1 at HBR HSN HLN
        have hzz : z = (((if j = 0 then 40 else 44 : UInt8)).toNat : Nat) := by rw [HZ.out]; split <;> rfl
        have HBE := Lib.hid ((Below.refl wr.heap.size wr).alloc (Nat.le_refl _) (.cells #[.int .i64 (un : Nat), .int .i64 (pn : Nat)] 38))
        have HKE := Lib.hid (Blk.new wr 38 #[.int .i64 (un : Nat), .int .i64 (pn : Nat)])
        have HZE : Hid ((wr.alloc (.cells #[.int .i64 (un : Nat), .int .i64 (pn : Nat)] 38)).heap.size = wr.heap.size + 1) := Lib.hid (by simp)
        obtain ⟨ge, hge⟩ : ∃ ge, ge = wr.heap.size := ⟨_, rfl⟩
        clear hce hex d1 d2 hsn hpt hl1 ek hup
        go_upto_region 7 with fail
        have HGE := Lib.hid hge
        rw [← hge] at HKE HZE ⊢
        clear hge
        generalize wr.alloc (.cells #[.int .i64 (un : Nat), .int .i64 (pn : Nat)] 38) = we at *
        have ke := HKE.out.cell
        have hzE : B ≤ we.heap.size := by have := HZE.out; have := HGE.out; omega
        have HAB := Lib.hid (HBE.out.alloc HBE.out.size (.cells #[.int .u8 z, .int .u8 (48 + (pn : Int)), .int .u8 58] 5))
        have HSA : Hid (SlR encB (we.alloc (.cells #[.int .u8 z, .int .u8 (48 + (pn : Int)), .int .u8 58] 5)) (fun q => q ≠ b) (.slice (some ⟨we.heap.size, 0, none⟩) 3 3) [(if j = 0 then 40 else 44), dch pn, 58]) := Lib.hid (SlR.three (Blk.new we 5 _) hzz (dch_int (by omega)) rfl (by have := HZE.out; have := HGE.out; omega))
        clear hzz
        have hgb : ge ≠ b := by have := HGE.out; omega
        have HKE2 := Lib.hid (HKE.out.alloc (.cells #[.int .u8 z, .int .u8 (48 + (pn : Int)), .int .u8 58] 5))
        have HKK2 := Lib.hid ((HKK.out.below HBE.out).alloc (.cells #[.int .u8 z, .int .u8 (48 + (pn : Int)), .int .u8 58] 5))
        go_upto_region 8 with (first
          | (go_at_call 108; refine (digit_any _ _ (by omega)).mono ?_; rintro e w' ⟨rfl, rfl⟩)
          | (go_at_call 107; refine (bldWriteK_any B b l1 [(if j = 0 then 40 else 44), dch pn, 58] _ _ (HBR.out.below HAB.out) HSA.out (fun _ h => h) (by have := HLN.out; simp; omega) (by simp; omega)).mono ?_; rintro e w4 ⟨⟨rfl, hb4, hl4⟩, hk4⟩))
        have HB4 := Lib.hid hb4
        have HL4 := Lib.hid ((HB.out.trans (HAB.out.mono hzr)).trans hl4)
        have HT4 := Lib.hid ((HKT.out.trans (KeptT.below HAB.out)).trans hk4)
        have kk4 := hk4.2 _ _ _ hkb (by decide) HKK2.out
        have HKK4 := Lib.hid kk4
        have kc4 := kk4.cell
        have ke4 := (hk4.2 _ _ _ hgb (by decide) HKE2.out).cell
        clear hb4 hl4 hk4 kk4 ke c1' c2'
        go_wp2_with (go_at_call 51; rw [HEK.out]; refine (IH.out (k - 1) _ _ B b un _ (by omega) (HNR.out.keep (fun _ h => h) (fun q hq _ => HL4.out.block q hq)) hun (by have := HLN.out; simp; omega) (by omega) (.inr HB4.out) (by have := HL4.out.size; omega)).mono ?_; rintro e w5 ⟨⟨rfl, hb5, hl5⟩, hk5⟩; have HB5 := Lib.hid hb5; have HL5 := Lib.hid (HL4.out.trans hl5); have HT5 := Lib.hid (HT4.out.trans hk5); have HK5 := Lib.hid (hk5.2 _ _ _ hkb (by decide) HKK4.out); clear hb5 hl5 hk5)
        go_roundw
        case rel =>
          refine ⟨j + 1, 44, by omega, by go_num, rfl, rfl, ?_, HL5.out, HT5.out, HK5.out⟩
          rw [HSN.out]
          exact .inr HB5.out
        case measure => simp [intOf]; omega
      · obtain rfl : j = dg := by omega
        have htk : es.take j = es := by rw [← HDL.out]; exact List.take_length
        rw [htk] at HBR
        have HLL : Hid ((l0 ++ etx (ntx N (k - 1)) 40 es).length + 1 ≤ 4000) := Lib.hid (by have := HL2.out; simp; omega)
        clear htk
        go_wp2_with (go_at_call 109; refine (bldWriteByteK_any B b _ 41 41 rfl wr HBR.out HLL.out hzr).mono ?_; rintro e w6 ⟨⟨rfl, hb6, hl6⟩, hk6⟩; have HB6 := Lib.hid hb6; have HL6 := Lib.hid (HB.out.trans hl6); have HT6 := Lib.hid (HKT.out.trans hk6); clear hb6 hl6 hk6)
        go_end0
        exact ⟨⟨rfl, by rw [HE.out]; exact HB6.out, HL6.out⟩, HT6.out⟩
end Go.Proofs.YtljjbhihllnnaaaGreat
