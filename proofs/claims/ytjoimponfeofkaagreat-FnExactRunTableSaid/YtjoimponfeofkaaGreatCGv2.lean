/- RunTable and MissingNodes of the program. -/
import Derived.Test.YtjoimponfeofkaaGreatCGv1
import Derived.Test.YtjoimponfeofkaaGreatCJn29
import Derived.Test.YtjoimponfeofkaaGreatCJn23
namespace Go.Proofs.YtjoimponfeofkaaGreat
open Go.RowKit

theorem giveT_mem : ∀ {rows : List RowT} {s : ByteArray} {o : Int}, giveT rows s = some o → ∃ j, j < rows.length ∧ (ga rows j).2 = o
  | [], _, _, h => by simp [giveT] at h
  | r :: rs, s, o, h => by
    simp only [giveT] at h
    split at h
    · exact ⟨0, by simp, by simpa [ga] using h⟩
    · obtain ⟨j, hj, e⟩ := giveT_mem h
      exact ⟨j + 1, by simpa using hj, by simpa [ga] using e⟩
theorem rowB_out {D : Int} {r : RowT} (h : rowB D r = true) : 0 ≤ r.2 ∧ r.2 ≤ 99 := by
  unfold rowB at h
  split at h
  · exact inB_iff.1 ((Bool.and_eq_true _ _).mp h).2
  · cases h
theorem giveN_some {D : Nat} {rows : List RowT} {N : Net} {j : Nat} {o : Int} (ht : tabB D rows = true) (h : giveT rows (vtx N D j) = some o) : giveN D rows N j = o ∧ 0 ≤ o ∧ o ≤ 99 := by
  obtain ⟨i, hi, e⟩ := giveT_mem h
  have := rowB_out ((tabB_iff.1 ht).2.2.1 i hi)
  refine ⟨by unfold giveN; rw [h]; rfl, ?_, ?_⟩ <;> omega
theorem giveN_none {D : Nat} {rows : List RowT} {N : Net} {j : Nat} (h : giveT rows (vtx N D j) = none) : giveN D rows N j = -1 := by unfold giveN; rw [h]; rfl
theorem giveV {S T : Nat → Prop} (v vN : Value) (D : Nat) (rows : List RowT) (N : Net) (x : Nat) (w : World) (h : SlR encR w S v rows) (hN : NetR w T vN N) (ht : tabB D rows = true) (hg : goodB N = true) (hid : N.ids.length ≤ 2097152) (hx : x < N.ends.length) :
    Calls Tryz.prog 40 #[.agg #[.int .i64 (D : Nat), v], vN, .int .i64 (x : Nat)] w (fun e w' => ∃ (o : Int) (ok : Bool), e = .returned (.tuple #[.int .i64 o, .bool ok]) ∧ Below w.heap.size w w' ∧ (ok = true → giveN D rows N x = o ∧ 0 ≤ o ∧ o ≤ 99) ∧ (ok = false → giveN D rows N x = -1)) := by
  refine (give_any v vN D rows N x w h hN ht hg hid hx).mono ?_
  rintro e w' ⟨rfl, hb⟩
  refine ⟨_, _, rfl, hb, fun h => ?_, fun h => ?_⟩
  · obtain ⟨o, ho⟩ := Option.isSome_iff_exists.1 h
    rw [ho]
    exact giveN_some ht ho
  · exact giveN_none (by simpa using h)
theorem run_none {D : Nat} {rows : List RowT} {N : Net} {j : Nat} (ht : tabB D rows = true) (hg : goodB N = true) (hj : j < N.ends.length) (h : giveN D rows N j = -1) : runT D rows N = none := by
  unfold runT
  rw [ht, hg]
  simp only [Bool.and_self, if_true, Int.toNat_natCast]
  rw [if_pos]
  unfold hasB outsT
  simp only [List.contains_iff_mem, List.mem_map, List.mem_range]
  exact ⟨j, hj, h⟩
theorem run_all {D : Nat} {rows : List RowT} {N : Net} (ht : tabB D rows = true) (hg : goodB N = true) (h : ∀ j, j < N.ends.length → 0 ≤ giveN D rows N j) : runT D rows N = some ((List.range N.ends.length).map (giveN D rows N)) := by
  unfold runT
  rw [ht, hg]
  simp only [Bool.and_self, if_true, Int.toNat_natCast]
  rw [if_neg]
  · rfl
  · unfold hasB outsT
    simp only [List.contains_iff_mem, List.mem_map, List.mem_range]
    rintro ⟨j, hj, e⟩
    have := h j hj
    omega

set_option maxRecDepth 100000 in
set_option maxHeartbeats 4000000 in
theorem RunTable_any {S T : Nat → Prop} (v vN : Value) (D : Int) (rows : List RowT) (N : Net) (w : World) (h : SlR encR w S v rows) (hN : NetR w T vN N) (hid : N.ids.length ≤ 2097152) :
    Calls Tryz.prog 22 #[.agg #[.int .i64 D, v], vN] w (RetO w (runT D rows N)) := by
  have HR := Lib.hid h
  have HN := Lib.hid hN
  obtain ⟨A, c, rfl, -, -, -⟩ := h
  obtain ⟨ve, vi, vn, rfl, he, -, -⟩ := hN
  obtain ⟨Ae, ce, rfl, -, -, -⟩ := he
  have hb0 : Below w.heap.size w ((w.alloc (.cells #[.int .i64 D, .slice A rows.length c] 35)).alloc (.cells #[.slice Ae N.ends.length ce, vi, vn] 39)) := ((Below.refl _ _).alloc (Nat.le_refl _) _).alloc (by simp) _
  have HB0 := Lib.hid hb0
  clear hb0
  cases ht : tabB D rows with
  | false =>
    have HV : Hid (runT D rows N = none) := Lib.hid (by unfold runT; rw [ht]; rfl)
    have CT := Lib.hid (fun W (hW : Below w.heap.size w W) => IsTable_b _ D rows false W (HR.out.below hW) ht)
    clear ht
    go_enter Tryz.func22, Tryz.ntmps22
    go_wp2_with (go_at_call 38; refine (CT.out _ HB0.out).mono ?_; rintro e w1 ⟨rfl, hb1⟩; have HB1 := Lib.hid (Below.then_ HB0.out hb1); clear hb1)
    go_ret2
    exact ⟨_, by rw [HV.out]; rfl, by rw [HV.out]; exact OwnI.nil, HB1.out⟩
  | true =>
  have CT := Lib.hid (fun W (hW : Below w.heap.size w W) => IsTable_b _ D rows true W (HR.out.below hW) ht)
  have CN := Lib.hid (fun W (hW : Below w.heap.size w W) => IsNetwork_any _ N W (HN.out.below hW) hid)
  cases hg : goodB N with
  | false =>
    have HV : Hid (runT D rows N = none) := Lib.hid (by unfold runT; rw [ht, hg]; rfl)
    rw [hg] at CN
    clear ht hg
    go_enter Tryz.func22, Tryz.ntmps22
    go_wp2_with (first
      | (go_at_call 38; refine (CT.out _ HB0.out).mono ?_; rintro e w1 ⟨rfl, hb1⟩; obtain ⟨-, k1⟩ := box2b hb1; have kc1 := k1.cell; have HB1 := Lib.hid (Below.then_ HB0.out hb1); clear hb1 k1)
      | (go_at_call 39; refine (CN.out _ HB1.out).mono ?_; rintro e w2 ⟨rfl, hb2⟩; have HB2 := Lib.hid (Below.then_ HB1.out hb2); clear hb2))
    go_ret2
    exact ⟨_, by rw [HV.out]; rfl, by rw [HV.out]; exact OwnI.nil, HB2.out⟩
  | true =>
  obtain ⟨d, rfl, hd⟩ := tab_D ht
  have hn40 : N.ends.length ≤ 40 := (good_row hg (good_some hg)).2.2.1
  have HNO := Lib.hid (fun j (hj : j < N.ends.length) h => run_none (D := d) (rows := rows) (N := N) (j := j) ht hg hj h)
  have HAL := Lib.hid (fun h => run_all (D := d) (rows := rows) (N := N) ht hg h)
  have HGV := Lib.hid (fun x W (hW : Below w.heap.size w W) hx => giveV _ _ d rows N x W (HR.out.below hW) (HN.out.below hW) ht hg hid hx)
  rw [hg] at CN
  generalize runT (d : Int) rows N = r at HNO HAL ⊢
  clear ht hg
  go_enter Tryz.func22, Tryz.ntmps22
  go_wp2_with (first
    | (go_at_call 38; refine (CT.out _ HB0.out).mono ?_; rintro e w1 ⟨rfl, hb1⟩; obtain ⟨k0, k1⟩ := box2b hb1; have kc1 := k1.cell; have HK1 := Lib.hid (And.intro k0 k1); have HB1 := Lib.hid (Below.then_ HB0.out hb1); clear hb1 k0 k1)
    | (go_at_call 39; refine (CN.out _ HB1.out).mono ?_; rintro e wz ⟨rfl, hb2⟩; have HK2 := Lib.hid (HK1.out.1.below hb2); have HK3 := Lib.hid (HK1.out.2.below hb2); have kc2 := HK3.out.cell; have HB2 := Lib.hid (Below.then_ HB1.out hb2); clear hb2 kc1))
  have hzk := HK3.out.lt
  go_loopw [21, 6] (fun x21 x6 wr => ∃ (j : Nat) (Am : Option Addr) (cm : Nat), j ≤ N.ends.length ∧ x21 = .int .i64 j ∧ x6 = .slice Am j cm ∧ OwnI wr wz.heap.size (.slice Am j cm) ((List.range j).map (giveN d rows N)) ∧ (∀ i, i < j → 0 ≤ giveN d rows N i) ∧
      Blk wr w.heap.size 35 #[.int .i64 (d : Nat), .slice A rows.length c] ∧ Blk wr (w.heap.size + 1) 39 #[.slice Ae N.ends.length ce, vi, vn] ∧ Below w.heap.size w wr ∧ wz.heap.size ≤ wr.heap.size) (fun x21 _ _ => N.ends.length - (intOf x21).toNat)
  case atStart => exact ⟨0, none, 0, Nat.zero_le _, rfl, rfl, OwnI.nil, fun i hi => absurd hi (Nat.not_lt_zero _), HK2.out, HK3.out, HB2.out, Nat.le_refl _⟩
  case round =>
    obtain ⟨j, Am, cm, hj, rfl, rfl, hown, hpos, hk0, hk1, hbel, hz⟩ := hrel
    obtain ⟨wr2, rfl⟩ : ∃ wr2, wr2 = wr := ⟨_, rfl⟩
    have HOW := Lib.hid hown
    have HPO := Lib.hid hpos
    have HK0 := Lib.hid hk0
    have HK1' := Lib.hid hk1
    have HB3 := Lib.hid hbel
    have kc0 := hk0.cell
    have kc1 := hk1.cell
    clear hown hpos hk0 hk1 hbel kc2
    by_cases hlt : j < N.ends.length
    · go_upto_region 8 with (go_at_call 40; refine (HGV.out j _ HB3.out hlt).mono ?_; rintro e w4 ⟨o, ok, rfl, hb4, ho1, ho2⟩)
      have HO1 := Lib.hid ho1
      have HO2 := Lib.hid ho2
      have HB4 := Lib.hid hb4
      clear hb4 ho1 ho2 kc0 kc1
      cases ok with
      | false =>
        have HV := Lib.hid (HNO.out j hlt (HO2.out rfl))
        have HB5 := Lib.hid (Below.then_ HB3.out HB4.out)
        go_wp2_with fail
        go_ret2
        exact ⟨_, by rw [HV.out]; rfl, by rw [HV.out]; exact OwnI.nil, HB5.out⟩
      | true =>
        obtain ⟨hgo, ho0, ho9⟩ := HO1.out rfl
        have HGO := Lib.hid hgo
        have hz4 : wr2.heap.size ≤ w4.heap.size := HB4.out.size
        clear hgo
        have hbx : Below w4.heap.size w4 (w4.alloc (.cells #[.int .i64 o] 3)) := (Below.refl _ _).alloc (Nat.le_refl _) _
        have HBX := Lib.hid (HB4.out.trans (hbx.mono hz4))
        have hzx : (w4.alloc (.cells #[.int .i64 o] 3)).heap.size = w4.heap.size + 1 := by simp
        clear hbx
        go_upto_region 11 with (refine wpList_append_int _ rfl (.tmp 33) (.tmp 35) rfl wz.heap.size (.slice Am j cm) ((List.range j).map (giveN d rows N)) rfl (HOW.out.below HBX.out) _ o rfl (cell_one _ _ _) (by simp; omega) (by simp; omega) ?_; intro A5 c5 w5 ho5 hg5)
        have hlow := fun g hg => (HOW.out.lt g hg).1
        have hz5 := hg5.size
        have F1 : Hid (OwnI w5 wz.heap.size (.slice A5 (j + 1) c5) ((List.range (j + 1)).map (giveN d rows N))) := Lib.hid (by
          rw [List.range_succ, List.map_append, List.map_cons, List.map_nil, HGO.out]
          simpa using ho5)
        have F2 : Hid (Blk w5 w.heap.size 35 #[.int .i64 (d : Nat), .slice A rows.length c]) := Lib.hid ((hg5.block _ (by omega) (fun e => by have := hlow _ e.symm; omega)).trans (HK0.out.below HBX.out))
        have F3 : Hid (Blk w5 (w.heap.size + 1) 39 #[.slice Ae N.ends.length ce, vi, vn]) := Lib.hid ((hg5.block _ (by omega) (fun e => by have := hlow _ e.symm; omega)).trans (HK1'.out.below HBX.out))
        have F4 : Hid (Below w.heap.size w w5) := Lib.hid ((HB3.out.trans (HBX.out.mono HB3.out.size)).grown hg5 (by have := HB3.out.size; omega) (fun g hg => by have := hlow g hg; omega))
        have F5 : Hid (∀ i, i < j + 1 → 0 ≤ giveN d rows N i) := Lib.hid fun i hi => by
          rcases Nat.lt_or_ge i j with h2 | h2
          · exact HPO.out i h2
          · obtain rfl : i = j := by omega
            rw [HGO.out]; exact ho0
        clear ho5 hg5 hlow
        go_wp2_with fail
        go_roundw
        case rel => exact ⟨j + 1, A5, c5, by omega, by go_num, by simp, F1.out, F5.out, F2.out, F3.out, F4.out, by omega⟩
        case measure => simp [intOf]; omega
    · obtain rfl : j = N.ends.length := by omega
      have HV := Lib.hid (HAL.out HPO.out)
      clear kc0 kc1
      go_wp2_with fail
      go_ret2
      exact ⟨_, by rw [HV.out]; rfl, by rw [HV.out]; exact HOW.out.mono HB2.out.size, HB3.out⟩
theorem miss_all {D : Nat} {rows : List RowT} {N : Net} (ht : tabB D rows = true) (hg : goodB N = true) : missT D rows N = some (misN (outsT D rows N) N.ends.length) := by
  unfold missT
  rw [ht, hg]
  simp only [Bool.and_self, if_true, Int.toNat_natCast]
  have := outsT_len D rows N
  unfold missL misN
  rw [this]

set_option maxRecDepth 100000 in
set_option maxHeartbeats 4000000 in
theorem MissingNodes_any {S T : Nat → Prop} (v vN : Value) (D : Int) (rows : List RowT) (N : Net) (w : World) (h : SlR encR w S v rows) (hN : NetR w T vN N) (hid : N.ids.length ≤ 2097152) :
    Calls Tryz.prog 13 #[.agg #[.int .i64 D, v], vN] w (RetO w (missT D rows N)) := by
  have HR := Lib.hid h
  have HN := Lib.hid hN
  obtain ⟨A, c, rfl, -, -, -⟩ := h
  obtain ⟨ve, vi, vn, rfl, he, -, -⟩ := hN
  obtain ⟨Ae, ce, rfl, -, -, -⟩ := he
  have hb0 : Below w.heap.size w ((w.alloc (.cells #[.int .i64 D, .slice A rows.length c] 35)).alloc (.cells #[.slice Ae N.ends.length ce, vi, vn] 39)) := ((Below.refl _ _).alloc (Nat.le_refl _) _).alloc (by simp) _
  have HB0 := Lib.hid hb0
  clear hb0
  cases ht : tabB D rows with
  | false =>
    have HV : Hid (missT D rows N = none) := Lib.hid (by unfold missT; rw [ht]; rfl)
    have CT := Lib.hid (fun W (hW : Below w.heap.size w W) => IsTable_b _ D rows false W (HR.out.below hW) ht)
    clear ht
    go_enter Tryz.func13, Tryz.ntmps13
    go_wp2_with (go_at_call 38; refine (CT.out _ HB0.out).mono ?_; rintro e w1 ⟨rfl, hb1⟩; have HB1 := Lib.hid (Below.then_ HB0.out hb1); clear hb1)
    go_ret2
    exact ⟨_, by rw [HV.out]; rfl, by rw [HV.out]; exact OwnI.nil, HB1.out⟩
  | true =>
  have CT := Lib.hid (fun W (hW : Below w.heap.size w W) => IsTable_b _ D rows true W (HR.out.below hW) ht)
  have CN := Lib.hid (fun W (hW : Below w.heap.size w W) => IsNetwork_any _ N W (HN.out.below hW) hid)
  cases hg : goodB N with
  | false =>
    have HV : Hid (missT D rows N = none) := Lib.hid (by unfold missT; rw [ht, hg]; rfl)
    rw [hg] at CN
    clear ht hg
    go_enter Tryz.func13, Tryz.ntmps13
    go_wp2_with (first
      | (go_at_call 38; refine (CT.out _ HB0.out).mono ?_; rintro e w1 ⟨rfl, hb1⟩; obtain ⟨-, k1⟩ := box2b hb1; have kc1 := k1.cell; have HB1 := Lib.hid (Below.then_ HB0.out hb1); clear hb1 k1)
      | (go_at_call 39; refine (CN.out _ HB1.out).mono ?_; rintro e w2 ⟨rfl, hb2⟩; have HB2 := Lib.hid (Below.then_ HB1.out hb2); clear hb2))
    go_ret2
    exact ⟨_, by rw [HV.out]; rfl, by rw [HV.out]; exact OwnI.nil, HB2.out⟩
  | true =>
  obtain ⟨d, rfl, hd⟩ := tab_D ht
  have hn40 : N.ends.length ≤ 40 := (good_row hg (good_some hg)).2.2.1
  have HAL := Lib.hid (miss_all (D := d) (rows := rows) (N := N) ht hg)
  have HSN : Hid (∀ j, j < N.ends.length → misN (outsT d rows N) (j + 1) = if giveN d rows N j < 0 then misN (outsT d rows N) j ++ [(j : Int)] else misN (outsT d rows N) j) := Lib.hid fun j hj => by
    rw [misN_succ, show gi (outsT d rows N) j = giveN d rows N j by simp [gi, outsT, hj]]
  have HGV := Lib.hid (fun x W (hW : Below w.heap.size w W) hx => giveV _ _ d rows N x W (HR.out.below hW) (HN.out.below hW) ht hg hid hx)
  rw [hg] at CN
  generalize missT (d : Int) rows N = r at HAL ⊢
  generalize outsT d rows N = xs at HAL HSN
  clear ht hg
  go_enter Tryz.func13, Tryz.ntmps13
  go_wp2_with (first
    | (go_at_call 38; refine (CT.out _ HB0.out).mono ?_; rintro e w1 ⟨rfl, hb1⟩; obtain ⟨k0, k1⟩ := box2b hb1; have kc1 := k1.cell; have HK1 := Lib.hid (And.intro k0 k1); have HB1 := Lib.hid (Below.then_ HB0.out hb1); clear hb1 k0 k1)
    | (go_at_call 39; refine (CN.out _ HB1.out).mono ?_; rintro e wz ⟨rfl, hb2⟩; have HK2 := Lib.hid (HK1.out.1.below hb2); have HK3 := Lib.hid (HK1.out.2.below hb2); have kc2 := HK3.out.cell; have HB2 := Lib.hid (Below.then_ HB1.out hb2); clear hb2 kc1))
  have hzk := HK3.out.lt
  go_loopw [21, 6] (fun x21 x6 wr => ∃ (j : Nat) (Am : Option Addr) (cm : Nat), j ≤ N.ends.length ∧ x21 = .int .i64 j ∧ x6 = .slice Am (misN xs j).length cm ∧ OwnI wr wz.heap.size (.slice Am (misN xs j).length cm) (misN xs j) ∧
      Blk wr w.heap.size 35 #[.int .i64 (d : Nat), .slice A rows.length c] ∧ Blk wr (w.heap.size + 1) 39 #[.slice Ae N.ends.length ce, vi, vn] ∧ Below w.heap.size w wr ∧ wz.heap.size ≤ wr.heap.size) (fun x21 _ _ => N.ends.length - (intOf x21).toNat)
  case atStart => exact ⟨0, none, 0, Nat.zero_le _, rfl, rfl, OwnI.nil, HK2.out, HK3.out, HB2.out, Nat.le_refl _⟩
  case round =>
    obtain ⟨j, Am, cm, hj, rfl, rfl, hown, hk0, hk1, hbel, hz⟩ := hrel
    obtain ⟨wr2, rfl⟩ : ∃ wr2, wr2 = wr := ⟨_, rfl⟩
    have HOW := Lib.hid hown
    have HK0 := Lib.hid hk0
    have HK1' := Lib.hid hk1
    have HB3 := Lib.hid hbel
    have kc0 := hk0.cell
    have kc1 := hk1.cell
    have hml := misN_len xs j
    clear hown hk0 hk1 hbel kc2
    by_cases hlt : j < N.ends.length
    · have HMS := Lib.hid (HSN.out j hlt)
      go_upto_region 8 with (go_at_call 40; refine (HGV.out j _ HB3.out hlt).mono ?_; rintro e w4 ⟨o, ok, rfl, hb4, ho1, ho2⟩)
      have HO1 := Lib.hid ho1
      have HO2 := Lib.hid ho2
      have HB4 := Lib.hid hb4
      have hz4 : wr2.heap.size ≤ w4.heap.size := hb4.size
      clear hb4 ho1 ho2 kc0 kc1
      cases ok with
      | true =>
        have HM1 : Hid (misN xs (j + 1) = misN xs j) := Lib.hid (HMS.out.trans (if_neg (by have := HO1.out rfl; omega)))
        have HB5 := Lib.hid (Below.then_ HB3.out HB4.out)
        have F2 := Lib.hid (HK0.out.below HB4.out)
        have F3 := Lib.hid (HK1'.out.below HB4.out)
        have F1 := Lib.hid (HOW.out.below HB4.out)
        go_wp2_with fail
        go_roundw
        case rel => exact ⟨j + 1, Am, cm, by omega, by go_num, by rw [HM1.out], by rw [HM1.out]; exact F1.out, F2.out, F3.out, HB5.out, by omega⟩
        case measure => simp [intOf]; omega
      | false =>
        have HM1 : Hid (misN xs (j + 1) = misN xs j ++ [(j : Int)]) := Lib.hid (HMS.out.trans (if_pos (by rw [HO2.out rfl]; omega)))
        have hbx : Below w4.heap.size w4 (w4.alloc (.cells #[.int .i64 (j : Nat)] 3)) := (Below.refl _ _).alloc (Nat.le_refl _) _
        have HBX := Lib.hid (HB4.out.trans (hbx.mono hz4))
        have hzx : (w4.alloc (.cells #[.int .i64 (j : Nat)] 3)).heap.size = w4.heap.size + 1 := by simp
        clear hbx
        go_upto_region 10 with (refine wpList_append_int _ rfl (.tmp 33) (.tmp 35) rfl wz.heap.size (.slice Am (misN xs j).length cm) (misN xs j) rfl (HOW.out.below HBX.out) _ (j : Nat) rfl (cell_one _ _ _) (by omega) (by simp; omega) ?_; intro A5 c5 w5 ho5 hg5)
        have hlow := fun g hg => (HOW.out.lt g hg).1
        have hz5 := hg5.size
        have F1 : Hid (OwnI w5 wz.heap.size (.slice A5 (misN xs (j + 1)).length c5) (misN xs (j + 1))) := Lib.hid (by rw [HM1.out, List.length_append]; exact ho5)
        have F2 : Hid (Blk w5 w.heap.size 35 #[.int .i64 (d : Nat), .slice A rows.length c]) := Lib.hid ((hg5.block _ (by omega) (fun e => by have := hlow _ e.symm; omega)).trans (HK0.out.below HBX.out))
        have F3 : Hid (Blk w5 (w.heap.size + 1) 39 #[.slice Ae N.ends.length ce, vi, vn]) := Lib.hid ((hg5.block _ (by omega) (fun e => by have := hlow _ e.symm; omega)).trans (HK1'.out.below HBX.out))
        have F4 : Hid (Below w.heap.size w w5) := Lib.hid ((HB3.out.trans (HBX.out.mono HB3.out.size)).grown hg5 (by have := HB3.out.size; omega) (fun g hg => by have := hlow g hg; omega))
        have hlen : (misN xs (j + 1)).length = (misN xs j).length + 1 := by rw [HM1.out]; simp
        clear ho5 hg5 hlow
        go_wp2_with fail
        go_roundw
        case rel => exact ⟨j + 1, A5, c5, by omega, by go_num, by rw [hlen], F1.out, F2.out, F3.out, F4.out, by omega⟩
        case measure => simp [intOf]; omega
    · obtain rfl : j = N.ends.length := by omega
      clear kc0 kc1
      go_wp2_with fail
      go_ret2
      exact ⟨_, by rw [HAL.out]; rfl, by rw [HAL.out]; exact HOW.out.mono HB2.out.size, HB3.out⟩
end Go.Proofs.YtjoimponfeofkaaGreat
