/- Parts of the proof, joined: Gv2, Gt1, Dpx, Chx, Gt4, Tf2, Tf3, Tf4. -/
import Derived.Test.YtjoimponfeofkaaGreatCGv1
import Derived.Test.YtjoimponfeofkaaGreatCJn31
import Derived.Test.YtjoimponfeofkaaGreatCJn25
import Derived.Test.YtjoimponfeofkaaGreatCJn23
import Derived.Test.YtjoimponfeofkaaGreatCJn21
namespace Go.Proofs.YtjoimponfeofkaaGreat
open Go.RowKit

theorem giveT_mem : ∀ {rows : List RowT} {s : ByteArray} {o : Int}, giveT rows s = some o → ∃ j, j < rows.length ∧ (ga rows j).2 = o
  | [], _, _, h => by simp [giveT] at h
  | r :: rs, s, o, h => by
    simp only [giveT] at h
    split at h
    · exact ⟨0, by simp, by simpa [ga] using h⟩
    · obtain ⟨j, hj, e⟩ := giveT_mem h
      exact ⟨j + 1, by simpa using hj, by simpa [ga] using e⟩
theorem rowB_out {D : Int} {r : RowT} (h : rowB D r = true) : 0 ≤ r.2 ∧ r.2 ≤ 99 := by
  unfold rowB at h
  split at h
  · exact inB_iff.1 ((Bool.and_eq_true _ _).mp h).2
  · cases h
theorem giveN_some {D : Nat} {rows : List RowT} {N : Net} {j : Nat} {o : Int} (ht : tabB D rows = true) (h : giveT rows (vtx N D j) = some o) : giveN D rows N j = o ∧ 0 ≤ o ∧ o ≤ 99 := by
  obtain ⟨i, hi, e⟩ := giveT_mem h
  have := rowB_out ((tabB_iff.1 ht).2.2.1 i hi)
  refine ⟨by unfold giveN; rw [h]; rfl, ?_, ?_⟩ <;> omega
theorem giveN_none {D : Nat} {rows : List RowT} {N : Net} {j : Nat} (h : giveT rows (vtx N D j) = none) : giveN D rows N j = -1 := by unfold giveN; rw [h]; rfl
theorem giveV {S T : Nat → Prop} (v vN : Value) (D : Nat) (rows : List RowT) (N : Net) (x : Nat) (w : World) (h : SlR encR w S v rows) (hN : NetR w T vN N) (ht : tabB D rows = true) (hg : goodB N = true) (hid : N.ids.length ≤ 2097152) (hx : x < N.ends.length) :
    Calls Tryz.prog 40 #[.agg #[.int .i64 (D : Nat), v], vN, .int .i64 (x : Nat)] w (fun e w' => ∃ (o : Int) (ok : Bool), e = .returned (.tuple #[.int .i64 o, .bool ok]) ∧ Below w.heap.size w w' ∧ (ok = true → giveN D rows N x = o ∧ 0 ≤ o ∧ o ≤ 99) ∧ (ok = false → giveN D rows N x = -1)) := by
  refine (give_any v vN D rows N x w h hN ht hg hid hx).mono ?_
  rintro e w' ⟨rfl, hb⟩
  refine ⟨_, _, rfl, hb, fun h => ?_, fun h => ?_⟩
  · obtain ⟨o, ho⟩ := Option.isSome_iff_exists.1 h
    rw [ho]
    exact giveN_some ht ho
  · exact giveN_none (by simpa using h)
theorem run_none {D : Nat} {rows : List RowT} {N : Net} {j : Nat} (ht : tabB D rows = true) (hg : goodB N = true) (hj : j < N.ends.length) (h : giveN D rows N j = -1) : runT D rows N = none := by
  unfold runT
  rw [ht, hg]
  simp only [Bool.and_self, if_true, Int.toNat_natCast]
  rw [if_pos]
  unfold hasB outsT
  simp only [List.contains_iff_mem, List.mem_map, List.mem_range]
  exact ⟨j, hj, h⟩
theorem run_all {D : Nat} {rows : List RowT} {N : Net} (ht : tabB D rows = true) (hg : goodB N = true) (h : ∀ j, j < N.ends.length → 0 ≤ giveN D rows N j) : runT D rows N = some ((List.range N.ends.length).map (giveN D rows N)) := by
  unfold runT
  rw [ht, hg]
  simp only [Bool.and_self, if_true, Int.toNat_natCast]
  rw [if_neg]
  · rfl
  · unfold hasB outsT
    simp only [List.contains_iff_mem, List.mem_map, List.mem_range]
    rintro ⟨j, hj, e⟩
    have := h j hj
    omega

set_option maxRecDepth 100000 in
set_option maxHeartbeats 4000000 in
theorem RunTable_any {S T : Nat → Prop} (v vN : Value) (D : Int) (rows : List RowT) (N : Net) (w : World) (h : SlR encR w S v rows) (hN : NetR w T vN N) (hid : N.ids.length ≤ 2097152) :
    Calls Tryz.prog 22 #[.agg #[.int .i64 D, v], vN] w (RetO w (runT D rows N)) := by
  have HR := Lib.hid h
  have HN := Lib.hid hN
  obtain ⟨A, c, rfl, -, -, -⟩ := h
  obtain ⟨ve, vi, vn, rfl, he, -, -⟩ := hN
  obtain ⟨Ae, ce, rfl, -, -, -⟩ := he
  have hb0 : Below w.heap.size w ((w.alloc (.cells #[.int .i64 D, .slice A rows.length c] 35)).alloc (.cells #[.slice Ae N.ends.length ce, vi, vn] 39)) := ((Below.refl _ _).alloc (Nat.le_refl _) _).alloc (by simp) _
  have HB0 := Lib.hid hb0
  clear hb0
  cases ht : tabB D rows with
  | false =>
    have HV : Hid (runT D rows N = none) := Lib.hid (by unfold runT; rw [ht]; rfl)
    have CT := Lib.hid (fun W (hW : Below w.heap.size w W) => IsTable_b _ D rows false W (HR.out.below hW) ht)
    clear ht
    go_enter Tryz.func22, Tryz.ntmps22
    go_wp2_with (go_at_call 38; refine (CT.out _ HB0.out).mono ?_; rintro e w1 ⟨rfl, hb1⟩; have HB1 := Lib.hid (Below.then_ HB0.out hb1); clear hb1)
    go_ret2
    exact ⟨_, by rw [HV.out]; rfl, by rw [HV.out]; exact OwnI.nil, HB1.out⟩
  | true =>
  have CT := Lib.hid (fun W (hW : Below w.heap.size w W) => IsTable_b _ D rows true W (HR.out.below hW) ht)
  have CN := Lib.hid (fun W (hW : Below w.heap.size w W) => IsNetwork_any _ N W (HN.out.below hW) hid)
  cases hg : goodB N with
  | false =>
    have HV : Hid (runT D rows N = none) := Lib.hid (by unfold runT; rw [ht, hg]; rfl)
    rw [hg] at CN
    clear ht hg
    go_enter Tryz.func22, Tryz.ntmps22
    go_wp2_with (first
      | (go_at_call 38; refine (CT.out _ HB0.out).mono ?_; rintro e w1 ⟨rfl, hb1⟩; obtain ⟨-, k1⟩ := box2b hb1; have kc1 := k1.cell; have HB1 := Lib.hid (Below.then_ HB0.out hb1); clear hb1 k1)
      | (go_at_call 39; refine (CN.out _ HB1.out).mono ?_; rintro e w2 ⟨rfl, hb2⟩; have HB2 := Lib.hid (Below.then_ HB1.out hb2); clear hb2))
    go_ret2
    exact ⟨_, by rw [HV.out]; rfl, by rw [HV.out]; exact OwnI.nil, HB2.out⟩
  | true =>
  obtain ⟨d, rfl, hd⟩ := tab_D ht
  have hn40 : N.ends.length ≤ 40 := (good_row hg (good_some hg)).2.2.1
  have HNO := Lib.hid (fun j (hj : j < N.ends.length) h => run_none (D := d) (rows := rows) (N := N) (j := j) ht hg hj h)
  have HAL := Lib.hid (fun h => run_all (D := d) (rows := rows) (N := N) ht hg h)
  have HGV := Lib.hid (fun x W (hW : Below w.heap.size w W) hx => giveV _ _ d rows N x W (HR.out.below hW) (HN.out.below hW) ht hg hid hx)
  rw [hg] at CN
  generalize runT (d : Int) rows N = r at HNO HAL ⊢
  clear ht hg
  go_enter Tryz.func22, Tryz.ntmps22
  go_wp2_with (first
    | (go_at_call 38; refine (CT.out _ HB0.out).mono ?_; rintro e w1 ⟨rfl, hb1⟩; obtain ⟨k0, k1⟩ := box2b hb1; have kc1 := k1.cell; have HK1 := Lib.hid (And.intro k0 k1); have HB1 := Lib.hid (Below.then_ HB0.out hb1); clear hb1 k0 k1)
    | (go_at_call 39; refine (CN.out _ HB1.out).mono ?_; rintro e wz ⟨rfl, hb2⟩; have HK2 := Lib.hid (HK1.out.1.below hb2); have HK3 := Lib.hid (HK1.out.2.below hb2); have kc2 := HK3.out.cell; have HB2 := Lib.hid (Below.then_ HB1.out hb2); clear hb2 kc1))
  have hzk := HK3.out.lt
  go_loopw [21, 6] (fun x21 x6 wr => ∃ (j : Nat) (Am : Option Addr) (cm : Nat), j ≤ N.ends.length ∧ x21 = .int .i64 j ∧ x6 = .slice Am j cm ∧ OwnI wr wz.heap.size (.slice Am j cm) ((List.range j).map (giveN d rows N)) ∧ (∀ i, i < j → 0 ≤ giveN d rows N i) ∧
      Blk wr w.heap.size 35 #[.int .i64 (d : Nat), .slice A rows.length c] ∧ Blk wr (w.heap.size + 1) 39 #[.slice Ae N.ends.length ce, vi, vn] ∧ Below w.heap.size w wr ∧ wz.heap.size ≤ wr.heap.size) (fun x21 _ _ => N.ends.length - (intOf x21).toNat)
  case atStart => exact ⟨0, none, 0, Nat.zero_le _, rfl, rfl, OwnI.nil, fun i hi => absurd hi (Nat.not_lt_zero _), HK2.out, HK3.out, HB2.out, Nat.le_refl _⟩
  case round =>
    obtain ⟨j, Am, cm, hj, rfl, rfl, hown, hpos, hk0, hk1, hbel, hz⟩ := hrel
    obtain ⟨wr2, rfl⟩ : ∃ wr2, wr2 = wr := ⟨_, rfl⟩
    have HOW := Lib.hid hown
    have HPO := Lib.hid hpos
    have HK0 := Lib.hid hk0
    have HK1' := Lib.hid hk1
    have HB3 := Lib.hid hbel
    have kc0 := hk0.cell
    have kc1 := hk1.cell
    clear hown hpos hk0 hk1 hbel kc2
    by_cases hlt : j < N.ends.length
    · go_upto_region 8 with (go_at_call 40; refine (HGV.out j _ HB3.out hlt).mono ?_; rintro e w4 ⟨o, ok, rfl, hb4, ho1, ho2⟩)
      have HO1 := Lib.hid ho1
      have HO2 := Lib.hid ho2
      have HB4 := Lib.hid hb4
      clear hb4 ho1 ho2 kc0 kc1
      cases ok with
      | false =>
        have HV := Lib.hid (HNO.out j hlt (HO2.out rfl))
        have HB5 := Lib.hid (Below.then_ HB3.out HB4.out)
        go_wp2_with fail
        go_ret2
        exact ⟨_, by rw [HV.out]; rfl, by rw [HV.out]; exact OwnI.nil, HB5.out⟩
      | true =>
        obtain ⟨hgo, ho0, ho9⟩ := HO1.out rfl
        have HGO := Lib.hid hgo
        have hz4 : wr2.heap.size ≤ w4.heap.size := HB4.out.size
        clear hgo
        have hbx : Below w4.heap.size w4 (w4.alloc (.cells #[.int .i64 o] 3)) := (Below.refl _ _).alloc (Nat.le_refl _) _
        have HBX := Lib.hid (HB4.out.trans (hbx.mono hz4))
        have hzx : (w4.alloc (.cells #[.int .i64 o] 3)).heap.size = w4.heap.size + 1 := by simp
        clear hbx
        go_upto_region 11 with (refine wpList_append_int _ rfl (.tmp 33) (.tmp 35) rfl wz.heap.size (.slice Am j cm) ((List.range j).map (giveN d rows N)) rfl (HOW.out.below HBX.out) _ o rfl (cell_one _ _ _) (by simp; omega) (by simp; omega) ?_; intro A5 c5 w5 ho5 hg5)
        have hlow := fun g hg => (HOW.out.lt g hg).1
        have hz5 := hg5.size
        have F1 : Hid (OwnI w5 wz.heap.size (.slice A5 (j + 1) c5) ((List.range (j + 1)).map (giveN d rows N))) := Lib.hid (by
          rw [List.range_succ, List.map_append, List.map_cons, List.map_nil, HGO.out]
          simpa using ho5)
        have F2 : Hid (Blk w5 w.heap.size 35 #[.int .i64 (d : Nat), .slice A rows.length c]) := Lib.hid ((hg5.block _ (by omega) (fun e => by have := hlow _ e.symm; omega)).trans (HK0.out.below HBX.out))
        have F3 : Hid (Blk w5 (w.heap.size + 1) 39 #[.slice Ae N.ends.length ce, vi, vn]) := Lib.hid ((hg5.block _ (by omega) (fun e => by have := hlow _ e.symm; omega)).trans (HK1'.out.below HBX.out))
        have F4 : Hid (Below w.heap.size w w5) := Lib.hid ((HB3.out.trans (HBX.out.mono HB3.out.size)).grown hg5 (by have := HB3.out.size; omega) (fun g hg => by have := hlow g hg; omega))
        have F5 : Hid (∀ i, i < j + 1 → 0 ≤ giveN d rows N i) := Lib.hid fun i hi => by
          rcases Nat.lt_or_ge i j with h2 | h2
          · exact HPO.out i h2
          · obtain rfl : i = j := by omega
            rw [HGO.out]; exact ho0
        clear ho5 hg5 hlow
        go_wp2_with fail
        go_roundw
        case rel => exact ⟨j + 1, A5, c5, by omega, by go_num, by simp, F1.out, F5.out, F2.out, F3.out, F4.out, by omega⟩
        case measure => simp [intOf]; omega
    · obtain rfl : j = N.ends.length := by omega
      have HV := Lib.hid (HAL.out HPO.out)
      clear kc0 kc1
      go_wp2_with fail
      go_ret2
      exact ⟨_, by rw [HV.out]; rfl, by rw [HV.out]; exact HOW.out.mono HB2.out.size, HB3.out⟩
theorem miss_all {D : Nat} {rows : List RowT} {N : Net} (ht : tabB D rows = true) (hg : goodB N = true) : missT D rows N = some (misN (outsT D rows N) N.ends.length) := by
  unfold missT
  rw [ht, hg]
  simp only [Bool.and_self, if_true, Int.toNat_natCast]
  have := outsT_len D rows N
  unfold missL misN
  rw [this]

set_option maxRecDepth 100000 in
set_option maxHeartbeats 4000000 in
theorem MissingNodes_any {S T : Nat → Prop} (v vN : Value) (D : Int) (rows : List RowT) (N : Net) (w : World) (h : SlR encR w S v rows) (hN : NetR w T vN N) (hid : N.ids.length ≤ 2097152) :
    Calls Tryz.prog 13 #[.agg #[.int .i64 D, v], vN] w (RetO w (missT D rows N)) := by
  have HR := Lib.hid h
  have HN := Lib.hid hN
  obtain ⟨A, c, rfl, -, -, -⟩ := h
  obtain ⟨ve, vi, vn, rfl, he, -, -⟩ := hN
  obtain ⟨Ae, ce, rfl, -, -, -⟩ := he
  have hb0 : Below w.heap.size w ((w.alloc (.cells #[.int .i64 D, .slice A rows.length c] 35)).alloc (.cells #[.slice Ae N.ends.length ce, vi, vn] 39)) := ((Below.refl _ _).alloc (Nat.le_refl _) _).alloc (by simp) _
  have HB0 := Lib.hid hb0
  clear hb0
  cases ht : tabB D rows with
  | false =>
    have HV : Hid (missT D rows N = none) := Lib.hid (by unfold missT; rw [ht]; rfl)
    have CT := Lib.hid (fun W (hW : Below w.heap.size w W) => IsTable_b _ D rows false W (HR.out.below hW) ht)
    clear ht
    go_enter Tryz.func13, Tryz.ntmps13
    go_wp2_with (go_at_call 38; refine (CT.out _ HB0.out).mono ?_; rintro e w1 ⟨rfl, hb1⟩; have HB1 := Lib.hid (Below.then_ HB0.out hb1); clear hb1)
    go_ret2
    exact ⟨_, by rw [HV.out]; rfl, by rw [HV.out]; exact OwnI.nil, HB1.out⟩
  | true =>
  have CT := Lib.hid (fun W (hW : Below w.heap.size w W) => IsTable_b _ D rows true W (HR.out.below hW) ht)
  have CN := Lib.hid (fun W (hW : Below w.heap.size w W) => IsNetwork_any _ N W (HN.out.below hW) hid)
  cases hg : goodB N with
  | false =>
    have HV : Hid (missT D rows N = none) := Lib.hid (by unfold missT; rw [ht, hg]; rfl)
    rw [hg] at CN
    clear ht hg
    go_enter Tryz.func13, Tryz.ntmps13
    go_wp2_with (first
      | (go_at_call 38; refine (CT.out _ HB0.out).mono ?_; rintro e w1 ⟨rfl, hb1⟩; obtain ⟨-, k1⟩ := box2b hb1; have kc1 := k1.cell; have HB1 := Lib.hid (Below.then_ HB0.out hb1); clear hb1 k1)
      | (go_at_call 39; refine (CN.out _ HB1.out).mono ?_; rintro e w2 ⟨rfl, hb2⟩; have HB2 := Lib.hid (Below.then_ HB1.out hb2); clear hb2))
    go_ret2
    exact ⟨_, by rw [HV.out]; rfl, by rw [HV.out]; exact OwnI.nil, HB2.out⟩
  | true =>
  obtain ⟨d, rfl, hd⟩ := tab_D ht
  have hn40 : N.ends.length ≤ 40 := (good_row hg (good_some hg)).2.2.1
  have HAL := Lib.hid (miss_all (D := d) (rows := rows) (N := N) ht hg)
  have HSN : Hid (∀ j, j < N.ends.length → misN (outsT d rows N) (j + 1) = if giveN d rows N j < 0 then misN (outsT d rows N) j ++ [(j : Int)] else misN (outsT d rows N) j) := Lib.hid fun j hj => by
    rw [misN_succ, show gi (outsT d rows N) j = giveN d rows N j by simp [gi, outsT, hj]]
  have HGV := Lib.hid (fun x W (hW : Below w.heap.size w W) hx => giveV _ _ d rows N x W (HR.out.below hW) (HN.out.below hW) ht hg hid hx)
  rw [hg] at CN
  generalize missT (d : Int) rows N = r at HAL ⊢
  generalize outsT d rows N = xs at HAL HSN
  clear ht hg
  go_enter Tryz.func13, Tryz.ntmps13
  go_wp2_with (first
    | (go_at_call 38; refine (CT.out _ HB0.out).mono ?_; rintro e w1 ⟨rfl, hb1⟩; obtain ⟨k0, k1⟩ := box2b hb1; have kc1 := k1.cell; have HK1 := Lib.hid (And.intro k0 k1); have HB1 := Lib.hid (Below.then_ HB0.out hb1); clear hb1 k0 k1)
    | (go_at_call 39; refine (CN.out _ HB1.out).mono ?_; rintro e wz ⟨rfl, hb2⟩; have HK2 := Lib.hid (HK1.out.1.below hb2); have HK3 := Lib.hid (HK1.out.2.below hb2); have kc2 := HK3.out.cell; have HB2 := Lib.hid (Below.then_ HB1.out hb2); clear hb2 kc1))
  have hzk := HK3.out.lt
  go_loopw [21, 6] (fun x21 x6 wr => ∃ (j : Nat) (Am : Option Addr) (cm : Nat), j ≤ N.ends.length ∧ x21 = .int .i64 j ∧ x6 = .slice Am (misN xs j).length cm ∧ OwnI wr wz.heap.size (.slice Am (misN xs j).length cm) (misN xs j) ∧
      Blk wr w.heap.size 35 #[.int .i64 (d : Nat), .slice A rows.length c] ∧ Blk wr (w.heap.size + 1) 39 #[.slice Ae N.ends.length ce, vi, vn] ∧ Below w.heap.size w wr ∧ wz.heap.size ≤ wr.heap.size) (fun x21 _ _ => N.ends.length - (intOf x21).toNat)
  case atStart => exact ⟨0, none, 0, Nat.zero_le _, rfl, rfl, OwnI.nil, HK2.out, HK3.out, HB2.out, Nat.le_refl _⟩
  case round =>
    obtain ⟨j, Am, cm, hj, rfl, rfl, hown, hk0, hk1, hbel, hz⟩ := hrel
    obtain ⟨wr2, rfl⟩ : ∃ wr2, wr2 = wr := ⟨_, rfl⟩
    have HOW := Lib.hid hown
    have HK0 := Lib.hid hk0
    have HK1' := Lib.hid hk1
    have HB3 := Lib.hid hbel
    have kc0 := hk0.cell
    have kc1 := hk1.cell
    have hml := misN_len xs j
    clear hown hk0 hk1 hbel kc2
    by_cases hlt : j < N.ends.length
    · have HMS := Lib.hid (HSN.out j hlt)
      go_upto_region 8 with (go_at_call 40; refine (HGV.out j _ HB3.out hlt).mono ?_; rintro e w4 ⟨o, ok, rfl, hb4, ho1, ho2⟩)
      have HO1 := Lib.hid ho1
      have HO2 := Lib.hid ho2
      have HB4 := Lib.hid hb4
      have hz4 : wr2.heap.size ≤ w4.heap.size := hb4.size
      clear hb4 ho1 ho2 kc0 kc1
      cases ok with
      | true =>
        have HM1 : Hid (misN xs (j + 1) = misN xs j) := Lib.hid (HMS.out.trans (if_neg (by have := HO1.out rfl; omega)))
        have HB5 := Lib.hid (Below.then_ HB3.out HB4.out)
        have F2 := Lib.hid (HK0.out.below HB4.out)
        have F3 := Lib.hid (HK1'.out.below HB4.out)
        have F1 := Lib.hid (HOW.out.below HB4.out)
        go_wp2_with fail
        go_roundw
        case rel => exact ⟨j + 1, Am, cm, by omega, by go_num, by rw [HM1.out], by rw [HM1.out]; exact F1.out, F2.out, F3.out, HB5.out, by omega⟩
        case measure => simp [intOf]; omega
      | false =>
        have HM1 : Hid (misN xs (j + 1) = misN xs j ++ [(j : Int)]) := Lib.hid (HMS.out.trans (if_pos (by rw [HO2.out rfl]; omega)))
        have hbx : Below w4.heap.size w4 (w4.alloc (.cells #[.int .i64 (j : Nat)] 3)) := (Below.refl _ _).alloc (Nat.le_refl _) _
        have HBX := Lib.hid (HB4.out.trans (hbx.mono hz4))
        have hzx : (w4.alloc (.cells #[.int .i64 (j : Nat)] 3)).heap.size = w4.heap.size + 1 := by simp
        clear hbx
        go_upto_region 10 with (refine wpList_append_int _ rfl (.tmp 33) (.tmp 35) rfl wz.heap.size (.slice Am (misN xs j).length cm) (misN xs j) rfl (HOW.out.below HBX.out) _ (j : Nat) rfl (cell_one _ _ _) (by omega) (by simp; omega) ?_; intro A5 c5 w5 ho5 hg5)
        have hlow := fun g hg => (HOW.out.lt g hg).1
        have hz5 := hg5.size
        have F1 : Hid (OwnI w5 wz.heap.size (.slice A5 (misN xs (j + 1)).length c5) (misN xs (j + 1))) := Lib.hid (by rw [HM1.out, List.length_append]; exact ho5)
        have F2 : Hid (Blk w5 w.heap.size 35 #[.int .i64 (d : Nat), .slice A rows.length c]) := Lib.hid ((hg5.block _ (by omega) (fun e => by have := hlow _ e.symm; omega)).trans (HK0.out.below HBX.out))
        have F3 : Hid (Blk w5 (w.heap.size + 1) 39 #[.slice Ae N.ends.length ce, vi, vn]) := Lib.hid ((hg5.block _ (by omega) (fun e => by have := hlow _ e.symm; omega)).trans (HK1'.out.below HBX.out))
        have F4 : Hid (Below w.heap.size w w5) := Lib.hid ((HB3.out.trans (HBX.out.mono HB3.out.size)).grown hg5 (by have := HB3.out.size; omega) (fun g hg => by have := hlow g hg; omega))
        have hlen : (misN xs (j + 1)).length = (misN xs j).length + 1 := by rw [HM1.out]; simp
        clear ho5 hg5 hlow
        go_wp2_with fail
        go_roundw
        case rel => exact ⟨j + 1, A5, c5, by omega, by go_num, by rw [hlen], F1.out, F2.out, F3.out, F4.out, by omega⟩
        case measure => simp [intOf]; omega
    · obtain rfl : j = N.ends.length := by omega
      clear kc0 kc1
      go_wp2_with fail
      go_ret2
      exact ⟨_, by rw [HAL.out]; rfl, by rw [HAL.out]; exact HOW.out.mono HB2.out.size, HB3.out⟩
end Go.Proofs.YtjoimponfeofkaaGreat

namespace Go.Proofs.YtjoimponfeofkaaGreat
open Go.RowKit

def outsB (N : Net) (outs : List Int) : Bool := decide (outs.length = N.ends.length) && allB outs 0 99

set_option maxHeartbeats 1000000 in
theorem outputsOk_any {S T : Nat → Prop} (vN vo : Value) (N : Net) (outs : List Int) (w : World) (hN : NetR w S vN N) (ho : IntsR w T vo outs) :
    Calls Tryz.prog 50 #[vN, vo] w (RetV w (.bool (outsB N outs))) := by
  have hbd := ho.bound
  have HO := Lib.hid ho
  obtain ⟨ve, vi, vn, rfl, he, -, -⟩ := hN
  obtain ⟨Ae, ce, rfl, -, hme, -⟩ := he
  unfold maxLen at hme
  obtain ⟨Ao, co, rfl, -, -, -⟩ := ho
  have HB0 := Lib.hid ((Below.refl w.heap.size w).alloc (Nat.le_refl _) (.cells #[.slice Ae N.ends.length ce, vi, vn] 39))
  by_cases hl : outs.length = N.ends.length
  · have HE : Hid (outsB N outs = allB outs 0 99) := Lib.hid (by unfold outsB; simp [hl])
    have e1 : ((outs.length : Int) == (N.ends.length : Int)) = true := by rw [beq_iff_eq]; omega
    generalize outsB N outs = r at HE ⊢
    clear hl
    go_enter Tryz.func50, Tryz.ntmps50
    go_wp2_with (go_at_call 76; refine (allWithin_any _ outs 0 99 _ (HO.out.below HB0.out)).mono ?_; rintro e w1 ⟨rfl, hb1⟩; have HB1 := Lib.hid (Below.then_ HB0.out hb1); clear hb1)
    go_ret
    exact ⟨by rw [HE.out]; rfl, HB1.out⟩
  · have HE : Hid (outsB N outs = false) := Lib.hid (by unfold outsB; simp [hl])
    have e1 : ((outs.length : Int) == (N.ends.length : Int)) = false := by rw [beq_eq_false_iff_ne]; omega
    generalize outsB N outs = r at HE ⊢
    clear hl
    go_enter Tryz.func50, Tryz.ntmps50
    go_wp2_with fail
    go_ret
    exact ⟨by rw [HE.out]; rfl, HB0.out⟩

theorem tofT_no {N : Net} {D : Int} {outs : List Int} (h : goodB N = false ∨ inB D 0 4 = false ∨ outsB N outs = false) : tofT N D outs = none := by
  unfold tofT
  rw [if_neg]
  show ¬ ((goodB N && inB D 0 4 && outsB N outs) = true)
  rcases h with h | h | h <;> simp [h]

set_option maxRecDepth 100000 in
set_option maxHeartbeats 4000000 in
theorem TableOf_no {S T : Nat → Prop} (vN vo : Value) (N : Net) (D : Int) (outs : List Int) (w : World) (hN : NetR w S vN N) (ho : IntsR w T vo outs) (hid : N.ids.length ≤ 2097152) (hb : goodB N = false ∨ inB D 0 4 = false ∨ outsB N outs = false) :
    Calls Tryz.prog 25 #[vN, .int .i64 D, vo] w (RetMt w D (tofT N D outs)) := by
  have HN := Lib.hid hN
  have HO := Lib.hid ho
  have hbd := ho.bound
  obtain ⟨ve, vi, vn, rfl, -, -, -⟩ := hN
  obtain ⟨Ao, co, rfl, -, -, hxo⟩ := ho
  have HXO := Lib.hid hxo
  have hb0 : ∀ o1 o2, Below w.heap.size w ((w.alloc o1).alloc o2) := fun o1 o2 => ((Below.refl _ _).alloc (Nat.le_refl _) _).alloc (by simp) _
  have HB0 := Lib.hid hb0
  clear hb0 hxo
  have CN := Lib.hid (fun W (hW : Below w.heap.size w W) => IsNetwork_any _ N W (HN.out.below hW) hid)
  have CO := Lib.hid (fun W (hW : Below w.heap.size w W) => outputsOk_any _ _ N outs W (HN.out.below hW) (HO.out.below hW))
  obtain ⟨g1, hg1⟩ : ∃ b, b = goodB N := ⟨_, rfl⟩
  obtain ⟨g2, hg2⟩ : ∃ b, b = inB D 0 4 := ⟨_, rfl⟩
  obtain ⟨g3, hg3⟩ : ∃ b, b = outsB N outs := ⟨_, rfl⟩
  rw [← hg1] at CN
  rw [← hg3] at CO
  have CI := Lib.hid (fun W => within_b D 0 4 g2 W hg2.symm)
  have HG1 := Lib.hid hg1
  have HG2 := Lib.hid hg2
  have HG3 := Lib.hid hg3
  clear hg1 hg2 hg3
  have hbad : g1 = false ∨ g2 = false ∨ g3 = false := by rw [HG1.out, HG2.out, HG3.out]; exact hb
  clear hb
  · have HV : Hid (tofT N D outs = none) := Lib.hid (tofT_no (by rw [← HG1.out, ← HG2.out, ← HG3.out]; exact hbad))
    generalize tofT N D outs = r at HV ⊢
    have HBAD := Lib.hid hbad
    clear hbad HG1 HG2 HG3
    cases g1 with
    | false =>
      go_enter Tryz.func25, Tryz.ntmps25
      go_upto_region 2 with (go_at_call 39; refine (CN.out _ (HB0.out _ _)).mono ?_; rintro e w1 ⟨rfl, hb1⟩; obtain ⟨-, k1⟩ := box2b hb1; have HB1 := Lib.hid (Below.then_ (HB0.out _ _) hb1); have HK1 := Lib.hid k1; clear hb1 k1)
      have hc := ((HK1.out.put 0 (.int .i64 0)).put 1 (.slice none 0 0)).cell
      have kc := HK1.out.cell
      have kf := HK1.out.free
      have HB9 := Lib.hid ((HB1.out.setCell (p := ⟨w.heap.size + 1, 0, none⟩) (by simp) (.int .i64 0)).setCell (p := ⟨w.heap.size + 1, 1, none⟩) (by simp) (.slice none 0 0))
      go_wp2_with fail
      exact bodyPost_ret (v := .tuple #[.agg #[.int .i64 0, .slice none 0 0], .bool false]) (by simp [results, Tryz.results25, go_sem, hc]) rfl (RetMt.no HV.out HB9.out)
    | true =>
      cases g2 with
      | false =>
        go_enter Tryz.func25, Tryz.ntmps25
        go_upto_region 2 with (first
          | (go_at_call 39; refine (CN.out _ (HB0.out _ _)).mono ?_; rintro e w1 ⟨rfl, hb1⟩; obtain ⟨-, k1⟩ := box2b hb1; have HB1 := Lib.hid (Below.then_ (HB0.out _ _) hb1); have HK1 := Lib.hid k1; clear hb1 k1)
          | (go_at_call 49; refine (CI.out _).mono ?_; rintro e w' ⟨rfl, rfl⟩))
        have hc := ((HK1.out.put 0 (.int .i64 0)).put 1 (.slice none 0 0)).cell
        have kc := HK1.out.cell
        have kf := HK1.out.free
        have HB9 := Lib.hid ((HB1.out.setCell (p := ⟨w.heap.size + 1, 0, none⟩) (by simp) (.int .i64 0)).setCell (p := ⟨w.heap.size + 1, 1, none⟩) (by simp) (.slice none 0 0))
        go_wp2_with fail
        exact bodyPost_ret (v := .tuple #[.agg #[.int .i64 0, .slice none 0 0], .bool false]) (by simp [results, Tryz.results25, go_sem, hc]) rfl (RetMt.no HV.out HB9.out)
      | true =>
        have h3 : g3 = false := by rcases HBAD.out with h | h | h; cases h; cases h; exact h
        subst h3
        go_enter Tryz.func25, Tryz.ntmps25
        go_upto_region 2 with (first
          | (go_at_call 39; refine (CN.out _ (HB0.out _ _)).mono ?_; rintro e w1 ⟨rfl, hb1⟩; obtain ⟨k0, k1⟩ := box2b hb1; have HB1 := Lib.hid (Below.then_ (HB0.out _ _) hb1); have HK1 := Lib.hid k1; have kd := k0.cell; clear hb1 k1 k0)
          | (go_at_call 49; refine (CI.out _).mono ?_; rintro e w' ⟨rfl, rfl⟩)
          | (go_at_call 50; refine (CO.out _ HB1.out).mono ?_; rintro e w2 ⟨rfl, hb2⟩; have HB2 := Lib.hid (Below.then_ HB1.out hb2); have HK2 := Lib.hid (HK1.out.below hb2); clear hb2 kd))
        have hc := ((HK2.out.put 0 (.int .i64 0)).put 1 (.slice none 0 0)).cell
        have kc := HK2.out.cell
        have kf := HK2.out.free
        have HB9 := Lib.hid ((HB2.out.setCell (p := ⟨w.heap.size + 1, 0, none⟩) (by simp) (.int .i64 0)).setCell (p := ⟨w.heap.size + 1, 1, none⟩) (by simp) (.slice none 0 0))
        go_wp2_with fail
        exact bodyPost_ret (v := .tuple #[.agg #[.int .i64 0, .slice none 0 0], .bool false]) (by simp [results, Tryz.results25, go_sem, hc]) rfl (RetMt.no HV.out HB9.out)

set_option maxRecDepth 100000 in
set_option maxHeartbeats 4000000 in
theorem TableOf_yes {S T : Nat → Prop} (vN vo : Value) (N : Net) (D : Int) (outs : List Int) (w : World) (hN : NetR w S vN N) (ho : IntsR w T vo outs) (hid : N.ids.length ≤ 2097152) (e1 : goodB N = true) (e2 : inB D 0 4 = true) (e3 : outsB N outs = true) :
    Calls Tryz.prog 25 #[vN, .int .i64 D, vo] w (RetMt w D (tofT N D outs)) := by
  have HN := Lib.hid hN
  have HO := Lib.hid ho
  have hbd := ho.bound
  obtain ⟨ve, vi, vn, rfl, -, -, -⟩ := hN
  obtain ⟨Ao, co, rfl, -, -, hxo⟩ := ho
  have HXO := Lib.hid hxo
  have hb0 : ∀ o1 o2, Below w.heap.size w ((w.alloc o1).alloc o2) := fun o1 o2 => ((Below.refl _ _).alloc (Nat.le_refl _) _).alloc (by simp) _
  have HB0 := Lib.hid hb0
  clear hb0 hxo
  have CN := Lib.hid (fun W (hW : Below w.heap.size w W) => IsNetwork_any _ N W (HN.out.below hW) hid)
  have CO := Lib.hid (fun W (hW : Below w.heap.size w W) => outputsOk_any _ _ N outs W (HN.out.below hW) (HO.out.below hW))
  obtain ⟨g1, hg1⟩ : ∃ b, b = goodB N := ⟨_, rfl⟩
  obtain ⟨g2, hg2⟩ : ∃ b, b = inB D 0 4 := ⟨_, rfl⟩
  obtain ⟨g3, hg3⟩ : ∃ b, b = outsB N outs := ⟨_, rfl⟩
  rw [← hg1] at CN
  rw [← hg3] at CO
  have CI := Lib.hid (fun W => within_b D 0 4 g2 W hg2.symm)
  have HG1 := Lib.hid hg1
  have HG2 := Lib.hid hg2
  have HG3 := Lib.hid hg3
  clear hg1 hg2 hg3
  have h1 : g1 = true := HG1.out.trans e1
  have h2 : g2 = true := HG2.out.trans e2
  have h3 : g3 = true := HG3.out.trans e3
  clear e1 e2 e3
  subst h1 h2 h3
  obtain ⟨hD1, hD2⟩ := inB_iff.1 HG2.out.symm
  obtain ⟨d, rfl⟩ : ∃ d : Nat, D = (d : Int) := ⟨D.toNat, by omega⟩
  have hne := good_some HG1.out.symm
  have hn40 : N.ends.length ≤ 40 := (good_row HG1.out.symm hne).2.2.1
  have hol : outs.length = N.ends.length := of_decide_eq_true ((Bool.and_eq_true _ _).mp HG3.out.symm).1
  have HT : Hid (tofT N d outs = ofT N d outs) := Lib.hid (by
    unfold tofT
    rw [if_pos, Int.toNat_natCast]
    show (goodB N && inB d 0 4 && outsB N outs) = true
    rw [← HG1.out, ← HG2.out, ← HG3.out]; rfl)
  have HV := Lib.hid (fun j W (hW : Below w.heap.size w W) hj => ViewText_any _ N j d W (HN.out.below hW) HG1.out.symm hid hj (by omega))
  rw [HT.out]
  rw [hol] at CO HXO ⊢
  have HLO := Lib.hid (fun j (hj : j < N.ends.length) h => ofT_long (N := N) (D := d) (outs := outs) hj h)
  have HFI := Lib.hid (fun h => ofT_fits (N := N) (D := d) (outs := outs) h)
  have HTK := Lib.hid (fun j hj => ofRows_take N d outs (j := j) hj)
  have HRL := Lib.hid (ofRows_len N d outs)
  generalize ofT N d outs = r at HLO HFI ⊢
  generalize ofRows N d outs = rs at HFI HTK HRL
  have HOL := Lib.hid hol
  clear HT hol
  go_enter Tryz.func25, Tryz.ntmps25
  go_wp2_with (first
    | (go_at_call 39; refine (CN.out _ (HB0.out _ _)).mono ?_; rintro e w1 ⟨rfl, hb1⟩; obtain ⟨k0, k1⟩ := box2b hb1; have HB1 := Lib.hid (Below.then_ (HB0.out _ _) hb1); have HK0 := Lib.hid k0; have HK1 := Lib.hid k1; have kd := k0.cell; clear hb1 k1 k0)
    | (go_at_call 49; refine (CI.out _).mono ?_; rintro e w' ⟨rfl, rfl⟩)
    | (go_at_call 50; refine (CO.out _ HB1.out).mono ?_; rintro e wz ⟨rfl, hb2⟩; have HB2 := Lib.hid (Below.then_ HB1.out hb2); have HK2 := Lib.hid (HK0.out.below hb2); have HK3 := Lib.hid (HK1.out.below hb2); clear hb2 kd))
  have hzk := HK3.out.lt
  go_loopw [30, 8] (fun x x8 wr => ∃ (j : Nat) (Aa : Option Addr) (ca : Nat), j ≤ N.ends.length ∧ x = .int .i64 j ∧ x8 = .slice Aa j ca ∧ OwnG encR 76 wr (w.heap.size + 2) (.slice Aa j ca) (rs.take j) ∧ (∀ i, i < j → (ntx N d i).length ≤ 4000) ∧
      Blk wr w.heap.size 39 #[ve, vi, vn] ∧ Blk wr (w.heap.size + 1) 35 #[.int .i64 0, .slice none 0 0] ∧ Below w.heap.size w wr ∧ w.heap.size + 2 ≤ wr.heap.size) (fun x _ _ => N.ends.length - (intOf x).toNat)
  case atStart => exact ⟨0, none, 0, Nat.zero_le _, rfl, rfl, OwnG.nil, fun i hi => absurd hi (Nat.not_lt_zero _), HK2.out, HK3.out, HB2.out, by omega⟩
  case round =>
    obtain ⟨j, Aa, ca, hj, rfl, rfl, hown, hfit, hk0, hk1, hbel, hz2⟩ := hrel
    obtain ⟨wr2, rfl⟩ : ∃ wr2, wr2 = wr := ⟨_, rfl⟩
    have HOW := Lib.hid hown
    have HFT := Lib.hid hfit
    have HK4 := Lib.hid hk0
    have HK5 := Lib.hid hk1
    have HB3 := Lib.hid hbel
    have kd := hk0.cell
    clear hown hfit hk0 hk1 hbel
    by_cases hlt : j < N.ends.length
    · obtain ⟨bo, offo, rfl, -, hco⟩ := HXO.out (by omega)
      have c0 := hco j (by omega)
      have hbo := lt_of_cell c0
      have c1 : wr2.cell? ⟨bo, offo + j, none⟩ = some (.int .i64 (gi outs j)) := (HB3.out.cell (p := ⟨bo, offo + j, none⟩) hbo).trans c0
      have i0 : (0 : Int) ≤ (j : Int) := by omega
      have i1 : (j : Int) < (N.ends.length : Int) := by omega
      have HTJ := Lib.hid (HTK.out j hlt)
      obtain ⟨z, hz⟩ : ∃ z, z = gi outs j := ⟨_, rfl⟩
      obtain ⟨tv, htv⟩ : ∃ tv, tv = vtx N d j := ⟨_, rfl⟩
      obtain ⟨okb, hok⟩ : ∃ b, b = decide ((ntx N d j).length ≤ 4000) := ⟨_, rfl⟩
      have HV1 := Lib.hid (HV.out j wr2 HB3.out hlt)
      rw [← htv, ← hok] at HV1
      rw [← hz] at c1 HTJ
      rw [← htv] at HTJ
      have HOK := Lib.hid hok
      clear hco c0 hz htv hok
      go_upto_region 8 with (go_at_call 51; refine HV1.out.mono ?_; rintro e w4 ⟨rfl, hb4⟩; have HB4 := Lib.hid hb4; clear hb4)
      have hz4 : wr2.heap.size ≤ w4.heap.size := HB4.out.size
      clear kd c1
      cases okb with
      | false =>
        have HVN := Lib.hid (HLO.out j hlt (by have := of_decide_eq_false HOK.out.symm; omega))
        have HK6 := Lib.hid (HK5.out.below HB4.out)
        have hc := ((HK6.out.put 0 (.int .i64 0)).put 1 (.slice none 0 0)).cell
        have kc := HK6.out.cell
        have kf := HK6.out.free
        have HB9 := Lib.hid (((Below.then_ HB3.out HB4.out).setCell (p := ⟨w.heap.size + 1, 0, none⟩) (by simp) (.int .i64 0)).setCell (p := ⟨w.heap.size + 1, 1, none⟩) (by simp) (.slice none 0 0))
        go_wp2_with fail
        exact bodyPost_ret (v := .tuple #[.agg #[.int .i64 0, .slice none 0 0], .bool false]) (by simp [results, Tryz.results25, go_sem, hc]) rfl (RetMt.no HVN.out HB9.out)
      | true =>
        have HFJ : Hid (∀ i, i < j + 1 → (ntx N d i).length ≤ 4000) := Lib.hid fun i hi => by
          rcases Nat.lt_or_ge i j with h2 | h2
          · exact HFT.out i h2
          · obtain rfl : i = j := by omega
            exact of_decide_eq_true HOK.out.symm
        have hbx : Below w4.heap.size w4 (w4.alloc (.cells #[.string tv, .int .i64 z] 76)) := (Below.refl _ _).alloc (Nat.le_refl _) _
        have HBX := Lib.hid (HB4.out.trans (hbx.mono hz4))
        have hzx : (w4.alloc (.cells #[.string tv, .int .i64 z] 76)).heap.size = w4.heap.size + 1 := by simp
        have hrl : (rs.take j).length = j := by rw [List.length_take, HRL.out]; omega
        have HRJ := Lib.hid hrl
        clear hbx hrl
        go_upto_region 11 with (refine wpList_append_G rowElem (S := fun _ => True) _ rfl (.tmp 45) (.tmp 49) rfl (w.heap.size + 2) (.slice Aa j ca) (rs.take j) rfl (HOW.out.below HBX.out) _ [(tv, z)] rfl (SlR.one (E := encR) (x := (tv, z)) (Blk.newAt rfl)) (by rw [HRJ.out]; simp; omega) (by simp; omega) ?_; intro A5 c5 w5 ho5 hg5 hl5)
        have hlow := fun g hg => (HOW.out.lt g hg).1
        have hz5 := hg5.size
        have F1 : Hid (OwnG encR 76 w5 (w.heap.size + 2) (.slice A5 (j + 1) c5) (rs.take (j + 1))) := Lib.hid (by
          rw [HTJ.out]
          have := ho5
          rw [HRJ.out] at this
          exact this)
        have F2 : Hid (Blk w5 w.heap.size 39 #[ve, vi, vn]) := Lib.hid ((hg5.block _ (by omega) (fun e => by have := hlow _ e.symm; omega)).trans (HK4.out.below HBX.out))
        have F3 : Hid (Blk w5 (w.heap.size + 1) 35 #[.int .i64 0, .slice none 0 0]) := Lib.hid ((hg5.block _ (by omega) (fun e => by have := hlow _ e.symm; omega)).trans (HK5.out.below HBX.out))
        have F4 : Hid (Below w.heap.size w w5) := Lib.hid ((HB3.out.trans (HBX.out.mono HB3.out.size)).grown hg5 (by omega) (fun g hg => by have := hlow g hg; omega))
        clear ho5 hg5 hl5 hlow
        go_wp2_with fail
        go_roundw
        case rel => exact ⟨j + 1, A5, c5, by omega, by go_num, by rw [HRL.out, Nat.min_eq_left (Nat.le_of_lt hlt)], F1.out, HFJ.out, F2.out, F3.out, F4.out, by omega⟩
        case measure => simp [intOf]; omega
    · obtain rfl : j = N.ends.length := by omega
      have HMT := Lib.hid (HFI.out HFT.out)
      have HOW2 : Hid (OwnG encR 76 wr2 (w.heap.size + 2) (.slice Aa N.ends.length ca) rs) := Lib.hid (by
        have := HOW.out
        rwa [List.take_of_length_le (Nat.le_of_eq HRL.out)] at this)
      have HCM : Hid (Calls Tryz.prog 52 #[.int .i64 (d : Int), .slice Aa N.ends.length ca] wr2 (RetMt wr2 d r)) := Lib.hid (by
        rw [HMT.out]
        obtain ⟨g, cap, hv, -⟩ := HOW2.out.addr (by rw [HRL.out]; exact hne)
        rw [HRL.out] at hv
        rw [hv]
        exact madeTable_some d (w.heap.size + 2) g N.ends.length cap _ wr2 (by rw [← hv]; exact HOW2.out) (by rw [HRL.out]; omega))
      clear kd
      go_wp2_with fail
      refine HCM.out.mono ?_
      intro e w5 hmt
      have HB5 := Lib.hid (Below.then_ HB3.out hmt.1)
      have HK6 := Lib.hid (HK5.out.below hmt.1)
      have kc := HK6.out.cell
      have kf := HK6.out.free
      obtain ⟨-, hres⟩ := hmt
      clear HLO HFI HMT HCM
      cases r with
      | none =>
        obtain rfl : e = .returned (.tuple #[.agg #[.int .i64 0, .slice none 0 0], .bool false]) := hres
        have hc1 := ((HK6.out.put 0 (.int .i64 0)).put 1 (.slice none 0 0)).cell
        go_wp2_with fail
        refine bodyPost_ret (v := .tuple #[.agg #[.int .i64 0, .slice none 0 0], .bool false]) (by simp [results, Tryz.results25, go_sem, hc1]) rfl (RetMt.no rfl ((HB5.out.setCell (by simp) _).setCell (by simp) _))
      | some m =>
        obtain ⟨A6, c6, rfl, ho6⟩ := hres
        have HO6 := Lib.hid ho6
        have hc1 := ((HK6.out.put 0 (.int .i64 (d : Int))).put 1 (.slice A6 m.length c6)).cell
        clear ho6
        go_wp2_with fail
        refine bodyPost_ret (v := .tuple #[.agg #[.int .i64 (d : Int), .slice A6 m.length c6], .bool true]) (by simp [results, Tryz.results25, go_sem, hc1]) rfl (RetMt.yes rfl rfl ((HB5.out.setCell (by simp) _).setCell (by simp) _) ((HO6.out.mono (by omega)).keepB fun b hb => by have := HO6.out.lt b hb; rw [Below.heap_setCell _ _ _ _ (by simp; omega), Below.heap_setCell _ _ _ _ (by simp; omega)]))

theorem TableOf_any {S T : Nat → Prop} (vN vo : Value) (N : Net) (D : Int) (outs : List Int) (w : World) (hN : NetR w S vN N) (ho : IntsR w T vo outs) (hid : N.ids.length ≤ 2097152) :
    Calls Tryz.prog 25 #[vN, .int .i64 D, vo] w (RetMt w D (tofT N D outs)) := by
  cases e1 : goodB N with
  | false => exact TableOf_no vN vo N D outs w hN ho hid (.inl e1)
  | true =>
  cases e2 : inB D 0 4 with
  | false => exact TableOf_no vN vo N D outs w hN ho hid (.inr (.inl e2))
  | true =>
  cases e3 : outsB N outs with
  | false => exact TableOf_no vN vo N D outs w hN ho hid (.inr (.inr e3))
  | true => exact TableOf_yes vN vo N D outs w hN ho hid e1 e2 e3
end Go.Proofs.YtjoimponfeofkaaGreat

namespace Go.Proofs.YtjoimponfeofkaaGreat

theorem run_inv {D : Int} {rows : List RowT} {N : Net} {outs : List Int} (h : runT D rows N = some outs) : tabB D rows = true ∧ goodB N = true ∧ outsB N outs = true := by
  cases ht : tabB D rows with
  | false => unfold runT at h; rw [ht] at h; simp at h
  | true =>
  cases hg : goodB N with
  | false => unfold runT at h; rw [ht, hg] at h; simp at h
  | true =>
  refine ⟨rfl, rfl, ?_⟩
  obtain ⟨d, rfl, hd⟩ := tab_D ht
  unfold runT at h
  rw [ht, hg] at h
  simp only [Bool.and_self, if_true, Int.toNat_natCast] at h
  split at h
  · cases h
  · rename_i hn
    obtain rfl := Option.some.inj h
    unfold outsB
    rw [outsT_len]
    simp only [decide_true, Bool.true_and]
    unfold allB outsT
    rw [List.all_eq_true]
    intro x hx
    obtain ⟨j, hj, rfl⟩ := List.mem_map.1 hx
    cases hgv : giveT rows (vtx N d j) with
    | none =>
      exfalso
      apply hn
      unfold hasB outsT
      simp only [List.contains_iff_mem, List.mem_map]
      exact ⟨j, hj, giveN_none hgv⟩
    | some o =>
      obtain ⟨e, h0, h9⟩ := giveN_some ht hgv
      rw [e]
      exact inB_iff.2 ⟨h0, h9⟩
theorem outsB_len {N : Net} {outs : List Int} (h : outsB N outs = true) : outs.length = N.ends.length := of_decide_eq_true ((Bool.and_eq_true _ _).mp h).1
theorem tofT_run {D : Int} {rows : List RowT} {N : Net} {outs : List Int} (h : runT D rows N = some outs) (k : Int) : tofT N k outs = if inB k 0 4 = true then ofT N k.toNat outs else none := by
  obtain ⟨-, h2, h3⟩ := run_inv h
  unfold tofT
  show (if (goodB N && inB k 0 4 && outsB N outs) = true then _ else _) = _
  rw [h2, h3]
  simp
/-- the answer of DeepenOn -/
noncomputable def deepT (D : Int) (rows : List RowT) (N : Net) (k : Int) : Option (List RowT) := (runT D rows N).bind fun outs => if inB k D 4 = true then ofT N k.toNat outs else none
theorem deepT_tof {D : Int} {rows : List RowT} {N : Net} {outs : List Int} {k : Int} (h : runT D rows N = some outs) : deepT D rows N k = if k < D then none else tofT N k outs := by
  unfold deepT
  rw [h]
  show (if inB k D 4 = true then _ else _) = _
  rw [tofT_run h]
  have hD := (inB_iff.1 (tabB_iff.1 (run_inv h).1).1).1
  by_cases hk : k < D
  · rw [if_pos hk, if_neg (by rw [inB_iff]; omega)]
  · rw [if_neg hk]
    by_cases h4 : k ≤ 4
    · rw [if_pos (inB_iff.2 ⟨by omega, h4⟩), if_pos (inB_iff.2 ⟨by omega, h4⟩)]
    · rw [if_neg (by rw [inB_iff]; omega), if_neg (by rw [inB_iff]; omega)]
/-- the answer of ChainTables -/
noncomputable def chainT (D : Int) (rows : List RowT) (D' : Int) (rows' : List RowT) (N : Net) : Option (List RowT) :=
  (runT D rows N).bind fun first => if (tabB D' rows' && decide (D + D' ≤ 4) && allB first 0 9) = true then (runT D' rows' ⟨N.ends, N.ids, first⟩).bind fun sec => ofT N (D + D').toNat sec else none
theorem madeT_len (k : Int) (rows : List RowT) : ((madeT k rows).getD []).length ≤ 60 := by
  unfold madeT
  split
  · rename_i h
    exact (tabB_iff.1 h).2.1
  · simp
theorem ofT_len (N : Net) (D : Nat) (outs : List Int) : ((ofT N D outs).getD []).length ≤ 4096 := by
  unfold ofT
  split
  · have := madeT_len D (ofRows N D outs); omega
  · simp
theorem tofT_len (N : Net) (D : Int) (outs : List Int) : ((tofT N D outs).getD []).length ≤ 4096 := by
  unfold tofT
  split
  · exact ofT_len N _ outs
  · simp
theorem deepT_len (D : Int) (rows : List RowT) (N : Net) (k : Int) : ((deepT D rows N k).getD []).length ≤ 4096 := by
  unfold deepT
  cases runT D rows N with
  | none => simp
  | some outs =>
    show ((if inB k D 4 = true then ofT N k.toNat outs else none).getD []).length ≤ 4096
    split
    · exact ofT_len N _ outs
    · simp
theorem chainT_len (D : Int) (rows : List RowT) (D' : Int) (rows' : List RowT) (N : Net) : ((chainT D rows D' rows' N).getD []).length ≤ 4096 := by
  unfold chainT
  cases runT D rows N with
  | none => simp
  | some first =>
    show ((if _ then (runT D' rows' ⟨N.ends, N.ids, first⟩).bind fun sec => ofT N (D + D').toNat sec else none).getD []).length ≤ 4096
    split
    · cases runT D' rows' ⟨N.ends, N.ids, first⟩ with
      | none => simp
      | some sec => exact ofT_len N _ sec
    · simp
end Go.Proofs.YtjoimponfeofkaaGreat

namespace Go.Proofs.YtjoimponfeofkaaGreat
open Go.RowKit

theorem inpB_all {N : Net} {first : List Int} (hg : goodB N = true) (hl : first.length = N.ends.length) : inpB N first = allB first 0 9 := by
  unfold inpB
  rw [hg, hl]
  simp
theorem chain_no {D D' : Int} {rows rows' : List RowT} {N : Net} (h : tabB D' rows' = false ∨ runT D rows N = none ∨ (∃ first, runT D rows N = some first ∧ allB first 0 9 = false) ∨ (∃ first, runT D rows N = some first ∧ runT D' rows' ⟨N.ends, N.ids, first⟩ = none)) : chainT D rows D' rows' N = none := by
  unfold chainT
  rcases h with h | h | ⟨first, h1, h2⟩ | ⟨first, h1, h2⟩
  · cases hr : runT D rows N with
    | none => rfl
    | some first => show (if _ then _ else _) = _; rw [h]; simp
  · rw [h]; rfl
  · rw [h1]; show (if _ then _ else _) = _; rw [h2]; simp
  · rw [h1]; show (if _ then _ else _) = _; rw [h2]; simp
theorem chain_deep {D D' : Int} {rows rows' : List RowT} {N : Net} (h : 4 < D + D') : chainT D rows D' rows' N = none := by
  unfold chainT
  cases hr : runT D rows N with
  | none => rfl
  | some first =>
    show (if _ then _ else _) = _
    have : decide (D + D' ≤ 4) = false := decide_eq_false (by omega)
    rw [this]; simp
theorem chain_run {D D' : Int} {rows rows' : List RowT} {N : Net} {first sec : List Int} (h1 : runT D rows N = some first) (h2 : runT D' rows' ⟨N.ends, N.ids, first⟩ = some sec) (ha : allB first 0 9 = true) :
    chainT D rows D' rows' N = if D + D' ≤ 4 then ofT N (D + D').toNat sec else none := by
  unfold chainT
  rw [h1]
  show (if _ then _ else _) = _
  rw [(run_inv h2).1, ha, h2]
  simp
theorem chain_tof {D D' : Int} {rows rows' : List RowT} {N : Net} {first sec : List Int} (h1 : runT D rows N = some first) (h2 : runT D' rows' ⟨N.ends, N.ids, first⟩ = some sec) (ha : allB first 0 9 = true) :
    chainT D rows D' rows' N = tofT N (D + D') sec := by
  rw [chain_run h1 h2 ha]
  obtain ⟨k1, k2, -⟩ := run_inv h1
  obtain ⟨k3, -, k4⟩ := run_inv h2
  have hD := (inB_iff.1 (tabB_iff.1 k1).1).1
  have hD' := (inB_iff.1 (tabB_iff.1 k3).1).1
  have k5 : outsB N sec = true := k4
  unfold tofT
  show _ = (if (goodB N && inB (D + D') 0 4 && outsB N sec) = true then _ else _)
  rw [k2, k5]
  by_cases h4 : D + D' ≤ 4
  · rw [if_pos h4, inB_iff.2 ⟨by omega, h4⟩]; simp
  · rw [if_neg h4]
    have : inB (D + D') 0 4 = false := by rw [← Bool.not_eq_true, inB_iff]; omega
    rw [this]; simp
/-- a call that gives a list, its answer's shape named -/
theorem normO {P : Program} {f : FuncId} {args : Array Value} {C : World → Prop} {outs : List Int} (h : Hid (∀ W, C W → Calls P f args W (RetO W (some outs)))) :
    Hid (∀ W, C W → Calls P f args W fun e w' => ∃ Ao co, e = .returned (.tuple #[.slice Ao outs.length co, .bool true]) ∧ OwnI w' W.heap.size (.slice Ao outs.length co) outs ∧ Below W.heap.size W w') :=
  Lib.hid fun W hW => (h.out W hW).mono fun e w' ⟨vo, he, ho, hb⟩ => by
    obtain ⟨Ao, co, rfl⟩ := ho.shape
    exact ⟨Ao, co, he, ho, hb⟩
/-- a network with other inputs, read -/
theorem netWith {W : World} {S T : Nat → Prop} {ve vi vn v : Value} {N : Net} {xs : List Int} (h : NetR W S (.agg #[ve, vi, vn]) N) (hx : IntsR W T v xs) : NetR W (fun _ => True) (.agg #[ve, vi, v]) ⟨N.ends, N.ids, xs⟩ := by
  obtain ⟨ve', vi', vn', he, h1, h2, h3⟩ := h
  simp only [Value.agg.injEq, Array.mk.injEq, List.cons.injEq, and_true] at he
  obtain ⟨rfl, rfl, rfl⟩ := he
  exact ⟨_, _, _, rfl, h1.weak fun _ _ => trivial, h2.weak fun _ _ => trivial, hx.weak fun _ _ => trivial⟩
end Go.Proofs.YtjoimponfeofkaaGreat

namespace Go.Proofs.YtjoimponfeofkaaGreat
open Go.RowKit

set_option maxRecDepth 100000 in
set_option maxHeartbeats 4000000 in
theorem ChainTables_any {S S' T : Nat → Prop} (va vb vN : Value) (D : Int) (rows : List RowT) (D' : Int) (rows' : List RowT) (N : Net) (w : World) (ha : SlR encR w S va rows) (hb : SlR encR w S' vb rows') (hN : NetR w T vN N) (hid : N.ids.length ≤ 2097152) :
    Calls Tryz.prog 30 #[.agg #[.int .i64 D, va], .agg #[.int .i64 D', vb], vN] w (RetMt w (D + D') (chainT D rows D' rows' N)) := by
  have HRA := Lib.hid ha
  have HRB := Lib.hid hb
  have HN := Lib.hid hN
  obtain ⟨A, c, rfl, -, -, -⟩ := ha
  obtain ⟨A', c', rfl, -, -, -⟩ := hb
  obtain ⟨ve, vi, vn, rfl, -, -, -⟩ := hN
  have hz0 : ∀ o1 o2 o3, (((w.alloc o1).alloc o2).alloc o3).heap.size = w.heap.size + 3 := fun _ _ _ => by simp
  have HB0 : Hid (Below w.heap.size w ((((w.alloc (.cells #[.int .i64 D, .slice A rows.length c] 35)).alloc (.cells #[.int .i64 D', .slice A' rows'.length c'] 35)).alloc (.cells #[ve, vi, vn] 39)).alloc (.cells #[.int .i64 0, .slice none 0 0] 35))) := Lib.hid ((((((Below.refl w.heap.size w).alloc (Nat.le_refl _) _).alloc (by simp) _).alloc (by simp; omega) _).alloc (by rw [hz0]; omega) _))
  have HK0 : Hid (Blk ((((w.alloc (.cells #[.int .i64 D, .slice A rows.length c] 35)).alloc (.cells #[.int .i64 D', .slice A' rows'.length c'] 35)).alloc (.cells #[ve, vi, vn] 39)).alloc (.cells #[.int .i64 0, .slice none 0 0] 35)) w.heap.size 35 #[.int .i64 D, .slice A rows.length c]) := Lib.hid ((((Blk.new _ _ _).alloc _).alloc _).alloc _)
  have HK1 : Hid (Blk ((((w.alloc (.cells #[.int .i64 D, .slice A rows.length c] 35)).alloc (.cells #[.int .i64 D', .slice A' rows'.length c'] 35)).alloc (.cells #[ve, vi, vn] 39)).alloc (.cells #[.int .i64 0, .slice none 0 0] 35)) (w.heap.size + 1) 35 #[.int .i64 D', .slice A' rows'.length c']) := Lib.hid (by
    have := ((Blk.new (w.alloc (.cells #[.int .i64 D, .slice A rows.length c] 35)) 35 #[.int .i64 D', .slice A' rows'.length c']).alloc (.cells #[ve, vi, vn] 39)).alloc (.cells #[.int .i64 0, .slice none 0 0] 35)
    simpa using this)
  have HK2 : Hid (Blk ((((w.alloc (.cells #[.int .i64 D, .slice A rows.length c] 35)).alloc (.cells #[.int .i64 D', .slice A' rows'.length c'] 35)).alloc (.cells #[ve, vi, vn] 39)).alloc (.cells #[.int .i64 0, .slice none 0 0] 35)) (w.heap.size + 2) 39 #[ve, vi, vn]) := Lib.hid (by
    have := (Blk.new ((w.alloc (.cells #[.int .i64 D, .slice A rows.length c] 35)).alloc (.cells #[.int .i64 D', .slice A' rows'.length c'] 35)) 39 #[ve, vi, vn]).alloc (.cells #[.int .i64 0, .slice none 0 0] 35)
    simpa using this)
  have HK3 : Hid (Blk ((((w.alloc (.cells #[.int .i64 D, .slice A rows.length c] 35)).alloc (.cells #[.int .i64 D', .slice A' rows'.length c'] 35)).alloc (.cells #[ve, vi, vn] 39)).alloc (.cells #[.int .i64 0, .slice none 0 0] 35)) (w.heap.size + 3) 35 #[.int .i64 0, .slice none 0 0]) := Lib.hid (by
    have := Blk.new (((w.alloc (.cells #[.int .i64 D, .slice A rows.length c] 35)).alloc (.cells #[.int .i64 D', .slice A' rows'.length c'] 35)).alloc (.cells #[ve, vi, vn] 39)) 35 #[.int .i64 0, .slice none 0 0]
    simpa using this)
  clear hz0
  go_enter Tryz.func30, Tryz.ntmps30
  go_wp2_with fail
  generalize (((w.alloc (.cells #[.int .i64 D, .slice A rows.length c] 35)).alloc (.cells #[.int .i64 D', .slice A' rows'.length c'] 35)).alloc (.cells #[ve, vi, vn] 39)).alloc (.cells #[.int .i64 0, .slice none 0 0] 35) = wa at *
  have ka0 := HK0.out.cell
  have ka1 := HK1.out.cell
  have ka2 := HK2.out.cell
  have hltz : w.heap.size + 3 < wa.heap.size := HK3.out.lt
  have CR := Lib.hid (fun W (hW : Below w.heap.size w W) => RunTable_any _ _ D rows N W (HRA.out.below hW) (HN.out.below hW) hid)
  cases ht' : tabB D' rows' with
  | false =>
    have HV : Hid (chainT D rows D' rows' N = none) := Lib.hid (chain_no (.inl ht'))
    have CT := Lib.hid (fun W (hW : Below w.heap.size w W) => IsTable_b _ D' rows' false W (HRB.out.below hW) ht')
    clear ht'
    go_upto_region 2 with (go_at_call 38; refine (CT.out _ HB0.out).mono ?_; rintro e w1 ⟨rfl, hb1⟩; have HB1 := Lib.hid hb1; clear hb1)
    have HKr := Lib.hid (HK3.out.below HB1.out)
    have hc := ((HKr.out.put 0 (.int .i64 0)).put 1 (.slice none 0 0)).cell
    have kc := HKr.out.cell
    have kf := HKr.out.free
    have HB9 := Lib.hid (((HB0.out.trans (HB1.out.mono HB0.out.size)).setCell (p := ⟨w.heap.size + 3, 0, none⟩) (by simp) (.int .i64 0)).setCell (p := ⟨w.heap.size + 3, 1, none⟩) (by simp) (.slice none 0 0))
    clear ka0 ka1 ka2
    go_wp2_with fail
    exact bodyPost_ret (v := .tuple #[.agg #[.int .i64 0, .slice none 0 0], .bool false]) (by simp [results, Tryz.results30, go_sem, hc]) rfl (RetMt.no HV.out HB9.out)
  | true =>
  have CT := Lib.hid (fun W (hW : Below w.heap.size w W) => IsTable_b _ D' rows' true W (HRB.out.below hW) ht')
  go_upto_region 3 with (go_at_call 38; refine (CT.out _ HB0.out).mono ?_; rintro e w1 ⟨rfl, hb1⟩; have HB1 := Lib.hid hb1; clear hb1)
  have kb10 := (HK0.out.below HB1.out).cell
  have kb11 := (HK1.out.below HB1.out).cell
  have kb12 := (HK2.out.below HB1.out).cell
  clear ka0 ka1 ka2
  cases hr : runT D rows N with
  | none =>
    have HV : Hid (chainT D rows D' rows' N = none) := Lib.hid (chain_no (.inr (.inl hr)))
    rw [hr] at CR
    clear ht' hr
    go_upto_region 5 with (go_at_call 22; refine (CR.out _ (HB0.out.trans (HB1.out.mono HB0.out.size))).mono ?_; rintro e w2 ⟨vo, rfl, -, hb2⟩; have HB2 := Lib.hid (Below.then_ HB1.out hb2); clear hb2)
    have HKr := Lib.hid (HK3.out.below HB2.out)
    have hc := ((HKr.out.put 0 (.int .i64 0)).put 1 (.slice none 0 0)).cell
    have kc := HKr.out.cell
    have kf := HKr.out.free
    have HB9 := Lib.hid (((HB0.out.trans (HB2.out.mono HB0.out.size)).setCell (p := ⟨w.heap.size + 3, 0, none⟩) (by simp) (.int .i64 0)).setCell (p := ⟨w.heap.size + 3, 1, none⟩) (by simp) (.slice none 0 0))
    clear kb10 kb11 kb12
    go_wp2_with fail
    exact bodyPost_ret (v := .tuple #[.agg #[.int .i64 0, .slice none 0 0], .bool false]) (by simp [results, Tryz.results30, go_sem, hc]) rfl (RetMt.no HV.out HB9.out)
  | some first =>
  obtain ⟨-, hg, hob⟩ := run_inv hr
  have hfl := Lib.hid (outsB_len hob)
  have hnl := (inB_iff.1 (goodB_iff.1 hg).1).2
  rw [hr] at CR
  have CQ := normO CR
  clear CR
  go_upto_region 6 with (go_at_call 22; refine (CQ.out _ (HB0.out.trans (HB1.out.mono HB0.out.size))).mono ?_; rintro e w2 ⟨A2, c2, rfl, ho2, hb2⟩; have HO2 := Lib.hid ho2; have HB2 := Lib.hid (Below.then_ HB1.out hb2); clear hb2 ho2)
  clear kb10 kb11 kb12
  have kb20 := (HK0.out.below HB2.out).cell
  have kb21 := (HK1.out.below HB2.out).cell
  have kb22 := (HK2.out.below HB2.out).cell
  have CW := Lib.hid (WithInputs_any _ _ N first w2 (HN.out.below (HB0.out.trans (HB2.out.mono HB0.out.size))) HO2.out.ints hid)
  cases hi : inpB N first with
  | false =>
    have HV : Hid (chainT D rows D' rows' N = none) := Lib.hid (chain_no (.inr (.inr (.inl ⟨first, hr, by rw [← inpB_all hg hfl.out]; exact hi⟩))))
    clear ht' hr hg hob
    go_upto_region 8 with (go_at_call 56; refine CW.out.mono ?_; rintro e w3 ⟨hb3, he⟩; simp only [hi, Bool.false_eq_true, if_false, zeroNt] at he; subst he; have HB3 := Lib.hid (Below.then_ HB2.out hb3); clear hb3 hi)
    have HKr := Lib.hid (HK3.out.below (HB3.out.alloc HB3.out.size (.cells #[.slice none 0 0, .slice none 0 0, .slice none 0 0] 39)))
    have hc := ((HKr.out.put 0 (.int .i64 0)).put 1 (.slice none 0 0)).cell
    have kc := HKr.out.cell
    have kf := HKr.out.free
    have HB9 := Lib.hid (((HB0.out.trans ((HB3.out.alloc HB3.out.size (.cells #[.slice none 0 0, .slice none 0 0, .slice none 0 0] 39)).mono HB0.out.size)).setCell (p := ⟨w.heap.size + 3, 0, none⟩) (by simp) (.int .i64 0)).setCell (p := ⟨w.heap.size + 3, 1, none⟩) (by simp) (.slice none 0 0))
    clear kb20 kb21 kb22
    go_wp2_with fail
    exact bodyPost_ret (v := .tuple #[.agg #[.int .i64 0, .slice none 0 0], .bool false]) (by simp [results, Tryz.results30, go_sem, hc]) rfl (RetMt.no HV.out HB9.out)
  | true =>
  have CR2 := Lib.hid (fun v3 W B (hW : Below w.heap.size w W) (h3 : OwnNt W B v3 ⟨N.ends, N.ids, first⟩) => RunTable_any _ v3 D' rows' ⟨N.ends, N.ids, first⟩ W (HRB.out.below hW) (h3.net (S := fun b => B ≤ b) (fun b h _ => h)) hid)
  go_upto_region 9 with (go_at_call 56; refine CW.out.mono ?_; rintro e w3 ⟨hb3, he⟩; simp only [hi, if_true] at he; obtain ⟨v3, rfl, ho3⟩ := he; obtain ⟨E0, d0, E1, d1, E2, d2, rfl⟩ := ho3.parts; have HO3 := Lib.hid ho3; have HB3 := Lib.hid (Below.then_ HB2.out hb3); clear hb3 ho3)
  clear kb20 kb21 kb22
  have HBX := Lib.hid (HB3.out.alloc HB3.out.size (.cells #[.slice E0 N.ends.length d0, .slice E1 N.ids.length d1, .slice E2 first.length d2] 39))
  have HKX := Lib.hid (Blk.new w3 39 #[.slice E0 N.ends.length d0, .slice E1 N.ids.length d1, .slice E2 first.length d2])
  have HOX := Lib.hid (HO3.out.below ((Below.refl w3.heap.size w3).alloc (Nat.le_refl _) (.cells #[.slice E0 N.ends.length d0, .slice E1 N.ids.length d1, .slice E2 first.length d2] 39)))
  obtain ⟨g3, hg3⟩ : ∃ g, g = w3.heap.size := ⟨_, rfl⟩
  rw [← hg3] at HKX
  rw [← hg3]
  generalize w3.alloc (.cells #[.slice E0 N.ends.length d0, .slice E1 N.ids.length d1, .slice E2 first.length d2] 39) = wx at *
  clear hg3 HO3 HB3
  have kx := HKX.out.cell
  have kb30 := (HK0.out.below HBX.out).cell
  have kb31 := (HK1.out.below HBX.out).cell
  have kb32 := (HK2.out.below HBX.out).cell
  have hdd : (0 : Int) ≤ D ∧ D ≤ 4 := inB_iff.1 (tabB_iff.1 (run_inv hr).1).1
  have hdd' : (0 : Int) ≤ D' ∧ D' ≤ 4 := inB_iff.1 (tabB_iff.1 ht').1
  have hal := inpB_all hg hfl.out
  rw [hi] at hal
  cases hr2 : runT D' rows' ⟨N.ends, N.ids, first⟩ with
  | none =>
    have HV : Hid (chainT D rows D' rows' N = none) := Lib.hid (chain_no (.inr (.inr (.inr ⟨first, hr, hr2⟩))))
    rw [hr2] at CR2
    clear ht' hr hg hob hal hi hr2
    go_upto_region 11 with (go_at_call 22; refine (CR2.out _ _ _ (HB0.out.trans (HBX.out.mono HB0.out.size)) HOX.out).mono ?_; rintro e w4 ⟨vo, rfl, -, hb4⟩; have HB4 := Lib.hid (Below.then_ HBX.out hb4); clear hb4)
    have HKr := Lib.hid (HK3.out.below HB4.out)
    have hc := ((HKr.out.put 0 (.int .i64 0)).put 1 (.slice none 0 0)).cell
    have kc := HKr.out.cell
    have kf := HKr.out.free
    have HB9 := Lib.hid (((HB0.out.trans (HB4.out.mono HB0.out.size)).setCell (p := ⟨w.heap.size + 3, 0, none⟩) (by simp) (.int .i64 0)).setCell (p := ⟨w.heap.size + 3, 1, none⟩) (by simp) (.slice none 0 0))
    clear kb30 kb31 kb32 kx
    go_wp2_with fail
    exact bodyPost_ret (v := .tuple #[.agg #[.int .i64 0, .slice none 0 0], .bool false]) (by simp [results, Tryz.results30, go_sem, hc]) rfl (RetMt.no HV.out HB9.out)
  | some sec =>
  rw [hr2] at CR2
  have HT : Hid (chainT D rows D' rows' N = tofT N (D + D') sec) := Lib.hid (chain_tof hr hr2 hal.symm)
  have HV := Lib.hid (fun (vo : Value) (T : Nat → Prop) W (hW : Below w.heap.size w W) (hvo : IntsR W T vo sec) => TableOf_any _ vo N (D + D') sec W (HN.out.below hW) hvo hid)
  have hwr : IntKind.i64.wrap (D + D') = D + D' := IntWalk.i64_in _ (by omega)
  clear ht' hr hg hob hal hi hr2
  go_wp2_with (go_at_call 22; refine (CR2.out _ _ _ (HB0.out.trans (HBX.out.mono HB0.out.size)) HOX.out).mono ?_; rintro e w4 ⟨vo, rfl, ho4, hb4⟩; obtain ⟨A4, c4, rfl⟩ := ho4.shape; have HO4 := Lib.hid ho4; have HB4 := Lib.hid (Below.then_ HBX.out hb4); have kc0 := (HK0.out.below (Below.then_ HBX.out hb4)).cell; have kc1 := (HK1.out.below (Below.then_ HBX.out hb4)).cell; have kc2 := (HK2.out.below (Below.then_ HBX.out hb4)).cell; clear hb4 ho4 kx kb30 kb31 kb32)
  refine (HV.out _ _ _ (HB0.out.trans (HB4.out.mono HB0.out.size)) HO4.out.ints).mono ?_
  rintro e w5 ⟨hb5, hres⟩
  have HQ : Hid (chainT D rows D' rows' N = tofT N (D + D') sec) := HT
  generalize tofT N (D + D') sec = r at HQ hres
  have HB5 := Lib.hid (Below.then_ HB4.out hb5)
  have HK5 := Lib.hid (HK3.out.below HB5.out)
  have kc := HK5.out.cell
  have kf := HK5.out.free
  have hz45 : w.heap.size + 3 < w4.heap.size := by have := HB4.out.size; omega
  clear kc0 kc1 kc2 hb5
  cases r with
  | none =>
    obtain rfl : e = .returned (.tuple #[.agg #[.int .i64 0, .slice none 0 0], .bool false]) := hres
    have hc1 := ((HK5.out.put 0 (.int .i64 0)).put 1 (.slice none 0 0)).cell
    go_wp2_with fail
    exact bodyPost_ret (v := .tuple #[.agg #[.int .i64 0, .slice none 0 0], .bool false]) (by simp [results, Tryz.results30, go_sem, hc1]) rfl (RetMt.no HQ.out (((HB0.out.trans (HB5.out.mono HB0.out.size)).setCell (by simp only; omega) _).setCell (by simp only; omega) _))
  | some m =>
    obtain ⟨A6, c6, rfl, hs6⟩ := hres
    have HS6 := Lib.hid hs6
    have hc1 := ((HK5.out.put 0 (.int .i64 (D + D'))).put 1 (.slice A6 m.length c6)).cell
    clear hs6
    go_wp2_with fail
    exact bodyPost_ret (v := .tuple #[.agg #[.int .i64 (D + D'), .slice A6 m.length c6], .bool true]) (by simp [results, Tryz.results30, go_sem, hc1]) rfl (RetMt.yes HQ.out rfl (((HB0.out.trans (HB5.out.mono HB0.out.size)).setCell (by simp only; omega) _).setCell (by simp only; omega) _) ((HS6.out.mono (by omega)).keepB fun b hb => by have := HS6.out.lt b hb; rw [Below.heap_setCell _ _ _ _ (by simp only; omega), Below.heap_setCell _ _ _ _ (by simp only; omega)]))
end Go.Proofs.YtjoimponfeofkaaGreat

namespace Go.Proofs.YtjoimponfeofkaaGreat
open Go.RowKit

set_option maxHeartbeats 1000000 in
theorem taOuts_any {S T : Nat → Prop} (vN vo : Value) (N : Net) (outs : List Int) (w : World) (hN : NetR w S vN N) (ho : IntsR w T vo outs) :
    Calls Tryz.prog 46 #[vN, vo] w (RetV w (.bool (goodB N && outsB N outs))) := by
  have hbd := ho.bound
  have HO := Lib.hid ho
  have HN := Lib.hid hN
  obtain ⟨ve, vi, vn, rfl, he, -, -⟩ := hN
  obtain ⟨Ae, ce, rfl, -, hme, -⟩ := he
  unfold maxLen at hme
  obtain ⟨Ao, co, rfl, -, -, -⟩ := ho
  have HB0 := Lib.hid ((Below.refl w.heap.size w).alloc (Nat.le_refl _) (.cells #[.slice Ae N.ends.length ce, vi, vn] 39))
  have HK0 := Lib.hid (Blk.new w 39 #[.slice Ae N.ends.length ce, vi, vn])
  have HG := Lib.hid (neGood_any _ N _ (HN.out.below HB0.out))
  cases hg : goodB N with
  | false =>
    rw [hg] at HG
    clear hg
    go_enter Tryz.func46, Tryz.ntmps46
    go_wp2_with (go_at_call 59; refine HG.out.mono ?_; rintro e w1 ⟨rfl, hb1⟩; have HB1 := Lib.hid (Below.then_ HB0.out hb1); clear hb1)
    go_ret
    exact ⟨rfl, HB1.out⟩
  | true =>
  rw [hg] at HG
  by_cases hl : outs.length = N.ends.length
  · have HE : Hid ((true && outsB N outs) = allB outs 0 99) := Lib.hid (by unfold outsB; simp [hl])
    have e1 : ((outs.length : Int) == (N.ends.length : Int)) = true := by rw [beq_iff_eq]; omega
    generalize (true && outsB N outs) = r at HE ⊢
    clear hl hg
    go_enter Tryz.func46, Tryz.ntmps46
    go_wp2_with (first
      | (go_at_call 59; refine HG.out.mono ?_; rintro e w1 ⟨rfl, hb1⟩; have HB1 := Lib.hid (Below.then_ HB0.out hb1); have kd := (HK0.out.below hb1).cell; clear hb1)
      | (go_at_call 55; refine (l1All_any _ outs 0 99 _ (HO.out.below HB1.out)).mono ?_; rintro e w2 ⟨rfl, rfl⟩))
    go_ret
    exact ⟨by rw [HE.out]; rfl, HB1.out⟩
  · have HE : Hid ((true && outsB N outs) = false) := Lib.hid (by unfold outsB; simp [hl])
    have e1 : ((outs.length : Int) == (N.ends.length : Int)) = false := by rw [beq_eq_false_iff_ne]; omega
    generalize (true && outsB N outs) = r at HE ⊢
    clear hl hg
    go_enter Tryz.func46, Tryz.ntmps46
    go_wp2_with (go_at_call 59; refine HG.out.mono ?_; rintro e w1 ⟨rfl, hb1⟩; have HB1 := Lib.hid (Below.then_ HB0.out hb1); have kd := (HK0.out.below hb1).cell; clear hb1)
    go_ret
    exact ⟨by rw [HE.out]; rfl, HB1.out⟩

/-- the answer of taOf, taken out of the result's own block -/
theorem RetCs.grow {w w' : World} {w0 : World} {k : Int} {x : Option (List RowT)} {e : Ending} (h : RetCs w0 k x e w') (hb : Below w.heap.size w w0) : RetCs w k x e w' := by
  refine ⟨Below.then_ hb h.1, ?_⟩
  cases x with
  | none => exact h.2
  | some m =>
    obtain ⟨A, c, he, hs⟩ := h.2
    exact ⟨A, c, he, hs.weak fun b hb2 => Nat.le_trans hb.size hb2⟩

set_option maxRecDepth 100000 in
set_option maxHeartbeats 2000000 in
theorem TableOf_ref {S T : Nat → Prop} (vN vo : Value) (N : Net) (D : Int) (outs : List Int) (w : World) (hN : NetR w S vN N) (ho : IntsR w T vo outs) :
    Calls Tryz.prog 23 #[vN, .int .i64 D, vo] w (RetCs w D (tofT N D outs)) := by
  have HN := Lib.hid hN
  have HO := Lib.hid ho
  obtain ⟨ve, vi, vn, rfl, -, -, -⟩ := hN
  obtain ⟨Ao, co, rfl, -, -, -⟩ := ho
  have hb0 : ∀ o1 o2, Below w.heap.size w ((w.alloc o1).alloc o2) := fun o1 o2 => ((Below.refl _ _).alloc (Nat.le_refl _) _).alloc (by simp) _
  have HB0 := Lib.hid hb0
  clear hb0
  have CO := Lib.hid (fun W (hW : Below w.heap.size w W) => taOuts_any _ _ N outs W (HN.out.below hW) (HO.out.below hW))
  obtain ⟨g1, hg1⟩ : ∃ b, b = (goodB N && outsB N outs) := ⟨_, rfl⟩
  obtain ⟨g2, hg2⟩ : ∃ b, b = inB D 0 4 := ⟨_, rfl⟩
  rw [← hg1] at CO
  have CI := Lib.hid (fun W => l1In_b D 0 4 g2 W hg2.symm)
  have HG1 := Lib.hid hg1
  have HG2 := Lib.hid hg2
  clear hg1 hg2
  cases g1 with
  | false =>
    have HV : Hid (tofT N D outs = none) := Lib.hid (tofT_no (by
      have := HG1.out.symm
      rw [Bool.and_eq_false_iff] at this
      rcases this with h | h
      · exact .inl h
      · exact .inr (.inr h)))
    generalize tofT N D outs = r at HV ⊢
    go_enter Tryz.func23, Tryz.ntmps23
    go_upto_region 2 with (go_at_call 46; refine (CO.out _ (HB0.out _ _)).mono ?_; rintro e w1 ⟨rfl, hb1⟩; obtain ⟨-, k1⟩ := box2b hb1; have HB1 := Lib.hid (Below.then_ (HB0.out _ _) hb1); have HK1 := Lib.hid k1; clear hb1 k1)
    have hc := ((HK1.out.put 0 (.int .i64 0)).put 1 (.slice none 0 0)).cell
    have kc := HK1.out.cell
    have kf := HK1.out.free
    have HB9 := Lib.hid ((HB1.out.setCell (p := ⟨w.heap.size + 1, 0, none⟩) (by simp) (.int .i64 0)).setCell (p := ⟨w.heap.size + 1, 1, none⟩) (by simp) (.slice none 0 0))
    go_wp2_with fail
    exact bodyPost_ret (v := .tuple #[.agg #[.int .i64 0, .slice none 0 0], .bool false]) (by simp [results, Tryz.results23, go_sem, hc]) rfl (RetCs.no HV.out HB9.out)
  | true =>
  cases g2 with
  | false =>
    have HV : Hid (tofT N D outs = none) := Lib.hid (tofT_no (.inr (.inl HG2.out.symm)))
    generalize tofT N D outs = r at HV ⊢
    go_enter Tryz.func23, Tryz.ntmps23
    go_upto_region 2 with (first
      | (go_at_call 46; refine (CO.out _ (HB0.out _ _)).mono ?_; rintro e w1 ⟨rfl, hb1⟩; obtain ⟨-, k1⟩ := box2b hb1; have HB1 := Lib.hid (Below.then_ (HB0.out _ _) hb1); have HK1 := Lib.hid k1; clear hb1 k1)
      | (go_at_call 47; refine (CI.out _).mono ?_; rintro e w' ⟨rfl, rfl⟩))
    have hc := ((HK1.out.put 0 (.int .i64 0)).put 1 (.slice none 0 0)).cell
    have kc := HK1.out.cell
    have kf := HK1.out.free
    have HB9 := Lib.hid ((HB1.out.setCell (p := ⟨w.heap.size + 1, 0, none⟩) (by simp) (.int .i64 0)).setCell (p := ⟨w.heap.size + 1, 1, none⟩) (by simp) (.slice none 0 0))
    go_wp2_with fail
    exact bodyPost_ret (v := .tuple #[.agg #[.int .i64 0, .slice none 0 0], .bool false]) (by simp [results, Tryz.results23, go_sem, hc]) rfl (RetCs.no HV.out HB9.out)
  | true =>
  obtain ⟨hD1, hD2⟩ := inB_iff.1 HG2.out.symm
  obtain ⟨d, rfl⟩ : ∃ d : Nat, D = (d : Int) := ⟨D.toNat, by omega⟩
  obtain ⟨hg, hob⟩ := (Bool.and_eq_true _ _).mp HG1.out.symm
  have HT : Hid (tofT N d outs = ofT N d outs) := Lib.hid (by
    unfold tofT
    rw [if_pos, Int.toNat_natCast]
    show (goodB N && inB d 0 4 && outsB N outs) = true
    rw [← HG2.out, hg, hob]; rfl)
  have HV := Lib.hid (fun W (hW : Below w.heap.size w W) => taOf_any _ _ N d outs W (HN.out.below hW) (HO.out.below hW) hg (outsB_len hob) (by omega))
  rw [HT.out]
  generalize ofT N d outs = r at HV ⊢
  clear HT hg hob
  go_enter Tryz.func23, Tryz.ntmps23
  go_wp2_with (first
    | (go_at_call 46; refine (CO.out _ (HB0.out _ _)).mono ?_; rintro e w1 ⟨rfl, hb1⟩; obtain ⟨k0, k1⟩ := box2b hb1; have HB1 := Lib.hid (Below.then_ (HB0.out _ _) hb1); have HK1 := Lib.hid k1; have kd := k0.cell; clear hb1 k1 k0)
    | (go_at_call 47; refine (CI.out _).mono ?_; rintro e w' ⟨rfl, rfl⟩))
  refine (HV.out _ HB1.out).mono ?_
  rintro e w2 ⟨hb2, hres⟩
  have HB2 := Lib.hid (Below.then_ HB1.out hb2)
  have HK2 := Lib.hid (HK1.out.below hb2)
  have kc := HK2.out.cell
  have kf := HK2.out.free
  have hz1 : w.heap.size + 1 < w1.heap.size := HK1.out.lt
  clear kd hb2
  cases r with
  | none =>
    obtain rfl : e = .returned (.tuple #[.agg #[.int .i64 0, .slice none 0 0], .bool false]) := hres
    have hc1 := ((HK2.out.put 0 (.int .i64 0)).put 1 (.slice none 0 0)).cell
    go_wp2_with fail
    exact bodyPost_ret (v := .tuple #[.agg #[.int .i64 0, .slice none 0 0], .bool false]) (by simp [results, Tryz.results23, go_sem, hc1]) rfl (RetCs.no rfl ((HB2.out.setCell (by simp) _).setCell (by simp) _))
  | some m =>
    obtain ⟨A6, c6, rfl, hs6⟩ := hres
    have HS6 := Lib.hid hs6
    have hc1 := ((HK2.out.put 0 (.int .i64 (d : Int))).put 1 (.slice A6 m.length c6)).cell
    clear hs6
    go_wp2_with fail
    exact bodyPost_ret (v := .tuple #[.agg #[.int .i64 (d : Int), .slice A6 m.length c6], .bool true]) (by simp [results, Tryz.results23, go_sem, hc1]) rfl ⟨(HB2.out.setCell (by simp) _).setCell (by simp) _, A6, c6, rfl, ((HS6.out.far_ (p := ⟨w.heap.size + 1, 0, none⟩) (fun b h => by simp only; omega) _).far_ (p := ⟨w.heap.size + 1, 1, none⟩) (fun b h => by simp only; omega) _).weak fun b h => by omega⟩
end Go.Proofs.YtjoimponfeofkaaGreat

namespace Go.Proofs.YtjoimponfeofkaaGreat
open Go.RowKit

set_option maxRecDepth 100000 in
set_option maxHeartbeats 2000000 in
theorem DeepenOn_ref {S T : Nat → Prop} (v vN : Value) (D : Int) (rows : List RowT) (N : Net) (k : Int) (w : World) (h : SlR encR w S v rows) (hN : NetR w T vN N) :
    Calls Tryz.prog 27 #[.agg #[.int .i64 D, v], vN, .int .i64 k] w (RetCs w k (deepT D rows N k)) := by
  have HR := Lib.hid h
  have HN := Lib.hid hN
  obtain ⟨A, c, rfl, -, -, -⟩ := h
  obtain ⟨ve, vi, vn, rfl, -, -, -⟩ := hN
  have hb0 : Below w.heap.size w (((w.alloc (.cells #[.int .i64 D, .slice A rows.length c] 35)).alloc (.cells #[ve, vi, vn] 39)).alloc (.cells #[.int .i64 0, .slice none 0 0] 35)) := (((Below.refl _ _).alloc (Nat.le_refl _) _).alloc (by simp) _).alloc (by simp only [World.size_alloc]; omega) _
  have HB0 := Lib.hid hb0
  clear hb0
  have CR := Lib.hid (fun W (hW : Below w.heap.size w W) => RunTable_ref _ _ D rows N W (HR.out.below hW) (HN.out.below hW))
  cases hr : runT D rows N with
  | none =>
    have HV : Hid (deepT D rows N k = none) := Lib.hid (by unfold deepT; rw [hr]; rfl)
    rw [hr] at CR
    generalize deepT D rows N k = r at HV ⊢
    clear hr
    go_enter Tryz.func27, Tryz.ntmps27
    go_upto_region 3 with (go_at_call 21; refine (CR.out _ HB0.out).mono ?_; rintro e w1 ⟨vo, rfl, -, hb1⟩; obtain ⟨-, -, k1⟩ := box3 hb1; have HB1 := Lib.hid (Below.then_ HB0.out hb1); have HK1 := Lib.hid k1; clear hb1 k1)
    have hc := ((HK1.out.put 0 (.int .i64 0)).put 1 (.slice none 0 0)).cell
    have kc := HK1.out.cell
    have kf := HK1.out.free
    have HB9 := Lib.hid ((HB1.out.setCell (p := ⟨w.heap.size + 1 + 1, 0, none⟩) (by simp only; omega) (.int .i64 0)).setCell (p := ⟨w.heap.size + 1 + 1, 1, none⟩) (by simp only; omega) (.slice none 0 0))
    go_wp2_with fail
    exact bodyPost_ret (v := .tuple #[.agg #[.int .i64 0, .slice none 0 0], .bool false]) (by simp [results, Tryz.results27, go_sem, hc]) rfl (RetCs.no HV.out HB9.out)
  | some outs =>
  obtain ⟨ht, hg, hob⟩ := run_inv hr
  have hD := inB_iff.1 (tabB_iff.1 ht).1
  rw [hr] at CR
  have CR2 : Hid (∀ W, Below w.heap.size w W → Calls Tryz.prog 21 #[.agg #[.int .i64 D, .slice A rows.length c], .agg #[ve, vi, vn]] W fun e w' => ∃ Ao co, e = .returned (.tuple #[.slice Ao outs.length co, .bool true]) ∧ OwnI w' W.heap.size (.slice Ao outs.length co) outs ∧ Below W.heap.size W w') := Lib.hid fun W hW => (CR.out W hW).mono fun e w' ⟨vo, he, ho, hb⟩ => by
    obtain ⟨Ao, co, rfl⟩ := ho.shape
    exact ⟨Ao, co, he, ho, hb⟩
  clear CR
  obtain ⟨g2, hg2⟩ : ∃ b, b = inB k D 4 := ⟨_, rfl⟩
  have CI := Lib.hid (fun W => l1In_b k D 4 g2 W hg2.symm)
  cases g2 with
  | false =>
    have HV : Hid (deepT D rows N k = none) := Lib.hid (by unfold deepT; rw [hr]; show (if inB k D 4 = true then _ else _) = _; rw [← hg2]; rfl)
    generalize deepT D rows N k = r at HV ⊢
    clear hr hg2 ht hg hob
    go_enter Tryz.func27, Tryz.ntmps27
    go_upto_region 3 with (first
      | (go_at_call 21; refine (CR2.out _ HB0.out).mono ?_; rintro e w1 ⟨Ao, co, rfl, -, hb1⟩; obtain ⟨k0, -, k1⟩ := box3 hb1; have HB1 := Lib.hid (Below.then_ HB0.out hb1); have HK1 := Lib.hid k1; have kd := k0.cell; clear hb1 k1 k0)
      | (go_at_call 47; refine (CI.out _).mono ?_; rintro e w' ⟨rfl, rfl⟩))
    have hc := ((HK1.out.put 0 (.int .i64 0)).put 1 (.slice none 0 0)).cell
    have kc := HK1.out.cell
    have kf := HK1.out.free
    have HB9 := Lib.hid ((HB1.out.setCell (p := ⟨w.heap.size + 1 + 1, 0, none⟩) (by simp only; omega) (.int .i64 0)).setCell (p := ⟨w.heap.size + 1 + 1, 1, none⟩) (by simp only; omega) (.slice none 0 0))
    go_wp2_with fail
    exact bodyPost_ret (v := .tuple #[.agg #[.int .i64 0, .slice none 0 0], .bool false]) (by simp [results, Tryz.results27, go_sem, hc]) rfl (RetCs.no HV.out HB9.out)
  | true =>
  obtain ⟨hk1, hk2⟩ := inB_iff.1 hg2.symm
  obtain ⟨d, rfl⟩ : ∃ d : Nat, k = (d : Int) := ⟨k.toNat, by omega⟩
  have HT : Hid (deepT D rows N d = ofT N d outs) := Lib.hid (by unfold deepT; rw [hr]; show (if inB d D 4 = true then _ else _) = _; rw [← hg2, if_pos rfl, Int.toNat_natCast])
  have HV := Lib.hid (fun (vo : Value) (T : Nat → Prop) W (hW : Below w.heap.size w W) (hvo : IntsR W T vo outs) => taOf_any _ vo N d outs W (HN.out.below hW) hvo hg (outsB_len hob) (by omega))
  rw [HT.out]
  generalize ofT N d outs = r at HV ⊢
  clear HT hg hob ht hr hg2
  go_enter Tryz.func27, Tryz.ntmps27
  go_wp2_with (first
    | (go_at_call 21; refine (CR2.out _ HB0.out).mono ?_; rintro e w1 ⟨Ao, co, rfl, ho1, hb1⟩; obtain ⟨k0, k2, k1⟩ := box3 hb1; have HB1 := Lib.hid (Below.then_ HB0.out hb1); have HK1 := Lib.hid k1; have kd := k0.cell; have kn := k2.cell; have HO1 := Lib.hid ho1; clear hb1 k1 k0 k2 ho1)
    | (go_at_call 47; refine (CI.out _).mono ?_; rintro e w' ⟨rfl, rfl⟩))
  refine (HV.out _ _ _ HB1.out HO1.out.ints).mono ?_
  rintro e w2 ⟨hb2, hres⟩
  have HB2 := Lib.hid (Below.then_ HB1.out hb2)
  have HK2 := Lib.hid (HK1.out.below hb2)
  have kc := HK2.out.cell
  have kf := HK2.out.free
  have hz1 : w.heap.size + 1 + 1 < w1.heap.size := HK1.out.lt
  clear kd kn hb2
  cases r with
  | none =>
    obtain rfl : e = .returned (.tuple #[.agg #[.int .i64 0, .slice none 0 0], .bool false]) := hres
    have hc1 := ((HK2.out.put 0 (.int .i64 0)).put 1 (.slice none 0 0)).cell
    go_wp2_with fail
    exact bodyPost_ret (v := .tuple #[.agg #[.int .i64 0, .slice none 0 0], .bool false]) (by simp [results, Tryz.results27, go_sem, hc1]) rfl (RetCs.no rfl ((HB2.out.setCell (by simp only; omega) _).setCell (by simp only; omega) _))
  | some m =>
    obtain ⟨A6, c6, rfl, hs6⟩ := hres
    have HS6 := Lib.hid hs6
    have hc1 := ((HK2.out.put 0 (.int .i64 d)).put 1 (.slice A6 m.length c6)).cell
    clear hs6
    go_wp2_with fail
    exact bodyPost_ret (v := .tuple #[.agg #[.int .i64 d, .slice A6 m.length c6], .bool true]) (by simp [results, Tryz.results27, go_sem, hc1]) rfl ⟨(HB2.out.setCell (by simp only; omega) _).setCell (by simp only; omega) _, A6, c6, rfl, ((HS6.out.far_ (p := ⟨w.heap.size + 1 + 1, 0, none⟩) (fun b h => by simp only; omega) _).far_ (p := ⟨w.heap.size + 1 + 1, 1, none⟩) (fun b h => by simp only; omega) _).weak fun b h => by omega⟩
end Go.Proofs.YtjoimponfeofkaaGreat

namespace Go.Proofs.YtjoimponfeofkaaGreat
open Go.RowKit

set_option maxRecDepth 100000 in
set_option maxHeartbeats 4000000 in
theorem ChainTables_ref {S S' T : Nat → Prop} (va vb vN : Value) (D : Int) (rows : List RowT) (D' : Int) (rows' : List RowT) (N : Net) (w : World) (ha : SlR encR w S va rows) (hb : SlR encR w S' vb rows') (hN : NetR w T vN N) :
    Calls Tryz.prog 29 #[.agg #[.int .i64 D, va], .agg #[.int .i64 D', vb], vN] w (RetCs w (D + D') (chainT D rows D' rows' N)) := by
  have HRA := Lib.hid ha
  have HRB := Lib.hid hb
  have HN := Lib.hid hN
  obtain ⟨A, c, rfl, -, -, -⟩ := ha
  obtain ⟨A', c', rfl, -, -, -⟩ := hb
  obtain ⟨ve, vi, vn, rfl, he, hi, -⟩ := hN
  obtain ⟨Pe, pe, rfl, -, -, -⟩ := he
  obtain ⟨Qi, qi, rfl, -, -, -⟩ := hi
  have hz0 : ∀ o1 o2 o3, (((w.alloc o1).alloc o2).alloc o3).heap.size = w.heap.size + 3 := fun _ _ _ => by simp
  have HB0 : Hid (Below w.heap.size w ((((w.alloc (.cells #[.int .i64 D, .slice A rows.length c] 35)).alloc (.cells #[.int .i64 D', .slice A' rows'.length c'] 35)).alloc (.cells #[.slice Pe N.ends.length pe, .slice Qi N.ids.length qi, vn] 39)).alloc (.cells #[.int .i64 0, .slice none 0 0] 35))) := Lib.hid ((((((Below.refl w.heap.size w).alloc (Nat.le_refl _) _).alloc (by simp) _).alloc (by simp; omega) _).alloc (by rw [hz0]; omega) _))
  have HK0 : Hid (Blk ((((w.alloc (.cells #[.int .i64 D, .slice A rows.length c] 35)).alloc (.cells #[.int .i64 D', .slice A' rows'.length c'] 35)).alloc (.cells #[.slice Pe N.ends.length pe, .slice Qi N.ids.length qi, vn] 39)).alloc (.cells #[.int .i64 0, .slice none 0 0] 35)) w.heap.size 35 #[.int .i64 D, .slice A rows.length c]) := Lib.hid ((((Blk.new _ _ _).alloc _).alloc _).alloc _)
  have HK1 : Hid (Blk ((((w.alloc (.cells #[.int .i64 D, .slice A rows.length c] 35)).alloc (.cells #[.int .i64 D', .slice A' rows'.length c'] 35)).alloc (.cells #[.slice Pe N.ends.length pe, .slice Qi N.ids.length qi, vn] 39)).alloc (.cells #[.int .i64 0, .slice none 0 0] 35)) (w.heap.size + 1) 35 #[.int .i64 D', .slice A' rows'.length c']) := Lib.hid (by
    have := ((Blk.new (w.alloc (.cells #[.int .i64 D, .slice A rows.length c] 35)) 35 #[.int .i64 D', .slice A' rows'.length c']).alloc (.cells #[.slice Pe N.ends.length pe, .slice Qi N.ids.length qi, vn] 39)).alloc (.cells #[.int .i64 0, .slice none 0 0] 35)
    simpa using this)
  have HK2 : Hid (Blk ((((w.alloc (.cells #[.int .i64 D, .slice A rows.length c] 35)).alloc (.cells #[.int .i64 D', .slice A' rows'.length c'] 35)).alloc (.cells #[.slice Pe N.ends.length pe, .slice Qi N.ids.length qi, vn] 39)).alloc (.cells #[.int .i64 0, .slice none 0 0] 35)) (w.heap.size + 2) 39 #[.slice Pe N.ends.length pe, .slice Qi N.ids.length qi, vn]) := Lib.hid (by
    have := (Blk.new ((w.alloc (.cells #[.int .i64 D, .slice A rows.length c] 35)).alloc (.cells #[.int .i64 D', .slice A' rows'.length c'] 35)) 39 #[.slice Pe N.ends.length pe, .slice Qi N.ids.length qi, vn]).alloc (.cells #[.int .i64 0, .slice none 0 0] 35)
    simpa using this)
  have HK3 : Hid (Blk ((((w.alloc (.cells #[.int .i64 D, .slice A rows.length c] 35)).alloc (.cells #[.int .i64 D', .slice A' rows'.length c'] 35)).alloc (.cells #[.slice Pe N.ends.length pe, .slice Qi N.ids.length qi, vn] 39)).alloc (.cells #[.int .i64 0, .slice none 0 0] 35)) (w.heap.size + 3) 35 #[.int .i64 0, .slice none 0 0]) := Lib.hid (by
    have := Blk.new (((w.alloc (.cells #[.int .i64 D, .slice A rows.length c] 35)).alloc (.cells #[.int .i64 D', .slice A' rows'.length c'] 35)).alloc (.cells #[.slice Pe N.ends.length pe, .slice Qi N.ids.length qi, vn] 39)) 35 #[.int .i64 0, .slice none 0 0]
    simpa using this)
  clear hz0
  go_enter Tryz.func29, Tryz.ntmps29
  go_wp2_with fail
  generalize (((w.alloc (.cells #[.int .i64 D, .slice A rows.length c] 35)).alloc (.cells #[.int .i64 D', .slice A' rows'.length c'] 35)).alloc (.cells #[.slice Pe N.ends.length pe, .slice Qi N.ids.length qi, vn] 39)).alloc (.cells #[.int .i64 0, .slice none 0 0] 35) = wa at *
  have ka0 := HK0.out.cell
  have ka1 := HK1.out.cell
  have ka2 := HK2.out.cell
  have hltz : w.heap.size + 3 < wa.heap.size := HK3.out.lt
  have CR := Lib.hid (fun W (hW : Below w.heap.size w W) => RunTable_ref _ _ D rows N W (HRA.out.below hW) (HN.out.below hW))
  cases hr : runT D rows N with
  | none =>
    have HV : Hid (chainT D rows D' rows' N = none) := Lib.hid (chain_no (.inr (.inl hr)))
    rw [hr] at CR
    clear hr
    go_upto_region 3 with (go_at_call 21; refine (CR.out _ HB0.out).mono ?_; rintro e w1 ⟨vo, rfl, -, hb1⟩; have HB1 := Lib.hid hb1; clear hb1)
    have HKr := Lib.hid (HK3.out.below HB1.out)
    have hc := ((HKr.out.put 0 (.int .i64 0)).put 1 (.slice none 0 0)).cell
    have kc := HKr.out.cell
    have kf := HKr.out.free
    have HB9 := Lib.hid (((HB0.out.trans (HB1.out.mono HB0.out.size)).setCell (p := ⟨w.heap.size + 3, 0, none⟩) (by simp) (.int .i64 0)).setCell (p := ⟨w.heap.size + 3, 1, none⟩) (by simp) (.slice none 0 0))
    clear ka0 ka1 ka2
    go_wp2_with fail
    exact bodyPost_ret (v := .tuple #[.agg #[.int .i64 0, .slice none 0 0], .bool false]) (by simp [results, Tryz.results29, go_sem, hc]) rfl (RetCs.no HV.out HB9.out)
  | some first =>
  obtain ⟨ht, hg, hob⟩ := run_inv hr
  have hfl := Lib.hid (outsB_len hob)
  have hdd : (0 : Int) ≤ D ∧ D ≤ 4 := inB_iff.1 (tabB_iff.1 ht).1
  have hnl := (inB_iff.1 (goodB_iff.1 hg).1).2
  rw [hr] at CR
  have CQ := normO CR
  clear CR
  go_upto_region 2 with (go_at_call 21; refine (CQ.out _ HB0.out).mono ?_; rintro e w1 ⟨A2, c2, rfl, ho2, hb1⟩; have HO2 := Lib.hid ho2; have HB1 := Lib.hid hb1; clear hb1 ho2)
  clear ka0 ka1 ka2
  have kb10 := (HK0.out.below HB1.out).cell
  have kb11 := (HK1.out.below HB1.out).cell
  have kb12 := (HK2.out.below HB1.out).cell
  cases ht' : tabB D' rows' with
  | false =>
    have HV : Hid (chainT D rows D' rows' N = none) := Lib.hid (chain_no (.inl ht'))
    have CT := Lib.hid (fun W (hW : Below w.heap.size w W) => taGood_b _ D' rows' false W (HRB.out.below hW) ht')
    clear ht'
    go_upto_region 3 with (go_at_call 54; refine (CT.out _ (HB0.out.trans (HB1.out.mono HB0.out.size))).mono ?_; rintro e w2 ⟨rfl, hb2⟩; have HB2 := Lib.hid (Below.then_ HB1.out hb2); clear hb2)
    have HKr := Lib.hid (HK3.out.below HB2.out)
    have hc := ((HKr.out.put 0 (.int .i64 0)).put 1 (.slice none 0 0)).cell
    have kc := HKr.out.cell
    have kf := HKr.out.free
    have HB9 := Lib.hid (((HB0.out.trans (HB2.out.mono HB0.out.size)).setCell (p := ⟨w.heap.size + 3, 0, none⟩) (by simp) (.int .i64 0)).setCell (p := ⟨w.heap.size + 3, 1, none⟩) (by simp) (.slice none 0 0))
    clear kb10 kb11 kb12
    go_wp2_with fail
    exact bodyPost_ret (v := .tuple #[.agg #[.int .i64 0, .slice none 0 0], .bool false]) (by simp [results, Tryz.results29, go_sem, hc]) rfl (RetCs.no HV.out HB9.out)
  | true =>
  have CT := Lib.hid (fun W (hW : Below w.heap.size w W) => taGood_b _ D' rows' true W (HRB.out.below hW) ht')
  have hdd' : (0 : Int) ≤ D' ∧ D' ≤ 4 := inB_iff.1 (tabB_iff.1 ht').1
  have hwr : IntKind.i64.wrap (D + D') = D + D' := IntWalk.i64_in _ (by omega)
  by_cases h4 : 4 < D + D'
  · have HV : Hid (chainT D rows D' rows' N = none) := Lib.hid (chain_deep h4)
    clear ht'
    go_upto_region 3 with (go_at_call 54; refine (CT.out _ (HB0.out.trans (HB1.out.mono HB0.out.size))).mono ?_; rintro e w2 ⟨rfl, hb2⟩; have HB2 := Lib.hid (Below.then_ HB1.out hb2); have kc0 := (HK0.out.below HB2.out).cell; have kc1 := (HK1.out.below HB2.out).cell; clear hb2 kb10 kb11 kb12)
    have HKr := Lib.hid (HK3.out.below HB2.out)
    have hc := ((HKr.out.put 0 (.int .i64 0)).put 1 (.slice none 0 0)).cell
    have kcr := HKr.out.cell
    have kf := HKr.out.free
    have HB9 := Lib.hid (((HB0.out.trans (HB2.out.mono HB0.out.size)).setCell (p := ⟨w.heap.size + 3, 0, none⟩) (by simp) (.int .i64 0)).setCell (p := ⟨w.heap.size + 3, 1, none⟩) (by simp) (.slice none 0 0))
    clear kc0 kc1
    go_wp2_with fail
    exact bodyPost_ret (v := .tuple #[.agg #[.int .i64 0, .slice none 0 0], .bool false]) (by simp [results, Tryz.results29, go_sem, hc]) rfl (RetCs.no HV.out HB9.out)
  cases hi : allB first 0 9 with
  | false =>
    have HV : Hid (chainT D rows D' rows' N = none) := Lib.hid (chain_no (.inr (.inr (.inl ⟨first, hr, hi⟩))))
    have CA := Lib.hid (fun W (hW : Below wa.heap.size wa W) (hv : IntsR W (fun b => wa.heap.size ≤ b) (.slice A2 first.length c2) first) => l1All_any _ first 0 9 W hv)
    rw [hi] at CA
    clear ht' hi
    go_upto_region 3 with (first
      | (go_at_call 54; refine (CT.out _ (HB0.out.trans (HB1.out.mono HB0.out.size))).mono ?_; rintro e w2 ⟨rfl, hb2⟩; have HB2 := Lib.hid (Below.then_ HB1.out hb2); have HO4 := Lib.hid (HO2.out.below hb2); have kc0 := (HK0.out.below HB2.out).cell; have kc1 := (HK1.out.below HB2.out).cell; clear hb2 kb10 kb11 kb12)
      | (go_at_call 55; refine (CA.out _ HB2.out HO4.out.ints).mono ?_; rintro e w' ⟨rfl, rfl⟩))
    have HKr := Lib.hid (HK3.out.below HB2.out)
    have hc := ((HKr.out.put 0 (.int .i64 0)).put 1 (.slice none 0 0)).cell
    have kcr := HKr.out.cell
    have kf := HKr.out.free
    have HB9 := Lib.hid (((HB0.out.trans (HB2.out.mono HB0.out.size)).setCell (p := ⟨w.heap.size + 3, 0, none⟩) (by simp) (.int .i64 0)).setCell (p := ⟨w.heap.size + 3, 1, none⟩) (by simp) (.slice none 0 0))
    clear kc0 kc1
    go_wp2_with fail
    exact bodyPost_ret (v := .tuple #[.agg #[.int .i64 0, .slice none 0 0], .bool false]) (by simp [results, Tryz.results29, go_sem, hc]) rfl (RetCs.no HV.out HB9.out)
  | true =>
  have CA := Lib.hid (fun W (hW : Below wa.heap.size wa W) (hv : IntsR W (fun b => wa.heap.size ≤ b) (.slice A2 first.length c2) first) => l1All_any _ first 0 9 W hv)
  rw [hi] at CA
  go_upto_region 4 with (first
    | (go_at_call 54; refine (CT.out _ (HB0.out.trans (HB1.out.mono HB0.out.size))).mono ?_; rintro e w2 ⟨rfl, hb2⟩; have HB2 := Lib.hid (Below.then_ HB1.out hb2); have HO4 := Lib.hid (HO2.out.below hb2); have kc0 := (HK0.out.below HB2.out).cell; have kc1 := (HK1.out.below HB2.out).cell; clear hb2 kb10 kb11 kb12)
    | (go_at_call 55; refine (CA.out _ HB2.out HO4.out.ints).mono ?_; rintro e w' ⟨rfl, rfl⟩))
  have hal := hi
  have CR2 := Lib.hid (fun W (hW : Below w.heap.size w W) (h3 : IntsR W (fun b => wa.heap.size ≤ b) (.slice A2 first.length c2) first) => RunTable_ref _ _ D' rows' ⟨N.ends, N.ids, first⟩ W (HRB.out.below hW) (netWith (HN.out.below hW) h3))
  have kd0 := (HK0.out.below HB2.out).cell
  have kd1 := (HK1.out.below HB2.out).cell
  have kd2 := (HK2.out.below HB2.out).cell
  clear kc0 kc1
  cases hr2 : runT D' rows' ⟨N.ends, N.ids, first⟩ with
  | none =>
    have HV : Hid (chainT D rows D' rows' N = none) := Lib.hid (chain_no (.inr (.inr (.inr ⟨first, hr, hr2⟩))))
    rw [hr2] at CR2
    clear ht' hr hg hob hal hi hr2 ht
    go_upto_region 6 with (go_at_call 21; refine (CR2.out _ (HB0.out.trans (HB2.out.mono HB0.out.size)) HO4.out.ints).mono ?_; rintro e w4 ⟨vo, rfl, -, hb4⟩; have HB4 := Lib.hid (Below.then_ HB2.out hb4); clear hb4)
    have HKr := Lib.hid (HK3.out.below HB4.out)
    have hc := ((HKr.out.put 0 (.int .i64 0)).put 1 (.slice none 0 0)).cell
    have kc := HKr.out.cell
    have kf := HKr.out.free
    have HB9 := Lib.hid (((HB0.out.trans (HB4.out.mono HB0.out.size)).setCell (p := ⟨w.heap.size + 3, 0, none⟩) (by simp) (.int .i64 0)).setCell (p := ⟨w.heap.size + 3, 1, none⟩) (by simp) (.slice none 0 0))
    clear kd0 kd1 kd2
    go_wp2_with fail
    exact bodyPost_ret (v := .tuple #[.agg #[.int .i64 0, .slice none 0 0], .bool false]) (by simp [results, Tryz.results29, go_sem, hc]) rfl (RetCs.no HV.out HB9.out)
  | some sec =>
  rw [hr2] at CR2
  have CQ2 := normO (C := fun W => Below w.heap.size w W ∧ IntsR W (fun b => wa.heap.size ≤ b) (.slice A2 first.length c2) first) (Lib.hid fun W hW => CR2.out W hW.1 hW.2)
  clear CR2
  have hsl := Lib.hid (outsB_len (run_inv hr2).2.2)
  have h44 : D + D' ≤ 4 := by omega
  have HT : Hid (chainT D rows D' rows' N = ofT N (D + D').toNat sec) := Lib.hid (by rw [chain_run hr hr2 hal, if_pos h44])
  obtain ⟨d, hd⟩ : ∃ d : Nat, D + D' = (d : Int) := ⟨(D + D').toNat, by omega⟩
  have HV : Hid (∀ (vo : Value) (T : Nat → Prop) W, Below w.heap.size w W → IntsR W T vo sec → Calls Tryz.prog 48 #[.agg #[.slice Pe N.ends.length pe, .slice Qi N.ids.length qi, vn], .int .i64 (D + D'), vo] W (RetCs W (D + D') (ofT N d sec))) := Lib.hid (fun (vo : Value) (T : Nat → Prop) W hW hvo => by rw [hd]; exact taOf_any _ vo N d sec W (HN.out.below hW) hvo hg hsl.out (by omega))
  rw [hd, Int.toNat_natCast] at HT
  clear ht' hr hg hob hal hi hr2 ht hd
  go_wp2_with (go_at_call 21; refine (CQ2.out _ ⟨(HB0.out.trans (HB2.out.mono HB0.out.size)), HO4.out.ints⟩).mono ?_; rintro e w4 ⟨A4, c4, rfl, ho4, hb4⟩; have HO5 := Lib.hid ho4; have HB4 := Lib.hid (Below.then_ HB2.out hb4); have ke0 := (HK0.out.below (Below.then_ HB2.out hb4)).cell; have ke1 := (HK1.out.below (Below.then_ HB2.out hb4)).cell; have ke2 := (HK2.out.below (Below.then_ HB2.out hb4)).cell; clear hb4 ho4 kd0 kd1 kd2)
  refine (HV.out _ _ _ (HB0.out.trans (HB4.out.mono HB0.out.size)) HO5.out.ints).mono ?_
  rintro e w5 ⟨hb5, hres⟩
  have HQ : Hid (chainT D rows D' rows' N = ofT N d sec) := HT
  generalize ofT N d sec = r at HQ hres
  have HB5 := Lib.hid (Below.then_ HB4.out hb5)
  have HK5 := Lib.hid (HK3.out.below HB5.out)
  have kc := HK5.out.cell
  have kf := HK5.out.free
  have hz45 : w.heap.size + 3 < w4.heap.size := by have := HB4.out.size; omega
  clear ke0 ke1 ke2 hb5
  cases r with
  | none =>
    obtain rfl : e = .returned (.tuple #[.agg #[.int .i64 0, .slice none 0 0], .bool false]) := hres
    have hc1 := ((HK5.out.put 0 (.int .i64 0)).put 1 (.slice none 0 0)).cell
    go_wp2_with fail
    exact bodyPost_ret (v := .tuple #[.agg #[.int .i64 0, .slice none 0 0], .bool false]) (by simp [results, Tryz.results29, go_sem, hc1]) rfl (RetCs.no HQ.out (((HB0.out.trans (HB5.out.mono HB0.out.size)).setCell (by simp only; omega) _).setCell (by simp only; omega) _))
  | some m =>
    obtain ⟨A6, c6, rfl, hs6⟩ := hres
    have HS6 := Lib.hid hs6
    have hc1 := ((HK5.out.put 0 (.int .i64 (D + D'))).put 1 (.slice A6 m.length c6)).cell
    clear hs6
    go_wp2_with fail
    refine bodyPost_ret (v := .tuple #[.agg #[.int .i64 (D + D'), .slice A6 m.length c6], .bool true]) (by simp [results, Tryz.results29, go_sem, hc1]) rfl ?_
    rw [HQ.out]
    exact ⟨((HB0.out.trans (HB5.out.mono HB0.out.size)).setCell (by simp only; omega) _).setCell (by simp only; omega) _, A6, c6, rfl, ((HS6.out.far_ (p := ⟨w.heap.size + 1 + 1 + 1, 0, none⟩) (fun b h => by simp only; omega) _).far_ (p := ⟨w.heap.size + 1 + 1 + 1, 1, none⟩) (fun b h => by simp only; omega) _).weak fun b h => by omega⟩
end Go.Proofs.YtjoimponfeofkaaGreat
