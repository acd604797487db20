/- Parts of the proof, joined: Sv3, Sv4, Lt. -/
import Derived.Test.YtjoimponfeofkaaGreatCJn20
import Derived.Test.YtjoimponfeofkaaGreatCJn19
import Derived.Test.YtjoimponfeofkaaGreatCSp2
import Derived.Test.YtjoimponfeofkaaGreatCJn2
import Derived.Test.YtjoimponfeofkaaGreatCJn1
namespace Go.Proofs.YtjoimponfeofkaaGreat
open Go.RowKit

theorem giveT_at {rows : List RowT} {s : ByteArray} {k : Nat} {is : Bool} (ha : Asc rows) (h : FindAt rows s k is) : giveT rows s = if is = true then some (ga rows k).2 else none := by
  obtain ⟨h1, h2, h3, h4⟩ := h
  rw [giveT_find ha h1 h2 h3]
  cases is with
  | true => rw [if_pos (h4.1 rfl), if_pos rfl]
  | false => rw [if_neg (fun e => by have := h4.2 e; cases this), if_neg (by decide)]
/-- what a table gives to node v: -1 if it has no row for it -/
def giveN (D : Nat) (rows : List RowT) (N : Net) (v : Nat) : Int := (giveT rows (vtx N D v)).getD (-1)
def outsT (D : Nat) (rows : List RowT) (N : Net) : List Int := (List.range N.ends.length).map (giveN D rows N)

set_option maxRecDepth 100000 in
set_option maxHeartbeats 1000000 in
theorem taAsked_any {S T : Nat → Prop} (v vN : Value) (D : Int) (rows : List RowT) (N : Net) (w : World) (h : SlR encR w S v rows) (hN : NetR w T vN N) :
    Calls Tryz.prog 34 #[.agg #[.int .i64 D, v], vN] w (RetV w (.bool (tabB D rows && goodB N))) := by
  have HR := Lib.hid h
  have HN := Lib.hid hN
  obtain ⟨A, c, rfl, -, -, -⟩ := h
  obtain ⟨ve, vi, vn, rfl, -, -, -⟩ := hN
  have hb0 : Below w.heap.size w ((w.alloc (.cells #[.int .i64 D, .slice A rows.length c] 35)).alloc (.cells #[ve, vi, vn] 39)) := ((Below.refl _ _).alloc (Nat.le_refl _) _).alloc (by simp) _
  have HB0 := Lib.hid hb0
  clear hb0
  cases ht : tabB D rows with
  | false =>
    have HT := Lib.hid (fun W (hW : Below w.heap.size w W) => taGood_any _ D rows W (HR.out.below hW))
    rw [ht] at HT
    clear ht
    go_enter Tryz.func34, Tryz.ntmps34
    go_wp2_with (go_at_call 54; refine (HT.out _ HB0.out).mono ?_; rintro e w1 ⟨rfl, hb1⟩; have HB1 := Lib.hid (Below.then_ HB0.out hb1); clear hb1)
    go_ret
    exact ⟨rfl, HB1.out⟩
  | true =>
    have HT := Lib.hid (fun W (hW : Below w.heap.size w W) => taGood_any _ D rows W (HR.out.below hW))
    rw [ht] at HT
    clear ht
    have HG := Lib.hid (fun W (hW : Below w.heap.size w W) => neGood_any _ N W (HN.out.below hW))
    generalize goodB N = gb at HG
    go_enter Tryz.func34, Tryz.ntmps34
    go_wp2_with (first
      | (go_at_call 54; refine (HT.out _ HB0.out).mono ?_; rintro e w1 ⟨rfl, hb1⟩; have HB1 := Lib.hid (Below.then_ HB0.out hb1); have k1 := (box2b hb1).2.cell; clear hb1)
      | (go_at_call 59; refine (HG.out _ HB1.out).mono ?_; rintro e w2 ⟨rfl, hb2⟩; have HB2 := Lib.hid (Below.then_ HB1.out hb2); clear hb2))
    go_ret
    exact ⟨rfl, HB2.out⟩

set_option maxRecDepth 100000 in
set_option maxHeartbeats 4000000 in
theorem taRun_any {S T : Nat → Prop} (v vN : Value) (D : Nat) (rows : List RowT) (N : Net) (w : World) (h : SlR encR w S v rows) (hN : NetR w T vN N) (hD : D ≤ 1000) (ha : Asc rows) (hg : goodB N = true) (hne : 0 < N.ends.length) :
    Calls Tryz.prog 35 #[.agg #[.int .i64 (D : Nat), v], vN] w (RetI w (outsT D rows N)) := by
  have hbd := h.bound
  have HR := Lib.hid h
  have HN := Lib.hid hN
  have HA := Lib.hid ha
  have hn40 : N.ends.length ≤ 40 := (good_row hg hne).2.2.1
  have HV := Lib.hid (fun W (hW : Below w.heap.size w W) => viTexts_any _ N D W (HN.out.below hW) hg hD hne)
  have HFD := Lib.hid (fun W (hW : Below w.heap.size w W) s => taFind_any _ (D : Nat) rows s W (HR.out.below hW))
  obtain ⟨A, c, rfl, hnc, hm, hx⟩ := h
  unfold maxLen at hm
  have HX := Lib.hid hx
  obtain ⟨ve, vi, vn, rfl, -, -, -⟩ := hN
  have hb0 : Below w.heap.size w ((w.alloc (.cells #[.int .i64 (D : Nat), .slice A rows.length c] 35)).alloc (.cells #[ve, vi, vn] 39)) := ((Below.refl _ _).alloc (Nat.le_refl _) _).alloc (by simp) _
  have HB0 := Lib.hid hb0
  clear hb0 hx ha hg
  go_enter Tryz.func35, Tryz.ntmps35
  go_wp2_with (go_at_call 60; refine (HV.out _ HB0.out).mono ?_; rintro e wv ⟨At, ct, rfl, hot, hb1⟩; have HB1 := Lib.hid (Below.then_ HB0.out hb1); have HK1 := Lib.hid (box2b hb1).1; have HOT := Lib.hid (hot.mono (B' := w.heap.size) (by simp; omega)); clear hb1 hot)
  have hzv := HB1.out.size
  go_loopw [15, 5] (fun x15 x5 wr => ∃ (j : Nat) (Ao : Option Addr) (co : Nat), j ≤ N.ends.length ∧ x15 = .int .i64 j ∧ x5 = .slice Ao j co ∧ OwnI wr wv.heap.size (.slice Ao j co) ((List.range j).map (giveN D rows N)) ∧
      OwnG encS 9 wr w.heap.size (.slice At N.ends.length ct) ((List.range N.ends.length).map (vtx N D)) ∧
      Blk wr w.heap.size 35 #[.int .i64 (D : Nat), .slice A rows.length c] ∧ Below w.heap.size w wr ∧ wv.heap.size ≤ wr.heap.size) (fun x15 _ _ => N.ends.length - (intOf x15).toNat)
  case atStart => exact ⟨0, none, 0, Nat.zero_le _, rfl, rfl, OwnI.nil, HOT.out, HK1.out, HB1.out, Nat.le_refl _⟩
  case round =>
    obtain ⟨j, Ao, co, hj, rfl, rfl, hown, hot, hkb, hbel, hz⟩ := hrel
    obtain ⟨wr2, rfl⟩ : ∃ wr2, wr2 = wr := ⟨_, rfl⟩
    have HOW := Lib.hid hown
    have HO2 := Lib.hid hot
    have HK2 := Lib.hid hkb
    have HB2 := Lib.hid hbel
    have kc := hkb.cell
    clear hown hot hkb hbel
    by_cases hlt : j < N.ends.length
    · have LT : Hid (∀ g, (Value.slice At N.ends.length ct).ownBlock = some g → g < wv.heap.size) := Lib.hid fun g hg => (HOT.out.lt g hg).2
      obtain ⟨gt, ctt, hvt, -, hgt, -, -⟩ := HO2.out.addr (by simp; omega)
      simp only [Value.slice.injEq, List.length_map, List.length_range, true_and] at hvt
      obtain ⟨rfl, rfl⟩ := hvt
      have q3 : wr2.cell? ⟨gt, j, none⟩ = some (.string (vtx N D j)) := by
        have := (HO2.out.at_ (j := j) (by simp; omega)).1 0 (by decide)
        rw [show j * encS.k + 0 = j by show j * 1 + 0 = j; omega] at this
        rw [this]
        simp [encS, ga, hlt]
      have i0 : (0 : Int) ≤ (j : Int) := by omega
      have i1 : (j : Int) < (N.ends.length : Int) := by omega
      have HGN : Hid (giveN D rows N j = (giveT rows (vtx N D j)).getD (-1)) := Lib.hid rfl
      generalize vtx N D j = tv at q3 HGN
      go_upto_region 6 with (go_at_call 61; refine (HFD.out _ HB2.out _).mono ?_; rintro e w4 ⟨k, is, rfl, hfd, hb4⟩; have HB4 := Lib.hid hb4; have HFA := Lib.hid hfd; clear hb4 hfd)
      have kc4 := (HK2.out.below HB4.out).cell
      have hz4 := HB4.out.size
      have FIN := Lib.hid (show ∀ (o : Obj) (q : Int) (A5 : Option Addr) (c5 : Nat) (w5 : World), giveN D rows N j = q →
          OwnI w5 wv.heap.size (.slice A5 (j + 1) c5) ((List.range j).map (giveN D rows N) ++ [q]) → (w4.alloc o).grownBy w5 (Value.slice Ao j co).ownBlock →
          OwnI w5 wv.heap.size (.slice A5 (j + 1) c5) ((List.range (j + 1)).map (giveN D rows N)) ∧
          OwnG encS 9 w5 w.heap.size (.slice (some ⟨gt, 0, none⟩) N.ends.length ct) ((List.range N.ends.length).map (vtx N D)) ∧
          Blk w5 w.heap.size 35 #[.int .i64 (D : Nat), .slice A rows.length c] ∧ Below w.heap.size w w5 ∧ wv.heap.size ≤ w5.heap.size by
        intro o q A5 c5 w5 hX ho5 hg5
        have hbx := HB4.out.alloc HB4.out.size o
        have hl7 := fun g hg => (HOW.out.lt g hg).1
        have hz4 := hbx.size
        have hz5 := hg5.size
        have hl2 := HK2.out.lt
        refine ⟨by rw [range_snoc, hX]; exact ho5, ?_, ?_, ?_, by omega⟩
        · exact (HO2.out.below hbx).keepB fun b hv => hg5.block b (by have := (HO2.out.lt b hv).2; omega) (fun e => by have := hl7 b e.symm; have := LT.out b hv; omega)
        · exact (hg5.block _ (by omega) (fun e => by have := hl7 _ e.symm; have := HK1.out.lt; omega)).trans (HK2.out.below hbx)
        · exact (HB2.out.trans (hbx.mono (by omega))).grown hg5 (by omega) (fun g hg => by have := hl7 g hg; omega))
      cases is with
      | true =>
        obtain ⟨hkl, -⟩ := HFA.out.2.2.2.1 rfl
        have HQ : Hid (giveN D rows N j = (ga rows k).2) := Lib.hid (by rw [HGN.out, giveT_at HA.out HFA.out]; rfl)
        obtain ⟨b, off, rfl, -, hbl, hc⟩ := HX.out (by omega)
        have c1 : w4.cell? ⟨b, off + k * 2 + 1, none⟩ = some (.int .i64 (ga rows k).2) := by
          rw [(HB2.out.trans (HB4.out.mono HB2.out.size)).cell (p := ⟨b, off + k * 2 + 1, none⟩) hbl]; simpa [encR] using hc k hkl 1 (by decide)
        have k0 : (0 : Int) ≤ (k : Int) := by omega
        have k1 : (k : Int) < (rows.length : Int) := by omega
        clear hc
        go_upto_region 9 with (refine wpList_append_int _ rfl (.tmp 26) (.tmp 33) rfl wv.heap.size (.slice Ao j co) ((List.range j).map (giveN D rows N)) rfl (HOW.out.below (HB4.out.alloc HB4.out.size _)) _ (ga rows k).2 rfl (cell_one _ _ _) (by simp; omega) (by simp; omega) ?_; intro A5 c5 w5 ho5 hg5)
        obtain ⟨f1, f2, f3, f4, f5⟩ := FIN.out _ _ A5 c5 w5 HQ.out (by simpa using ho5) hg5
        have F1 := Lib.hid f1
        have F2 := Lib.hid f2
        have F3 := Lib.hid f3
        have F4 := Lib.hid f4
        clear f1 f2 f3 f4 ho5 hg5
        go_wp2_with fail
        go_roundw
        case rel => exact ⟨j + 1, A5, c5, by omega, by go_num, rfl, F1.out, F2.out, F3.out, F4.out, f5⟩
        case measure => simp [intOf]; omega
      | false =>
        have HQ : Hid (giveN D rows N j = -1) := Lib.hid (by rw [HGN.out, giveT_at HA.out HFA.out]; rfl)
        go_upto_region 9 with (refine wpList_append_int _ rfl (.tmp 35) (.tmp 36) rfl wv.heap.size (.slice Ao j co) ((List.range j).map (giveN D rows N)) rfl (HOW.out.below (HB4.out.alloc HB4.out.size _)) _ (-1) rfl (cell_one _ _ _) (by simp; omega) (by simp; omega) ?_; intro A5 c5 w5 ho5 hg5)
        obtain ⟨f1, f2, f3, f4, f5⟩ := FIN.out _ _ A5 c5 w5 HQ.out (by simpa using ho5) hg5
        have F1 := Lib.hid f1
        have F2 := Lib.hid f2
        have F3 := Lib.hid f3
        have F4 := Lib.hid f4
        clear f1 f2 f3 f4 ho5 hg5
        go_wp2_with fail
        go_roundw
        case rel => exact ⟨j + 1, A5, c5, by omega, by go_num, rfl, F1.out, F2.out, F3.out, F4.out, f5⟩
        case measure => simp [intOf]; omega
    · obtain rfl : j = N.ends.length := by omega
      go_wp2_with fail
      go_ret
      exact ⟨_, rfl, HOW.out.mono (by omega), HB2.out⟩
end Go.Proofs.YtjoimponfeofkaaGreat

namespace Go.Proofs.YtjoimponfeofkaaGreat
open Go.RowKit

theorem good_some {N : Net} (h : goodB N = true) : 0 < N.ends.length := by
  have := (inB_iff.1 (goodB_iff.1 h).1).1
  omega
theorem tab_D {D : Int} {rows : List RowT} (h : tabB D rows = true) : ∃ d : Nat, D = (d : Int) ∧ d ≤ 4 := by
  have := inB_iff.1 (tabB_iff.1 h).1
  exact ⟨D.toNat, by omega, by omega⟩
/-- answers of ints, or none -/
def RetO (w : World) (r : Option (List Int)) (e : Ending) (w' : World) : Prop :=
  ∃ v, e = .returned (.tuple #[v, .bool r.isSome]) ∧ OwnI w' w.heap.size v (r.getD []) ∧ Below w.heap.size w w'
noncomputable def runT (D : Int) (rows : List RowT) (N : Net) : Option (List Int) :=
  if (tabB D rows && goodB N) = true then (if hasB (outsT D.toNat rows N) (-1) = true then none else some (outsT D.toNat rows N)) else none
def missL (xs : List Int) : List Int := ((List.range xs.length).filter fun j => decide (gi xs j < 0)).map (fun j : Nat => (j : Int))
noncomputable def missT (D : Int) (rows : List RowT) (N : Net) : Option (List Int) := if (tabB D rows && goodB N) = true then some (missL (outsT D.toNat rows N)) else none

set_option maxRecDepth 100000 in
set_option maxHeartbeats 2000000 in
theorem RunTable_ref {S T : Nat → Prop} (v vN : Value) (D : Int) (rows : List RowT) (N : Net) (w : World) (h : SlR encR w S v rows) (hN : NetR w T vN N) :
    Calls Tryz.prog 21 #[.agg #[.int .i64 D, v], vN] w (RetO w (runT D rows N)) := by
  have HR := Lib.hid h
  have HN := Lib.hid hN
  obtain ⟨A, c, rfl, -, -, -⟩ := h
  obtain ⟨ve, vi, vn, rfl, -, -, -⟩ := hN
  have hb0 : Below w.heap.size w ((w.alloc (.cells #[.int .i64 D, .slice A rows.length c] 35)).alloc (.cells #[ve, vi, vn] 39)) := ((Below.refl _ _).alloc (Nat.le_refl _) _).alloc (by simp) _
  have HB0 := Lib.hid hb0
  clear hb0
  have HT := Lib.hid (fun W (hW : Below w.heap.size w W) => taAsked_any _ _ D rows N W (HR.out.below hW) (HN.out.below hW))
  cases ht : (tabB D rows && goodB N) with
  | false =>
    have HV : Hid (runT D rows N = none) := Lib.hid (by unfold runT; rw [ht]; rfl)
    rw [ht] at HT
    clear ht
    go_enter Tryz.func21, Tryz.ntmps21
    go_wp2_with (go_at_call 34; refine (HT.out _ HB0.out).mono ?_; rintro e w1 ⟨rfl, hb1⟩; have HB1 := Lib.hid (Below.then_ HB0.out hb1); clear hb1)
    go_ret2
    exact ⟨_, by rw [HV.out]; rfl, by rw [HV.out]; exact OwnI.nil, HB1.out⟩
  | true =>
    obtain ⟨ht1, ht2⟩ := (Bool.and_eq_true _ _).mp ht
    obtain ⟨d, rfl, hd⟩ := tab_D ht1
    have HRN := Lib.hid (fun W (hW : Below w.heap.size w W) => taRun_any _ _ d rows N W (HR.out.below hW) (HN.out.below hW) (by omega) (tabB_iff.1 ht1).2.2.2 ht2 (good_some ht2))
    have HV : Hid (runT d rows N = if hasB (outsT d rows N) (-1) = true then none else some (outsT d rows N)) := Lib.hid (by unfold runT; rw [ht]; rfl)
    rw [ht] at HT
    clear ht ht1 ht2
    generalize outsT d rows N = xs at HRN HV
    generalize runT d rows N = r at HV ⊢
    cases hh : hasB xs (-1) with
    | true =>
      have HH := Lib.hid hh
      rw [hh] at HV
      clear hh
      go_enter Tryz.func21, Tryz.ntmps21
      go_wp2_with (first
        | (go_at_call 34; refine (HT.out _ HB0.out).mono ?_; rintro e w1 ⟨rfl, hb1⟩; have HB1 := Lib.hid (Below.then_ HB0.out hb1); obtain ⟨k1, k2⟩ := box2b hb1; have kc1 := k1.cell; have kc2 := k2.cell; clear hb1 k1 k2)
        | (go_at_call 35; refine (HRN.out _ HB1.out).mono ?_; rintro e w2 ⟨vo, rfl, hvo, hb2⟩; have HB2 := Lib.hid (Below.then_ HB1.out hb2); have HVO := Lib.hid hvo; obtain ⟨Ao, co, rfl⟩ := hvo.shape; clear hb2 hvo kc1 kc2)
        | (go_at_call 45; refine (l1Has_any _ xs (-1) _ HVO.out.ints).mono ?_; rintro e w3 ⟨rfl, rfl⟩; rw [HH.out]))
      go_ret2
      exact ⟨_, by rw [HV.out]; rfl, by rw [HV.out]; exact OwnI.nil, HB2.out⟩
    | false =>
      have HH := Lib.hid hh
      rw [hh] at HV
      clear hh
      go_enter Tryz.func21, Tryz.ntmps21
      go_wp2_with (first
        | (go_at_call 34; refine (HT.out _ HB0.out).mono ?_; rintro e w1 ⟨rfl, hb1⟩; have HB1 := Lib.hid (Below.then_ HB0.out hb1); obtain ⟨k1, k2⟩ := box2b hb1; have kc1 := k1.cell; have kc2 := k2.cell; clear hb1 k1 k2)
        | (go_at_call 35; refine (HRN.out _ HB1.out).mono ?_; rintro e w2 ⟨vo, rfl, hvo, hb2⟩; have HB2 := Lib.hid (Below.then_ HB1.out hb2); have HVO := Lib.hid hvo; have HM := Lib.hid HB1.out.size; obtain ⟨Ao, co, rfl⟩ := hvo.shape; clear hb2 hvo kc1 kc2)
        | (go_at_call 45; refine (l1Has_any _ xs (-1) _ HVO.out.ints).mono ?_; rintro e w3 ⟨rfl, rfl⟩; rw [HH.out]))
      go_ret2
      exact ⟨_, by rw [HV.out]; rfl, by rw [HV.out]; exact HVO.out.mono HM.out, HB2.out⟩
def misN (xs : List Int) (j : Nat) : List Int := ((List.range j).filter fun i => decide (gi xs i < 0)).map (fun i : Nat => (i : Int))
theorem misN_succ (xs : List Int) (j : Nat) : misN xs (j + 1) = if gi xs j < 0 then misN xs j ++ [(j : Int)] else misN xs j := by
  unfold misN
  rw [List.range_succ, List.filter_append, List.map_append]
  by_cases h : gi xs j < 0 <;> simp [h]
theorem misN_len (xs : List Int) (j : Nat) : (misN xs j).length ≤ j := by
  unfold misN
  rw [List.length_map]
  exact Nat.le_trans (List.length_filter_le _ _) (by simp)

set_option maxRecDepth 100000 in
set_option maxHeartbeats 2000000 in
theorem MissingNodes_ref {S T : Nat → Prop} (v vN : Value) (D : Int) (rows : List RowT) (N : Net) (w : World) (h : SlR encR w S v rows) (hN : NetR w T vN N) :
    Calls Tryz.prog 10 #[.agg #[.int .i64 D, v], vN] w (RetO w (missT D rows N)) := by
  have HR := Lib.hid h
  have HN := Lib.hid hN
  obtain ⟨A, c, rfl, -, -, -⟩ := h
  obtain ⟨ve, vi, vn, rfl, -, -, -⟩ := hN
  have hb0 : Below w.heap.size w ((w.alloc (.cells #[.int .i64 D, .slice A rows.length c] 35)).alloc (.cells #[ve, vi, vn] 39)) := ((Below.refl _ _).alloc (Nat.le_refl _) _).alloc (by simp) _
  have HB0 := Lib.hid hb0
  clear hb0
  have HT := Lib.hid (fun W (hW : Below w.heap.size w W) => taAsked_any _ _ D rows N W (HR.out.below hW) (HN.out.below hW))
  cases ht : (tabB D rows && goodB N) with
  | false =>
    have HV : Hid (missT D rows N = none) := Lib.hid (by unfold missT; rw [ht]; rfl)
    rw [ht] at HT
    clear ht
    go_enter Tryz.func10, Tryz.ntmps10
    go_wp2_with (go_at_call 34; refine (HT.out _ HB0.out).mono ?_; rintro e w1 ⟨rfl, hb1⟩; have HB1 := Lib.hid (Below.then_ HB0.out hb1); clear hb1)
    go_ret2
    exact ⟨_, by rw [HV.out]; rfl, by rw [HV.out]; exact OwnI.nil, HB1.out⟩
  | true =>
    obtain ⟨ht1, ht2⟩ := (Bool.and_eq_true _ _).mp ht
    obtain ⟨d, rfl, hd⟩ := tab_D ht1
    have hn40 : N.ends.length ≤ 40 := (good_row ht2 (good_some ht2)).2.2.1
    have HRN := Lib.hid (fun W (hW : Below w.heap.size w W) => taRun_any _ _ d rows N W (HR.out.below hW) (HN.out.below hW) (by omega) (tabB_iff.1 ht1).2.2.2 ht2 (good_some ht2))
    have HV : Hid (missT d rows N = some (missL (outsT d rows N))) := Lib.hid (by unfold missT; rw [ht]; rfl)
    have hxn : (outsT d rows N).length ≤ 40 := by unfold outsT; simpa using hn40
    rw [ht] at HT
    clear ht ht1 ht2
    generalize outsT d rows N = xs at HRN HV hxn
    generalize missT d rows N = r at HV ⊢
    go_enter Tryz.func10, Tryz.ntmps10
    go_wp2_with (first
      | (go_at_call 34; refine (HT.out _ HB0.out).mono ?_; rintro e w1 ⟨rfl, hb1⟩; have HB1 := Lib.hid (Below.then_ HB0.out hb1); obtain ⟨k1, k2⟩ := box2b hb1; have kc1 := k1.cell; have kc2 := k2.cell; clear hb1 k1 k2)
      | (go_at_call 35; refine (HRN.out _ HB1.out).mono ?_; rintro e wv ⟨vo, rfl, hvo, hb2⟩; have HB2 := Lib.hid (Below.then_ HB1.out hb2); have HVO := Lib.hid (hvo.mono HB1.out.size); obtain ⟨Ao, co, rfl⟩ := hvo.shape; clear hb2 hvo kc1 kc2))
    have LT : Hid (∀ g, (Value.slice Ao xs.length co).ownBlock = some g → g < wv.heap.size) := Lib.hid fun g hg => (HVO.out.lt g hg).2
    go_loopw [17, 6] (fun x17 x6 wr => ∃ (j : Nat) (Am : Option Addr) (cm : Nat), j ≤ xs.length ∧ x17 = .int .i64 j ∧ x6 = .slice Am (misN xs j).length cm ∧ OwnI wr wv.heap.size (.slice Am (misN xs j).length cm) (misN xs j) ∧
        OwnI wr w.heap.size (.slice Ao xs.length co) xs ∧ Below w.heap.size w wr ∧ wv.heap.size ≤ wr.heap.size) (fun x17 _ _ => xs.length - (intOf x17).toNat)
    case atStart => exact ⟨0, none, 0, Nat.zero_le _, rfl, rfl, OwnI.nil, HVO.out, HB2.out, Nat.le_refl _⟩
    case round =>
      obtain ⟨j, Am, cm, hj, rfl, rfl, hown, hox, hbel, hz⟩ := hrel
      obtain ⟨wr2, rfl⟩ : ∃ wr2, wr2 = wr := ⟨_, rfl⟩
      have HOW := Lib.hid hown
      have HOX := Lib.hid hox
      have HB3 := Lib.hid hbel
      have hml := misN_len xs j
      have HMS := Lib.hid (misN_succ xs j)
      clear hown hox hbel
      by_cases hlt : j < xs.length
      · obtain ⟨Ax, cx, hv, -, -, hxx⟩ := HOX.out.ints
        cases hv
        obtain ⟨b, off, rfl, -, hc⟩ := hxx (by omega)
        have c1 := hc j hlt
        have hbo : b < wv.heap.size := LT.out b (by have := HOX.out.ints; simp_all [Value.ownBlock])
        have i0 : (0 : Int) ≤ (j : Int) := by omega
        have i1 : (j : Int) < (xs.length : Int) := by omega
        clear hc hxx
        by_cases hneg : gi xs j < 0
        · have HM1 := Lib.hid (HMS.out.trans (if_pos hneg))
          go_upto_region 9 with (refine wpList_append_int _ rfl (.tmp 24) (.tmp 26) rfl wv.heap.size (.slice Am (misN xs j).length cm) (misN xs j) rfl (HOW.out.below ((Below.refl _ _).alloc (Nat.le_refl _) _)) _ (j : Nat) rfl (cell_one _ _ _) (by omega) (by simp; omega) ?_; intro A5 c5 w5 ho5 hg5)
          have hbx : Below wr2.heap.size wr2 (wr2.alloc (.cells #[.int .i64 (j : Nat)] 3)) := (Below.refl _ _).alloc (Nat.le_refl _) _
          have hz5 := hg5.size
          have hzx := hbx.size
          have F1 : Hid (OwnI w5 wv.heap.size (.slice A5 (misN xs (j + 1)).length c5) (misN xs (j + 1))) := Lib.hid (by rw [HM1.out, List.length_append]; exact ho5)
          have F2 : Hid (OwnI w5 w.heap.size (.slice (some ⟨b, off, none⟩) xs.length co) xs) := Lib.hid ((HOX.out.below hbx).keepO fun g hv => hg5.block g (by have := LT.out g hv; omega) (fun e => by have := (HOW.out.lt g e.symm).1; have := LT.out g hv; omega))
          have F3 : Hid (Below w.heap.size w w5) := Lib.hid ((HB3.out.trans (hbx.mono HB3.out.size)).grown hg5 (by have := HB3.out.size; omega) (fun g hg => by have := (HOW.out.lt g hg).1; have := HB2.out.size; omega))
          have hlen : (misN xs (j + 1)).length = (misN xs j).length + 1 := by rw [HM1.out]; simp
          clear ho5 hg5 hbx
          go_wp2_with fail
          go_roundw
          case rel => exact ⟨j + 1, A5, c5, by omega, by go_num, by rw [hlen], F1.out, F2.out, F3.out, by omega⟩
          case measure => simp [intOf]; omega
        · have HM1 := Lib.hid (HMS.out.trans (if_neg hneg))
          go_wp2_with fail
          go_roundw
          case rel => exact ⟨j + 1, Am, cm, by omega, by go_num, by rw [HM1.out], by rw [HM1.out]; exact HOW.out, HOX.out, HB3.out, hz⟩
          case measure => simp [intOf]; omega
      · obtain rfl : j = xs.length := by omega
        go_wp2_with fail
        go_ret2
        exact ⟨_, by rw [HV.out]; rfl, by rw [HV.out]; exact HOW.out.mono HB2.out.size, HB3.out⟩
end Go.Proofs.YtjoimponfeofkaaGreat

namespace Go.Proofs.YtjoimponfeofkaaGreat
open Go.RowKit

theorem RetO.out_ {w w' : World} {r : Option (List Int)} {e : Ending} (h : RetO w r e w') :
    ∃ A c, e = .returned (.tuple #[.slice A (r.getD []).length c, .bool r.isSome]) ∧ Below w.heap.size w w' ∧ OwnI w' w.heap.size (.slice A (r.getD []).length c) (r.getD []) := by
  obtain ⟨v, rfl, ho, hb⟩ := h
  obtain ⟨A, c, rfl⟩ := ho.shape
  exact ⟨A, c, rfl, hb, ho⟩
theorem outsT_len (D : Nat) (rows : List RowT) (N : Net) : (outsT D rows N).length = N.ends.length := by simp [outsT]
theorem runT_len (D : Int) (rows : List RowT) (N : Net) : ((runT D rows N).getD []).length ≤ 4096 := by
  unfold runT
  split
  · rename_i h
    have hg := ((Bool.and_eq_true _ _).mp h).2
    have := (good_row hg (good_some hg)).2.2.1
    split
    · simp
    · simp only [Option.getD_some, outsT_len]; omega
  · simp
theorem missL_len (xs : List Int) : (missL xs).length ≤ xs.length := misN_len xs xs.length
theorem missT_len (D : Int) (rows : List RowT) (N : Net) : ((missT D rows N).getD []).length ≤ 4096 := by
  unfold missT
  split
  · rename_i h
    have hg := ((Bool.and_eq_true _ _).mp h).2
    have := (good_row hg (good_some hg)).2.2.1
    have := missL_len (outsT D.toNat rows N)
    rw [outsT_len] at this
    simp only [Option.getD_some]; omega
  · simp
end Go.Proofs.YtjoimponfeofkaaGreat
