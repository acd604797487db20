/- ViewText of the program. -/
import Derived.Test.YtjoimponfeofkaaGreatCVm3
import Derived.Test.YtjoimponfeofkaaGreatCVm2
namespace Go.Proofs.YtjoimponfeofkaaGreat
open Go.RowKit

set_option maxHeartbeats 400000 in
theorem isDepth_any (t : Int) (w : World) : Calls Tryz.prog 78 #[.int .i64 t] w (RetQ w (.bool (inB t 0 80))) := by
  go_enter Tryz.func78, Tryz.ntmps78
  go_wp2_with (go_at_call 49; refine (within_any _ _ _ _).mono ?_; rintro e w1 ⟨rfl, rfl⟩)
  go_ret
  exact ⟨rfl, rfl⟩

theorem IntsR.sizedS {w : World} {S : Nat → Prop} {v : Value} {xs : List Int} (h : IntsR w S v xs) : IntsR w (fun b => b < w.heap.size) v xs := by
  obtain ⟨A, c, rfl, h1, h2, h3⟩ := h
  exact ⟨A, c, rfl, h1, h2, fun hp => by obtain ⟨b, off, e, -, hc⟩ := h3 hp; exact ⟨b, off, e, lt_of_cell (hc 0 hp), hc⟩⟩
theorem EndsR.sized {w : World} {S : Nat → Prop} {v : Value} {xs : List (Int × Int)} (h : EndsR w S v xs) : EndsR w (fun b => b < w.heap.size) v xs := by
  obtain ⟨A, c, rfl, h1, h2, h3⟩ := h
  exact ⟨A, c, rfl, h1, h2, fun hp => by obtain ⟨b, off, e, -, hc⟩ := h3 hp; exact ⟨b, off, e, lt_of_cell (hc 0 hp).1, hc⟩⟩
theorem EndSSR.sized {w : World} {S : Nat → Prop} {v : Value} {xs : List (List (Int × Int))} (h : EndSSR w S v xs) : EndSSR w (fun b => b < w.heap.size) v xs := by
  obtain ⟨A, c, rfl, h1, h2, h3⟩ := h
  refine ⟨A, c, rfl, h1, h2, fun hp => ?_⟩
  obtain ⟨b, off, e, -, hc⟩ := h3 hp
  refine ⟨b, off, e, ?_, fun j hj => ?_⟩
  · obtain ⟨u, hu, -⟩ := hc 0 hp; exact lt_of_cell hu
  · obtain ⟨u, hu, hr⟩ := hc j hj; exact ⟨u, hu, hr.sized⟩
theorem NetR.sized_ {w : World} {S : Nat → Prop} {v : Value} {N : Net} (h : NetR w S v N) : NetR w (fun b => b < w.heap.size) v N := by
  obtain ⟨ve, vi, vn, rfl, h1, h2, h3⟩ := h
  exact ⟨ve, vi, vn, rfl, h1.sized, h2.sizedS, h3.sizedS⟩
theorem whT_le {N : Net} (hg : goodB N = true) (v p : Nat) : whT N v p ≤ p + 22 := by
  unfold whT
  by_cases hv : v < N.ends.length
  · have := (good_row hg hv).1
    split <;> omega
  · have : gl N.ends v = [] := by simp [gl, Nat.le_of_not_lt hv]
    simp [this]

set_option maxRecDepth 100000 in
set_option maxHeartbeats 2000000 in
theorem ViewText_any {S : Nat → Prop} (vN : Value) (N : Net) (v t : Nat) (w : World) (h : NetR w S vN N) (hg : goodB N = true) (hid : N.ids.length ≤ 2097152) (hv : v < N.ends.length) (ht : t ≤ 80) :
    Calls Tryz.prog 51 #[vN, .int .i64 (v : Nat), .int .i64 (t : Nat)] w (RetV w (.tuple #[.string (vtx N t v), .bool (decide ((ntx N t v).length ≤ 4000))])) := by
  have HNR := Lib.hid h
  have HG := Lib.hid hg
  have hn40 : N.ends.length ≤ 40 := (good_row hg hv).2.2.1
  obtain ⟨ve, vi, vn, rfl, he, hi, hn⟩ := h
  obtain ⟨A, c, rfl, -, -, -⟩ := he
  obtain ⟨A1, c1, rfl, -, -, -⟩ := hi
  obtain ⟨A2, c2, rfl, -, -, -⟩ := hn
  have HK0 := Lib.hid (Blk.new w 39 #[.slice A N.ends.length c, .slice A1 N.ids.length c1, .slice A2 N.inputs.length c2])
  have HB0 := Lib.hid ((Below.refl w.heap.size w).alloc (Nat.le_refl _) (.cells #[.slice A N.ends.length c, .slice A1 N.ids.length c1, .slice A2 N.inputs.length c2] 39))
  have hnd : inB (v : Int) 0 ((N.ends.length : Int) - 1) = true := inB_iff.2 ⟨by omega, by omega⟩
  have htd : inB (t : Int) 0 80 = true := inB_iff.2 ⟨by omega, by omega⟩
  have HND := Lib.hid hnd
  have HTD := Lib.hid htd
  clear hg hnd htd
  go_enter Tryz.func51, Tryz.ntmps51
  go_upto_region 4 with (first
    | (go_at_call 39; refine (IsNetwork_any _ N _ (HNR.out.below HB0.out) hid).mono ?_; rw [HG.out]; rintro e w1 ⟨rfl, hb1⟩; have HB1 := Lib.hid (Below.then_ HB0.out hb1); have HK1 := Lib.hid (HK0.out.below hb1); have k1 := HK1.out.cell; clear hb1)
    | (go_at_call 77; refine (hasNode_any A N.ends.length c _ _ v _ (by omega)).mono ?_; rw [HND.out]; rintro e w2 ⟨rfl, hb2⟩; have HB2 := Lib.hid (Below.then_ HB1.out hb2); have HK2 := Lib.hid (HK1.out.below hb2); clear hb2)
    | (go_at_call 78; refine (isDepth_any t _).mono ?_; rw [HTD.out]; rintro e w3 ⟨rfl, rfl⟩; have k2 := HK2.out.cell; clear k1)
    | (go_at_call 79; refine (viewAmounts_any _ N t 4001 3 (whT N) _ _ #[] #[.pointer (some ⟨w.heap.size, 0, none⟩)] _ (HNR.out.below HB2.out) HG.out (by omega) (by omega) (by omega) (by omega) (vt1_any _) (vt2_any _ _ _ N _ _ (HNR.out.below HB2.out) HG.out HK2.out) (fun v p hp => by have := whT_le HG.out v p; omega)).mono ?_; rintro e w4 ⟨vl, rfl, hol, hb4⟩; have HOL := Lib.hid hol; have HB4 := Lib.hid (Below.then_ HB2.out hb4); have HK4 := Lib.hid (HK2.out.below hb4); obtain ⟨Al, cl, rfl⟩ := hol.shape; clear hb4 hol k2))
  obtain ⟨La, hLa⟩ : ∃ La, La = (ntx N t v).length := ⟨_, rfl⟩
  have hlc : ∃ bl offl, Al = some ⟨bl, offl, none⟩ ∧ w4.cell? ⟨bl, offl + v, none⟩ = some (.int .i64 (min La 4001 : Nat)) := by
    obtain ⟨Ax, cx, hv', -, -, hxx⟩ := HOL.out.ints
    simp only [List.length_map, List.length_range, Value.slice.injEq, true_and] at hv' hxx
    obtain ⟨rfl, rfl⟩ := hv'
    obtain ⟨bl, offl, rfl, -, hcl⟩ := hxx (by omega)
    refine ⟨bl, offl, rfl, ?_⟩
    rw [hcl v hv, hLa, ← amt_ntx]
    simp [gi, hv]
  obtain ⟨bl, offl, rfl, hcl⟩ := hlc
  have HLA := Lib.hid hLa
  have i0 : (0 : Int) ≤ (v : Int) := by omega
  have i1 : (v : Int) < (N.ends.length : Int) := by omega
  simp only [List.length_map, List.length_range] at *
  clear hLa
  by_cases hlong : La ≤ 4000
  · have hm : min La 4001 = La := by omega
    have HD : Hid (decide ((ntx N t v).length ≤ 4000) = true) := Lib.hid (by rw [← HLA.out]; simpa using hlong)
    have HVX : Hid (vtx N t v = strB (ntx N t v)) := Lib.hid (by unfold vtx; rw [if_pos (by rw [← HLA.out]; exact hlong)])
    rw [hm] at hcl
    have g1 : ¬ (4000 : Int) < (La : Int) := by omega
    have k4 := HK4.out.cell
    have HA5 := Lib.hid ((Below.refl w4.heap.size w4).alloc (Nat.le_refl _) (.cells #[.pointer none, .slice none 0 0] 114))
    have HBD : Hid (BldR (w4.alloc (.cells #[.pointer none, .slice none 0 0] 114)) w4.heap.size w4.heap.size []) := Lib.hid (.inl ⟨Nat.le_refl _, .slice none 0 0, Blk.new _ _ _, OwnG.nil, by simp [Value.ownBlock]⟩)
    have HN5 : Hid (NetR (w4.alloc (.cells #[.pointer none, .slice none 0 0] 114)) (fun q => q < w4.heap.size) (.agg #[.slice A N.ends.length c, .slice A1 N.ids.length c1, .slice A2 N.inputs.length c2]) N) := Lib.hid (NetR.keep (NetR.sized_ (HNR.out.below HB4.out)) (fun _ h => h) (fun q hq _ => HA5.out.block q hq))
    have hz4 : w.heap.size < w4.heap.size := HK4.out.lt
    have hlen : ([] : List UInt8).length + (ntx N t v).length ≤ 4000 := by rw [← HLA.out]; simpa using hlong
    have HLE := Lib.hid hlen
    clear hm hlong hlen
    go_wp2_with (first
      | (go_at_call 82; refine (writeView_any N HG.out (t + 1) t _ _ w4.heap.size w4.heap.size v [] (by omega) HN5.out hv HLE.out (by omega) HBD.out (by simp)).mono ?_; rintro e w5 ⟨⟨rfl, hb5, hl5⟩, -⟩; have HB5 := Lib.hid hb5; have HL5 := Lib.hid (HA5.out.trans hl5); clear hb5 hl5)
      | (go_at_call 83; refine (Tryz.Builder_String_any w4.heap.size w4.heap.size (ntx N t v) _ (BldR.lib (.inr (by simpa using HB5.out))) HL5.out.size).mono ?_; rintro e w6 ⟨rfl, hb6⟩; have HL6 := Lib.hid (HL5.out.trans hb6); clear hb6))
    go_ret2
    exact ⟨by rw [HD.out, HVX.out]; rfl, Below.then_ HB4.out HL6.out⟩
  · have hm : min La 4001 = 4001 := by omega
    have HD : Hid (decide ((ntx N t v).length ≤ 4000) = false) := Lib.hid (by rw [← HLA.out]; simpa using hlong)
    have HVX : Hid (vtx N t v = strB []) := Lib.hid (by unfold vtx; rw [if_neg (by rw [← HLA.out]; exact hlong)])
    rw [hm] at hcl
    clear hm hlong
    go_wp2_with fail
    go_ret2
    exact ⟨by rw [HD.out, HVX.out]; rfl, HB4.out⟩
end Go.Proofs.YtjoimponfeofkaaGreat
