/- Parts of the proof, joined: Cn8, Drv. -/
import Derived.Test.YtljjbhihllnnaaaGreatCJn27
import Derived.Test.YtljjbhihllnnaaaGreatCCn7
import Derived.Test.YtljjbhihllnnaaaGreatCJn25
import Derived.Test.YtljjbhihllnnaaaGreatCJn7
namespace Go.Proofs.YtljjbhihllnnaaaGreat
open Go.RowKit

set_option maxRecDepth 100000 in
set_option maxHeartbeats 8000000 in
theorem anyNet_any (w : World) (gc : Nat) (cv : Value) (L A m : Nat) (hc : CurR w gc cv L A) (hp : A + 576460752340000000 ≤ 4611686018427387900) (hf : FarV cv w.heap.size) (hm1 : 1 ≤ m) (hm2 : m ≤ 38) :
    Calls Tryz.prog 103 #[.pointer (some ⟨gc, 0, none⟩), .int .i64 m] w (RetDr w w.heap.size gc cv L (A + 576460752340000000) Tame) := by
  have hgc := hc.lt
  have HF0 := Lib.hid hf
  have HB0 := Lib.hid ((Below.refl w.heap.size w).alloc (Nat.le_refl _) (.cells #[.slice none 0 0, .slice none 0 0, .slice none 0 0] 27))
  have HR0 := Lib.hid (Blk.new w 27 #[.slice none 0 0, .slice none 0 0, .slice none 0 0])
  have HC0 := Lib.hid (hc.keep HB0.out)
  clear hc hf
  go_enter Tryz.func103, Tryz.ntmps103
  go_wp2_with fail
  have hza : (w.alloc (.cells #[.slice none 0 0, .slice none 0 0, .slice none 0 0] 27)).heap.size = w.heap.size + 1 := by simp
  generalize w.alloc (.cells #[.slice none 0 0, .slice none 0 0, .slice none 0 0] 27) = wa at *
  go_upto_region 2 with (go_at_call 62; refine (net_any wa gc cv L A m HC0.out (by omega) (HF0.out.mono (by omega)) hm1 hm2).mono ?_; rintro e w1 ⟨v1, N1, rfl, ho1, hd1, hc1, hcb1⟩; obtain ⟨E0, e0, E1, e1, E2, e2, rfl⟩ := ho1.parts)
  have hz1 := hcb1.size
  have hal : Below w1.heap.size w1 (w1.alloc (.cells #[.slice E0 N1.ends.length e0, .slice E1 N1.ids.length e1, .slice E2 N1.inputs.length e2] 27)) := (Below.refl _ _).alloc (Nat.le_refl _) _
  have HD1 : Hid (DS w gc cv L (A + 576460752303423488) wa.heap.size w1.heap.size w.heap.size (.slice E0 N1.ends.length e0) (.slice E1 N1.ids.length e1) (.slice E2 N1.inputs.length e2) N1 (w1.alloc (.cells #[.slice E0 N1.ends.length e0, .slice E1 N1.ids.length e1, .slice E2 N1.inputs.length e2] 27))) :=
    Lib.hid ⟨Blk.new w1 _ _, ho1.below hal, hc1.keep hal, ((CurB.of_below HB0.out (Nat.le_refl _)).trans (hcb1.mono (by omega))).trans (CurB.of_below hal (by omega)), (HR0.out.curB hcb1 (by omega) (by omega)).alloc _⟩
  have hF : DF w gc cv wa.heap.size w1.heap.size w.heap.size := ⟨hgc, HF0.out, by omega, by omega, Nat.le_refl _, by omega⟩
  have HF := Lib.hid hF
  have HDR : Hid (Drawn 40 500 N1) := Lib.hid (hd1.mono (by omega) (by omega))
  obtain ⟨g1, hg1⟩ : ∃ g1, g1 = w1.heap.size := ⟨_, rfl⟩
  rw [← hg1] at HD1 HF ⊢
  clear hd1 ho1 hc1 hcb1 hal hF HR0 HC0 HB0 hg1
  generalize w1.alloc (.cells #[.slice E0 N1.ends.length e0, .slice E1 N1.ids.length e1, .slice E2 N1.inputs.length e2] 27) = w2 at *
  go_upto_region 3 with (go_at_call 64; refine (one_any _ gc cv L (A + 576460752303423488) 3 HD1.out.cu (by omega)).mono ?_; rintro e w3 ⟨b, rfl, hc3, hg3⟩; have HD := Lib.hid (HD1.out.grown HF.out hg3 hc3); have kb := HD.out.bx.cell; cases b)
  all_goals
    clear HD1 hc3 hg3
    have HS := Lib.hid (HDR.out.small (by omega) (by omega))
    have HIN := Lib.hid (HD.out.ow.net (S := fun _ => True) (fun _ _ _ => trivial))
  · have hT : True := trivial
    go_wp2_with (go_at_call 157; refine (neBend_any (S := fun _ => True) _ gc cv L (A + 576460752303423488 + 2) _ N1 HD.out.cu (by omega) (HF.out.far.mono HD.out.wsz) HIN.out HDR.out).mono ?_; rintro e w6 ⟨v6, N6, rfl, ho6, hd6, hc6, hcb6⟩; obtain ⟨G0, d0, G1, d1, G2, d2, rfl⟩ := ho6.parts; obtain ⟨hr6, q1, q2, q3⟩ := resStore HD.out.re HF0.out hgc HD.out.cb (ho6.mono (by have := HD.out.re.lt; omega)) hc6 (hcb6.mono (by have := HD.out.re.lt; omega)); have HQ := Lib.hid (And.intro q1 (And.intro q2 q3)); have HAL := Lib.hid hd6; have kr := hr6.cell; have fr := hr6.free; have hfin := (set3_blk (x := .slice G0 N6.ends.length d0) (y := .slice G1 N6.ids.length d1) (z := .slice G2 N6.inputs.length d2) hr6).cell; clear ho6 hd6 hc6 hcb6 hr6 q1 q2 q3)
    unfold set3 at hfin
    exact bodyPost_ret (v := .agg #[.slice G0 N6.ends.length d0, .slice G1 N6.ids.length d1, .slice G2 N6.inputs.length d2]) (by simp [results, Tryz.results103, go_sem, hfin]) rfl ⟨_, N6, rfl, HQ.out.1, HAL.out, HQ.out.2.1.mono (by omega), HQ.out.2.2⟩
  · go_upto_region 4 with (go_at_call 156; refine (withIds_any (S := fun _ => True) _ gc cv L (A + 576460752303423488 + 2) _ N1 HD.out.cu (by omega) (HF.out.far.mono HD.out.wsz) HIN.out HS.out).mono ?_; rintro e w5 ⟨v5, N5, rfl, ho5, hi5, hc5, hcb5⟩; obtain ⟨G0, d0, G1, d1, G2, d2, rfl⟩ := ho5.parts; obtain ⟨hb5, hD5, hF5⟩ := HD.out.storeC HF.out ho5 hc5 hcb5; have kb5 := hb5.cell; have kf5 := hb5.free)
    have HD5 := Lib.hid hD5
    have HF5 := Lib.hid hF5
    have HDR5 := Lib.hid (HDR.out.withIds hi5)
    unfold set3 at HD5
    clear hb5 hD5 hF5 kb5 kf5 ho5 hc5 hcb5 hi5 kb HIN
    generalize ((w5.setCell ⟨g1, 0, none⟩ (.slice G0 N5.ends.length d0)).setCell ⟨g1, 1, none⟩ (.slice G1 N5.ids.length d1)).setCell ⟨g1, 2, none⟩ (.slice G2 N5.inputs.length d2) = w7 at *
    have kb := HD5.out.bx.cell
    have HIN := Lib.hid (HD5.out.ow.net (S := fun _ => True) (fun _ _ _ => trivial))
    go_wp2_with (go_at_call 157; refine (neBend_any (S := fun _ => True) _ gc cv L (A + 576460752303423488 + 2 + 4194304) _ N5 HD5.out.cu (by omega) (HF5.out.far.mono HD5.out.wsz) HIN.out HDR5.out).mono ?_; rintro e w6 ⟨v6, N6, rfl, ho6, hd6, hc6, hcb6⟩; obtain ⟨G0, d0, G1, d1, G2, d2, rfl⟩ := ho6.parts; obtain ⟨hr6, q1, q2, q3⟩ := resStore HD5.out.re HF0.out hgc HD5.out.cb (ho6.mono (by have := HD5.out.re.lt; omega)) hc6 (hcb6.mono (by have := HD5.out.re.lt; omega)); have HQ := Lib.hid (And.intro q1 (And.intro q2 q3)); have HAL := Lib.hid hd6; have kr := hr6.cell; have fr := hr6.free; have hfin := (set3_blk (x := .slice G0 N6.ends.length d0) (y := .slice G1 N6.ids.length d1) (z := .slice G2 N6.inputs.length d2) hr6).cell; clear ho6 hd6 hc6 hcb6 hr6 q1 q2 q3)
    unfold set3 at hfin
    exact bodyPost_ret (v := .agg #[.slice G0 N6.ends.length d0, .slice G1 N6.ids.length d1, .slice G2 N6.inputs.length d2]) (by simp [results, Tryz.results103, go_sem, hfin]) rfl ⟨_, N6, rfl, HQ.out.1, HAL.out, HQ.out.2.1.mono (by omega), HQ.out.2.2⟩
end Go.Proofs.YtljjbhihllnnaaaGreat

namespace Go.Proofs.YtljjbhihllnnaaaGreat
open Go.RowKit

set_option maxRecDepth 100000 in
set_option maxHeartbeats 1000000 in
theorem depth_any (w : World) (gc : Nat) (cv : Value) (L A : Nat) (h : CurR w gc cv L A) (hp : A ≤ 4611686018427387900) :
    Calls Tryz.prog 104 #[.pointer (some ⟨gc, 0, none⟩)] w (RetPk w gc cv L (A + 2) (fun _ => True)) := by
  have hgc := h.lt
  have HW := Lib.hid (h.keep ((Below.refl w.heap.size w).alloc (Nat.le_refl _) (.cells #[.int .i64 0, .int .i64 1, .int .i64 1, .int .i64 2, .int .i64 2, .int .i64 3, .int .i64 4, .int .i64 6, .int .i64 80, .int .i64 81, .int .i64 (-1)] 3)))
  have HL := Lib.hid (IntsR.built w 3 [0, 1, 1, 2, 2, 3, 4, 6, 80, 81, -1] (by simp))
  clear h
  go_enter Tryz.func104, Tryz.ntmps104
  go_wp2_with (go_at_call 87; refine (among_any _ gc cv L A _ [0, 1, 1, 2, 2, 3, 4, 6, 80, 81, -1] HW.out hp HL.out (by rintro b rfl; omega) (by simp) (by simp)).mono ?_; rintro e w1 ⟨x, rfl, -, hc1, hg1⟩; have HC1 := Lib.hid hc1; have HG1 := Lib.hid ((World.grownBy_alloc w _ _).trans hg1); clear hc1 hg1)
  go_ret
  exact ⟨x, rfl, trivial, HC1.out, HG1.out⟩

set_option maxRecDepth 100000 in
set_option maxHeartbeats 4000000 in
theorem DrawViewSize_any (w : World) (cv : Value) (L : Nat) (hcd : CodeR w cv L) :
    Calls Tryz.prog 44 #[cv] w (RetD3 w) := by
  have HCD := Lib.hid hcd
  have HF0 := Lib.hid hcd.far
  obtain ⟨wz, hwz⟩ : ∃ wz, wz = (w.alloc (.cells #[.slice none 0 0, .slice none 0 0, .slice none 0 0] 27)) := ⟨_, rfl⟩
  have hzs : wz.heap.size = w.heap.size + 1 := by rw [hwz]; simp
  have hbz : Below w.heap.size w wz := by rw [hwz]; exact ((Below.refl _ _).alloc (by simp) _)
  have HZ0 : Hid (Blk wz w.heap.size 27 #[.slice none 0 0, .slice none 0 0, .slice none 0 0]) := Lib.hid (by
    rw [hwz]
    have := (Blk.new w 27 #[.slice none 0 0, .slice none 0 0, .slice none 0 0])
    simpa using this)
  have hcz := (hcd.below hbz).cur
  have hbc : Below wz.heap.size wz (wz.alloc (.cells #[cv, .int .i64 0, .int .u64 0] 105)) := (Below.refl _ _).alloc (Nat.le_refl _) _
  have HR0 := Lib.hid (HZ0.out.below hbc)
  have HB0 := Lib.hid (Below.then_ hbz hbc)
  have HC0 := Lib.hid hcz
  have hzc : (wz.alloc (.cells #[cv, .int .i64 0, .int .u64 0] 105)).heap.size = wz.heap.size + 1 := by simp
  have HZ := Lib.hid hwz
  obtain ⟨cA, cc, rfl, -, -⟩ := hcd
  clear hwz hbz hbc hcz HZ0
  go_enter Tryz.func44, Tryz.ntmps44
  go_wp2_with fail
  rw [← HZ.out]
  clear HZ
  obtain ⟨gc, hgc⟩ : ∃ gc, gc = w.heap.size + 1 := ⟨_, rfl⟩
  rw [hzs] at HC0 hzc
  rw [← hgc] at HC0 hzc ⊢
  generalize wz.alloc (.cells #[.slice cA L cc, .int .i64 0, .int .u64 0] 105) = w0 at *
  have hgc1 : w.heap.size + 1 ≤ gc := by omega
  have hgc2 : gc < w0.heap.size := by omega
  clear hzs HCD wz hgc hzc
  go_upto_region 3 with (go_at_call 103; refine (anyNet_any w0 gc (.slice cA L cc) L 0 8 HC0.out (by omega) (HF0.out.mono (by omega)) (by omega) (by omega)).mono ?_; rintro e w1 ⟨v1, N1, rfl, ho1, ht1, hc1, hcb1⟩; obtain ⟨E0, e0, E1, e1, E2, e2, rfl⟩ := ho1.parts)
  have hz1 := hcb1.size
  have hal : Below w1.heap.size w1 (w1.alloc (.cells #[.slice E0 N1.ends.length e0, .slice E1 N1.ids.length e1, .slice E2 N1.inputs.length e2] 27)) := (Below.refl _ _).alloc (Nat.le_refl _) _
  have hbel : Below w.heap.size w w1 := belowC HB0.out hcb1.to_grown (by omega)
  have hbel2 := Below.then_ hbel hal
  have HT := Lib.hid ht1
  have HS := Lib.hid ht1.small
  have HN1 := Lib.hid (NB.made ho1)
  obtain ⟨A1, hA1, hc1'⟩ : ∃ A1, A1 ≤ 600000000000000000 ∧ CurR w1 gc (.slice cA L cc) L A1 := ⟨_, by omega, hc1⟩
  have HC1 := Lib.hid (hc1'.keep hal)
  have HB1 := Lib.hid hbel2
  have HQ1_0 := Lib.hid ((HR0.out.grown hcb1.to_grown (by simp; omega)).below hal)
  have hza : (w1.alloc (.cells #[.slice E0 N1.ends.length e0, .slice E1 N1.ids.length e1, .slice E2 N1.inputs.length e2] 27)).heap.size = w1.heap.size + 1 := by simp
  obtain ⟨g, hg⟩ : ∃ g, g = w1.heap.size := ⟨_, rfl⟩
  rw [← hg] at HN1 hza hz1 ⊢
  clear ht1 ho1 hc1 hc1' hcb1 hal hbel hbel2 hg HC0 HB0 HR0
  generalize w1.alloc (.cells #[.slice E0 N1.ends.length e0, .slice E1 N1.ids.length e1, .slice E2 N1.inputs.length e2] 27) = w2 at *
  have hza2 : g < w2.heap.size := by omega
  clear hza
  have kr2 := HQ1_0.out.cell
  have fr2 := HQ1_0.out.free
  have hl := HT.out.len
  have hS2 : (w2.drew).cell? ⟨g, 0, none⟩ = some (.slice E0 N1.ends.length e0) ∧ (w2.drew).cell? ⟨g, 1, none⟩ = some (.slice E1 N1.ids.length e1) ∧ (w2.drew).cell? ⟨g, 2, none⟩ = some (.slice E2 N1.inputs.length e2) := ⟨HN1.out.drew.bx.cell 0, HN1.out.drew.bx.cell 1, HN1.out.drew.bx.cell 2⟩
  refine wp_region_any (by kernel_rfl) ?_
  try (change wpAny _ _ _ _ _ _ _ (World.drew _))
  simp only [List.size_toArray, List.length_cons, List.length_nil, Array.replicate, List.replicate]
  refine wpAny_take (i := 1) (oi := _) (v := ?_) rfl (by kernel_rfl) (by kernel_rfl) (by kernel_rfl) (fun _ _ _ h => h) (Or.inl ⟨by rfl, ?_⟩) ?_
  case refine_2 => intro w0; go_simp; with_reducible rfl
  try simp only [Act.put, List.getElem_toArray, List.getElem_cons_zero, List.getElem_cons_succ, List.setIfInBounds_toArray, List.set_cons_zero, List.set_cons_succ]
  refine wpAny_take (i := 2) (oi := _) (v := ?_) rfl (by kernel_rfl) (by kernel_rfl) (by kernel_rfl) (fun _ _ _ h => h) (Or.inl ⟨by rfl, ?_⟩) ?_
  case refine_2 => intro w0; go_simp; with_reducible rfl
  try simp only [Act.put, List.getElem_toArray, List.getElem_cons_zero, List.getElem_cons_succ, List.setIfInBounds_toArray, List.set_cons_zero, List.set_cons_succ]
  refine wpAny_take (i := 6) (oi := _) (v := ?_) rfl (by kernel_rfl) (by kernel_rfl) (by kernel_rfl) (fun _ _ _ h => h) (Or.inl ⟨by rfl, ?_⟩) ?_
  case refine_2 => intro w0; go_simp; with_reducible rfl
  try simp only [Act.put, List.getElem_toArray, List.getElem_cons_zero, List.getElem_cons_succ, List.setIfInBounds_toArray, List.set_cons_zero, List.set_cons_succ]
  refine wpAny_take (i := 10) (oi := _) (v := ?_) rfl (by kernel_rfl) (by kernel_rfl) (by kernel_rfl) (fun _ _ _ h => h) (Or.inl ⟨by rfl, ?_⟩) ?_
  case refine_2 => intro w0; go_simp; with_reducible rfl
  try simp only [Act.put, List.getElem_toArray, List.getElem_cons_zero, List.getElem_cons_succ, List.setIfInBounds_toArray, List.set_cons_zero, List.set_cons_succ]
  refine wpAny_of_P (S := fun W => W.cell? ⟨g, 0, none⟩ = some (.slice E0 N1.ends.length e0) ∧ W.cell? ⟨g, 1, none⟩ = some (.slice E1 N1.ids.length e1) ∧ W.cell? ⟨g, 2, none⟩ = some (.slice E2 N1.inputs.length e2)) (n1 := 15) _ _ _ _ ?_
  refine wpAnyP_take (i := 0) (oi := _) (v := ?_) rfl (by kernel_rfl) (by kernel_rfl) (by kernel_rfl) (by omega) (by kernel_rfl) (fun _ _ _ h => h) (Or.inl ⟨by rfl, ?_⟩) (hS2) ?_
  case refine_2 => intro w0 hS0; obtain ⟨h0, h1, h2⟩ := hS0; go_simp; try with_reducible rfl
  try simp only [Act.put, List.getElem_toArray, List.getElem_cons_zero, List.getElem_cons_succ, List.setIfInBounds_toArray, List.set_cons_zero, List.set_cons_succ]
  refine wpAnyP_take (i := 3) (oi := _) (v := ?_) rfl (by kernel_rfl) (by kernel_rfl) (by kernel_rfl) (by omega) (by kernel_rfl) (fun _ _ _ h => h) (Or.inl ⟨by rfl, ?_⟩) (hS2) ?_
  case refine_2 => intro w0 hS0; obtain ⟨h0, h1, h2⟩ := hS0; go_simp; try with_reducible rfl
  try simp only [Act.put, List.getElem_toArray, List.getElem_cons_zero, List.getElem_cons_succ, List.setIfInBounds_toArray, List.set_cons_zero, List.set_cons_succ]
  refine wpAnyP_take (i := 4) (oi := _) (v := ?_) rfl (by kernel_rfl) (by kernel_rfl) (by kernel_rfl) (by omega) (by kernel_rfl) (fun _ _ _ h => h) (Or.inl ⟨by rfl, ?_⟩) (hS2) ?_
  case refine_2 => intro w0 hS0; obtain ⟨h0, h1, h2⟩ := hS0; go_simp; try with_reducible rfl
  try simp only [Act.put, List.getElem_toArray, List.getElem_cons_zero, List.getElem_cons_succ, List.setIfInBounds_toArray, List.set_cons_zero, List.set_cons_succ]
  refine wpAnyP_ready (rs := [5]) (by kernel_rfl) (by simp) (by kernel_rfl) (AllReadyP.cons (o := _) rfl (fun K hK => ?_) AllReadyP.nil)
  go_simp
  go_wp2_with (go_at_call 63; go_loud (refine (pick_any w2.drew gc _ L _ (N1.ends.length : Int) (HC1.out.keep (Below.refl _ _).drew) (by omega)).mono ?_; rintro e w6 ⟨px, rfl, ⟨hp1, hp2, -⟩, hc6, hg6⟩; have HN6 := Lib.hid (HN1.out.drew.grown hg6 (by omega) (by omega)); have HC6 := Lib.hid hc6; have HB6 := Lib.hid (belowC (Below.then_ HB1.out (Below.refl _ _).drew) hg6 (by omega)); have HQ6_0 := Lib.hid ((HQ1_0.out.below (Below.refl _ _).drew).grown hg6 (by simp; omega)); clear hc6 hg6; have hS6 : w6.cell? ⟨g, 0, none⟩ = some (.slice E0 N1.ends.length e0) ∧ w6.cell? ⟨g, 1, none⟩ = some (.slice E1 N1.ids.length e1) ∧ w6.cell? ⟨g, 2, none⟩ = some (.slice E2 N1.inputs.length e2) := ⟨HN6.out.bx.cell 0, HN6.out.bx.cell 1, HN6.out.bx.cell 2⟩))
  refine hK.out _ _ (hS6) (fun _ => ?_)
  clear hK K
  try simp only [Act.put, List.getElem_toArray, List.getElem_cons_zero, List.getElem_cons_succ, List.setIfInBounds_toArray, List.set_cons_zero, List.set_cons_succ]
  refine wpAnyP_ready (rs := [7]) (by kernel_rfl) (by simp) (by kernel_rfl) (AllReadyP.cons (o := _) rfl (fun K hK => ?_) AllReadyP.nil)
  go_simp
  go_wp2_with (go_at_call 63; go_loud (refine (pick_any w6 gc _ L _ 20 HC6.out (by omega)).mono ?_; rintro e w7 ⟨py, rfl, ⟨hq1, hq2, -⟩, hc7, hg7⟩; have HN7 := Lib.hid (HN6.out.grown hg7 (by omega) (by omega)); have HC7 := Lib.hid hc7; have HB7 := Lib.hid (belowC HB6.out hg7 (by omega)); have HQ7_0 := Lib.hid (HQ6_0.out.grown hg7 (by simp; omega)); clear hc7 hg7; have hS7 : w7.cell? ⟨g, 0, none⟩ = some (.slice E0 N1.ends.length e0) ∧ w7.cell? ⟨g, 1, none⟩ = some (.slice E1 N1.ids.length e1) ∧ w7.cell? ⟨g, 2, none⟩ = some (.slice E2 N1.inputs.length e2) := ⟨HN7.out.bx.cell 0, HN7.out.bx.cell 1, HN7.out.bx.cell 2⟩))
  refine hK.out _ _ (hS7) (fun _ => ?_)
  clear hK K
  try simp only [Act.put, List.getElem_toArray, List.getElem_cons_zero, List.getElem_cons_succ, List.setIfInBounds_toArray, List.set_cons_zero, List.set_cons_succ]
  refine wpAnyP_take (i := 8) (oi := _) (v := ?_) rfl (by kernel_rfl) (by kernel_rfl) (by kernel_rfl) (by omega) (by kernel_rfl) (fun _ _ _ h => h) (Or.inl ⟨by rfl, ?_⟩) (hS7) ?_
  case refine_2 => intro w0 hS0; obtain ⟨h0, h1, h2⟩ := hS0; go_simp; try with_reducible rfl
  try simp only [Act.put, List.getElem_toArray, List.getElem_cons_zero, List.getElem_cons_succ, List.setIfInBounds_toArray, List.set_cons_zero, List.set_cons_succ]
  refine wpAnyP_take (i := 9) (oi := _) (v := ?_) rfl (by kernel_rfl) (by kernel_rfl) (by kernel_rfl) (by omega) (by kernel_rfl) (fun _ _ _ h => h) (Or.inl ⟨by rfl, ?_⟩) (hS7) ?_
  case refine_2 => intro w0 hS0; obtain ⟨h0, h1, h2⟩ := hS0; go_simp; try with_reducible rfl
  try simp only [Act.put, List.getElem_toArray, List.getElem_cons_zero, List.getElem_cons_succ, List.setIfInBounds_toArray, List.set_cons_zero, List.set_cons_succ]
  generalize IntKind.i64.wrap (py.tdiv 19) = y1
  generalize IntKind.i64.wrap (px + y1) = y2
  refine wpAnyP_ready (rs := [11]) (by kernel_rfl) (by simp) (by kernel_rfl) (AllReadyP.cons (o := _) rfl (fun K hK => ?_) AllReadyP.nil)
  go_simp
  go_wp2_with (go_at_call 104; go_loud (refine (depth_any w7 gc _ L _ HC7.out (by omega)).mono ?_; rintro e w8 ⟨pz, rfl, -, hc8, hg8⟩; have HN8 := Lib.hid (HN7.out.grown hg8 (by omega) (by omega)); have HC8 := Lib.hid hc8; have HB8 := Lib.hid (belowC HB7.out hg8 (by omega)); have HQ8_0 := Lib.hid (HQ7_0.out.grown hg8 (by simp; omega)); clear hc8 hg8; have hS8 : w8.cell? ⟨g, 0, none⟩ = some (.slice E0 N1.ends.length e0) ∧ w8.cell? ⟨g, 1, none⟩ = some (.slice E1 N1.ids.length e1) ∧ w8.cell? ⟨g, 2, none⟩ = some (.slice E2 N1.inputs.length e2) := ⟨HN8.out.bx.cell 0, HN8.out.bx.cell 1, HN8.out.bx.cell 2⟩))
  refine hK.out _ _ (hS8) (fun _ => ?_)
  clear hK K
  try simp only [Act.put, List.getElem_toArray, List.getElem_cons_zero, List.getElem_cons_succ, List.setIfInBounds_toArray, List.set_cons_zero, List.set_cons_succ]
  obtain ⟨q1, q2, q3⟩ := resStoreT HQ8_0.out (Nat.le_refl _) HB8.out HN8.out.ow (by omega)
  have HFI := Lib.hid (And.intro q2 q3)
  have hfin := q1.cell
  have kr := HQ8_0.out.cell
  have fr := HQ8_0.out.free
  have kb := HN8.out.bx.cell
  clear q1 q2 q3
  have hb11 : Blk (set3 w8 w.heap.size (.slice E0 N1.ends.length e0) (.slice E1 N1.ids.length e1) (.slice E2 N1.inputs.length e2)) g 27 #[.slice E0 N1.ends.length e0, .slice E1 N1.ids.length e1, .slice E2 N1.inputs.length e2] := (set3_block _ _ _ _ _ (by omega)).trans HN8.out.bx
  have hSset3 : (set3 w8 w.heap.size (.slice E0 N1.ends.length e0) (.slice E1 N1.ids.length e1) (.slice E2 N1.inputs.length e2)).cell? ⟨g, 0, none⟩ = some (.slice E0 N1.ends.length e0) ∧ (set3 w8 w.heap.size (.slice E0 N1.ends.length e0) (.slice E1 N1.ids.length e1) (.slice E2 N1.inputs.length e2)).cell? ⟨g, 1, none⟩ = some (.slice E1 N1.ids.length e1) ∧ (set3 w8 w.heap.size (.slice E0 N1.ends.length e0) (.slice E1 N1.ids.length e1) (.slice E2 N1.inputs.length e2)).cell? ⟨g, 2, none⟩ = some (.slice E2 N1.inputs.length e2) := ⟨hb11.cell 0, hb11.cell 1, hb11.cell 2⟩
  unfold set3 at hSset3
  refine wpAnyP_ready (rs := [12]) (by kernel_rfl) (by simp) (by kernel_rfl) (AllReadyP.cons (o := _) rfl (fun K hK => ?_) AllReadyP.nil)
  go_simp
  refine hK.out _ _ (hSset3) (fun _ => ?_)
  clear hK K
  try simp only [Act.put, List.getElem_toArray, List.getElem_cons_zero, List.getElem_cons_succ, List.setIfInBounds_toArray, List.set_cons_zero, List.set_cons_succ]
  refine wpAnyP_take (i := 13) (oi := _) (v := ?_) rfl (by kernel_rfl) (by kernel_rfl) (by kernel_rfl) (by omega) (by kernel_rfl) (fun _ _ _ h => h) (Or.inl ⟨by rfl, ?_⟩) (hSset3) ?_
  case refine_2 => intro w0 hS0; obtain ⟨h0, h1, h2⟩ := hS0; go_simp; try with_reducible rfl
  try simp only [Act.put, List.getElem_toArray, List.getElem_cons_zero, List.getElem_cons_succ, List.setIfInBounds_toArray, List.set_cons_zero, List.set_cons_succ]
  refine wpAnyP_take (i := 14) (oi := _) (v := ?_) rfl (by kernel_rfl) (by kernel_rfl) (by kernel_rfl) (by omega) (by kernel_rfl) (fun _ _ _ h => h) (Or.inl ⟨by rfl, ?_⟩) (hSset3) ?_
  case refine_2 => intro w0 hS0; obtain ⟨h0, h1, h2⟩ := hS0; go_simp; try with_reducible rfl
  try simp only [Act.put, List.getElem_toArray, List.getElem_cons_zero, List.getElem_cons_succ, List.setIfInBounds_toArray, List.set_cons_zero, List.set_cons_succ]
  refine wpAnyP_go (by kernel_rfl) (wpAny_done (by kernel_rfl) ?_ _)
  clear hS2 hS6 hS7 hS8 hSset3 kb kr fr kr2 fr2 hb11
  go_wp2_with fail
  unfold set3 at hfin
  exact bodyPost_ret (v := .tuple #[.agg #[.slice E0 N1.ends.length e0, .slice E1 N1.ids.length e1, .slice E2 N1.inputs.length e2], .int .i64 y2, .int .i64 pz]) (by simp [results, Tryz.results44, go_sem, hfin]) rfl ⟨_, N1, _, _, rfl, HFI.out.1, HT.out, HFI.out.2⟩

set_option maxRecDepth 100000 in
set_option maxHeartbeats 1000000 in
theorem DrawViewText_any (w : World) (cv : Value) (L : Nat) (hcd : CodeR w cv L) :
    Calls Tryz.prog 7 #[cv] w (RetD3 w) := by
  have HCD := Lib.hid hcd
  have HB0 := Lib.hid ((Below.refl w.heap.size w).alloc (Nat.le_refl _) (.cells #[.slice none 0 0, .slice none 0 0, .slice none 0 0] 27))
  have HR0 := Lib.hid (Blk.new w 27 #[.slice none 0 0, .slice none 0 0, .slice none 0 0])
  clear hcd
  go_enter Tryz.func7, Tryz.ntmps7
  go_upto_region 1 with fail
  generalize w.alloc (.cells #[.slice none 0 0, .slice none 0 0, .slice none 0 0] 27) = w0 at *
  go_wp2_with (go_at_call 44; refine (DrawViewSize_any _ _ _ (HCD.out.below HB0.out)).mono ?_; rintro e w1 ⟨v, N, x, y, rfl, ho, ht, hb⟩; obtain ⟨A0, c0, A1, c1, A2, c2, rfl⟩ := ho.parts; have HT := Lib.hid ht; have hres : Blk w1 w.heap.size 27 #[.slice none 0 0, .slice none 0 0, .slice none 0 0] := HR0.out.below hb; have hz0 := HB0.out.size; obtain ⟨q1, q2, q3⟩ := resStoreT (w := w) hres (Nat.le_refl _) (HB0.out.trans (hb.mono hz0)) ho hz0; have HFI := Lib.hid (And.intro q2 q3); have kc := hres.cell; have kf := hres.free; have HRS := Lib.hid hres; clear q1 q2 q3 ho hb ht hres)
  obtain ⟨s0, s1, s2⟩ := res3 (x := .slice A0 N.ends.length c0) (y := .slice A1 N.ids.length c1) (z := .slice A2 N.inputs.length c2) HRS.out
  exact bodyPost_ret (v := .tuple #[.agg #[.slice A0 N.ends.length c0, .slice A1 N.ids.length c1, .slice A2 N.inputs.length c2], .int .i64 x, .int .i64 y]) (by simp [results, Tryz.results7, go_sem, s0, s1, s2]) rfl ⟨_, N, _, _, rfl, HFI.out.1, HT.out, HFI.out.2⟩
end Go.Proofs.YtljjbhihllnnaaaGreat
