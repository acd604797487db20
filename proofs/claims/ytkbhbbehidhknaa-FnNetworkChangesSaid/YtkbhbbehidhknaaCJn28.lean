/- Parts of the proof, joined: Cn8, Dr1, Dr2, Dr3. -/
import Derived.Test.YtkbhbbehidhknaaCJn24
import Derived.Test.YtkbhbbehidhknaaCCn7
import Derived.Test.YtkbhbbehidhknaaCJn22
import Derived.Test.YtkbhbbehidhknaaCPh
namespace Go.Proofs.Ytkbhbbehidhknaa
open Go.RowKit

set_option maxRecDepth 100000 in
set_option maxHeartbeats 8000000 in
theorem anyNet_any (w : World) (gc : Nat) (cv : Value) (L A m : Nat) (hc : CurR w gc cv L A) (hp : A + 576460752340000000 ≤ 4611686018427387900) (hf : FarV cv w.heap.size) (hm1 : 1 ≤ m) (hm2 : m ≤ 38) :
    Calls Try.prog 18 #[.pointer (some ⟨gc, 0, none⟩), .int .i64 m] w (RetDr w w.heap.size gc cv L (A + 576460752340000000) Tame) := by
  have hgc := hc.lt
  have HF0 := Lib.hid hf
  have HB0 := Lib.hid ((Below.refl w.heap.size w).alloc (Nat.le_refl _) (.cells #[.slice none 0 0, .slice none 0 0, .slice none 0 0] 27))
  have HR0 := Lib.hid (Blk.new w 27 #[.slice none 0 0, .slice none 0 0, .slice none 0 0])
  have HC0 := Lib.hid (hc.keep HB0.out)
  clear hc hf
  go_enter Try.func18, Try.ntmps18
  go_wp2_with fail
  have hza : (w.alloc (.cells #[.slice none 0 0, .slice none 0 0, .slice none 0 0] 27)).heap.size = w.heap.size + 1 := by simp
  generalize w.alloc (.cells #[.slice none 0 0, .slice none 0 0, .slice none 0 0] 27) = wa at *
  go_upto_region 2 with (go_at_call 43; refine (net_any wa gc cv L A m HC0.out (by omega) (HF0.out.mono (by omega)) hm1 hm2).mono ?_; rintro e w1 ⟨v1, N1, rfl, ho1, hd1, hc1, hcb1⟩; obtain ⟨E0, e0, E1, e1, E2, e2, rfl⟩ := ho1.parts)
  have hz1 := hcb1.size
  have hal : Below w1.heap.size w1 (w1.alloc (.cells #[.slice E0 N1.ends.length e0, .slice E1 N1.ids.length e1, .slice E2 N1.inputs.length e2] 27)) := (Below.refl _ _).alloc (Nat.le_refl _) _
  have HD1 : Hid (DS w gc cv L (A + 576460752303423488) wa.heap.size w1.heap.size w.heap.size (.slice E0 N1.ends.length e0) (.slice E1 N1.ids.length e1) (.slice E2 N1.inputs.length e2) N1 (w1.alloc (.cells #[.slice E0 N1.ends.length e0, .slice E1 N1.ids.length e1, .slice E2 N1.inputs.length e2] 27))) :=
    Lib.hid ⟨Blk.new w1 _ _, ho1.below hal, hc1.keep hal, ((CurB.of_below HB0.out (Nat.le_refl _)).trans (hcb1.mono (by omega))).trans (CurB.of_below hal (by omega)), (HR0.out.curB hcb1 (by omega) (by omega)).alloc _⟩
  have hF : DF w gc cv wa.heap.size w1.heap.size w.heap.size := ⟨hgc, HF0.out, by omega, by omega, Nat.le_refl _, by omega⟩
  have HF := Lib.hid hF
  have HDR : Hid (Drawn 40 500 N1) := Lib.hid (hd1.mono (by omega) (by omega))
  obtain ⟨g1, hg1⟩ : ∃ g1, g1 = w1.heap.size := ⟨_, rfl⟩
  rw [← hg1] at HD1 HF ⊢
  clear hd1 ho1 hc1 hcb1 hal hF HR0 HC0 HB0 hg1
  generalize w1.alloc (.cells #[.slice E0 N1.ends.length e0, .slice E1 N1.ids.length e1, .slice E2 N1.inputs.length e2] 27) = w2 at *
  go_upto_region 3 with (go_at_call 20; refine (one_any _ gc cv L (A + 576460752303423488) 3 HD1.out.cu (by omega)).mono ?_; rintro e w3 ⟨b, rfl, hc3, hg3⟩; have HD := Lib.hid (HD1.out.grown HF.out hg3 hc3); have kb := HD.out.bx.cell; cases b)
  all_goals
    clear HD1 hc3 hg3
    have HS := Lib.hid (HDR.out.small (by omega) (by omega))
    have HIN := Lib.hid (HD.out.ow.net (S := fun _ => True) (fun _ _ _ => trivial))
  · have hT : True := trivial
    go_wp2_with (go_at_call 48; refine (neBend_any (S := fun _ => True) _ gc cv L (A + 576460752303423488 + 2) _ N1 HD.out.cu (by omega) (HF.out.far.mono HD.out.wsz) HIN.out HDR.out).mono ?_; rintro e w6 ⟨v6, N6, rfl, ho6, hd6, hc6, hcb6⟩; obtain ⟨G0, d0, G1, d1, G2, d2, rfl⟩ := ho6.parts; obtain ⟨hr6, q1, q2, q3⟩ := resStore HD.out.re HF0.out hgc HD.out.cb (ho6.mono (by have := HD.out.re.lt; omega)) hc6 (hcb6.mono (by have := HD.out.re.lt; omega)); have HQ := Lib.hid (And.intro q1 (And.intro q2 q3)); have HAL := Lib.hid hd6; have kr := hr6.cell; have fr := hr6.free; have hfin := (set3_blk (x := .slice G0 N6.ends.length d0) (y := .slice G1 N6.ids.length d1) (z := .slice G2 N6.inputs.length d2) hr6).cell; clear ho6 hd6 hc6 hcb6 hr6 q1 q2 q3)
    unfold set3 at hfin
    exact bodyPost_ret (v := .agg #[.slice G0 N6.ends.length d0, .slice G1 N6.ids.length d1, .slice G2 N6.inputs.length d2]) (by simp [results, Try.results18, go_sem, hfin]) rfl ⟨_, N6, rfl, HQ.out.1, HAL.out, HQ.out.2.1.mono (by omega), HQ.out.2.2⟩
  · go_upto_region 4 with (go_at_call 42; refine (withIds_any (S := fun _ => True) _ gc cv L (A + 576460752303423488 + 2) _ N1 HD.out.cu (by omega) (HF.out.far.mono HD.out.wsz) HIN.out HS.out).mono ?_; rintro e w5 ⟨v5, N5, rfl, ho5, hi5, hc5, hcb5⟩; obtain ⟨G0, d0, G1, d1, G2, d2, rfl⟩ := ho5.parts; obtain ⟨hb5, hD5, hF5⟩ := HD.out.storeC HF.out ho5 hc5 hcb5; have kb5 := hb5.cell; have kf5 := hb5.free)
    have HD5 := Lib.hid hD5
    have HF5 := Lib.hid hF5
    have HDR5 := Lib.hid (HDR.out.withIds hi5)
    unfold set3 at HD5
    clear hb5 hD5 hF5 kb5 kf5 ho5 hc5 hcb5 hi5 kb HIN
    generalize ((w5.setCell ⟨g1, 0, none⟩ (.slice G0 N5.ends.length d0)).setCell ⟨g1, 1, none⟩ (.slice G1 N5.ids.length d1)).setCell ⟨g1, 2, none⟩ (.slice G2 N5.inputs.length d2) = w7 at *
    have kb := HD5.out.bx.cell
    have HIN := Lib.hid (HD5.out.ow.net (S := fun _ => True) (fun _ _ _ => trivial))
    go_wp2_with (go_at_call 48; refine (neBend_any (S := fun _ => True) _ gc cv L (A + 576460752303423488 + 2 + 4194304) _ N5 HD5.out.cu (by omega) (HF5.out.far.mono HD5.out.wsz) HIN.out HDR5.out).mono ?_; rintro e w6 ⟨v6, N6, rfl, ho6, hd6, hc6, hcb6⟩; obtain ⟨G0, d0, G1, d1, G2, d2, rfl⟩ := ho6.parts; obtain ⟨hr6, q1, q2, q3⟩ := resStore HD5.out.re HF0.out hgc HD5.out.cb (ho6.mono (by have := HD5.out.re.lt; omega)) hc6 (hcb6.mono (by have := HD5.out.re.lt; omega)); have HQ := Lib.hid (And.intro q1 (And.intro q2 q3)); have HAL := Lib.hid hd6; have kr := hr6.cell; have fr := hr6.free; have hfin := (set3_blk (x := .slice G0 N6.ends.length d0) (y := .slice G1 N6.ids.length d1) (z := .slice G2 N6.inputs.length d2) hr6).cell; clear ho6 hd6 hc6 hcb6 hr6 q1 q2 q3)
    unfold set3 at hfin
    exact bodyPost_ret (v := .agg #[.slice G0 N6.ends.length d0, .slice G1 N6.ids.length d1, .slice G2 N6.inputs.length d2]) (by simp [results, Try.results18, go_sem, hfin]) rfl ⟨_, N6, rfl, HQ.out.1, HAL.out, HQ.out.2.1.mono (by omega), HQ.out.2.2⟩
end Go.Proofs.Ytkbhbbehidhknaa

namespace Go.Proofs.Ytkbhbbehidhknaa
open Go.RowKit

/-- a network, and two numbers -/
def RetD3 (w : World) (e : Ending) (w' : World) : Prop :=
  ∃ (v : Value) (N : Net) (x y : Int), e = .returned (.tuple #[v, .int .i64 x, .int .i64 y]) ∧ OwnNt w' w.heap.size v N ∧ Tame N ∧ Below w.heap.size w w'

set_option maxRecDepth 100000 in
set_option maxHeartbeats 4000000 in
theorem DrawAddEdge_any (w : World) (cv : Value) (L : Nat) (hcd : CodeR w cv L) :
    Calls Try.prog 5 #[cv] w (RetD3 w) := by
  have HCD := Lib.hid hcd
  have HF0 := Lib.hid hcd.far
  obtain ⟨wz, hwz⟩ : ∃ wz, wz = (w.alloc (.cells #[.slice none 0 0, .slice none 0 0, .slice none 0 0] 27)) := ⟨_, rfl⟩
  have hzs : wz.heap.size = w.heap.size + 1 := by rw [hwz]; simp
  have hbz : Below w.heap.size w wz := by rw [hwz]; exact ((Below.refl _ _).alloc (by simp) _)
  have HZ0 : Hid (Blk wz w.heap.size 27 #[.slice none 0 0, .slice none 0 0, .slice none 0 0]) := Lib.hid (by
    rw [hwz]
    have := (Blk.new w 27 #[.slice none 0 0, .slice none 0 0, .slice none 0 0])
    simpa using this)
  have hcz := (hcd.below hbz).cur
  have hbc : Below wz.heap.size wz (wz.alloc (.cells #[cv, .int .i64 0, .int .u64 0] 50)) := (Below.refl _ _).alloc (Nat.le_refl _) _
  have HR0 := Lib.hid (HZ0.out.below hbc)
  have HB0 := Lib.hid (Below.then_ hbz hbc)
  have HC0 := Lib.hid hcz
  have hzc : (wz.alloc (.cells #[cv, .int .i64 0, .int .u64 0] 50)).heap.size = wz.heap.size + 1 := by simp
  have HZ := Lib.hid hwz
  obtain ⟨cA, cc, rfl, -, -⟩ := hcd
  clear hwz hbz hbc hcz HZ0
  go_enter Try.func5, Try.ntmps5
  go_wp2_with fail
  rw [← HZ.out]
  clear HZ
  obtain ⟨gc, hgc⟩ : ∃ gc, gc = w.heap.size + 1 := ⟨_, rfl⟩
  rw [hzs] at HC0 hzc
  rw [← hgc] at HC0 hzc ⊢
  generalize wz.alloc (.cells #[.slice cA L cc, .int .i64 0, .int .u64 0] 50) = w0 at *
  have hgc1 : w.heap.size + 1 ≤ gc := by omega
  have hgc2 : gc < w0.heap.size := by omega
  clear hzs HCD wz hgc hzc
  go_upto_region 3 with (go_at_call 18; refine (anyNet_any w0 gc (.slice cA L cc) L 0 7 HC0.out (by omega) (HF0.out.mono (by omega)) (by omega) (by omega)).mono ?_; rintro e w1 ⟨v1, N1, rfl, ho1, ht1, hc1, hcb1⟩; obtain ⟨E0, e0, E1, e1, E2, e2, rfl⟩ := ho1.parts)
  have hz1 := hcb1.size
  have hal : Below w1.heap.size w1 (w1.alloc (.cells #[.slice E0 N1.ends.length e0, .slice E1 N1.ids.length e1, .slice E2 N1.inputs.length e2] 27)) := (Below.refl _ _).alloc (Nat.le_refl _) _
  have hbel : Below w.heap.size w w1 := belowC HB0.out hcb1.to_grown (by omega)
  have hbel2 := Below.then_ hbel hal
  have HT := Lib.hid ht1
  have HS := Lib.hid ht1.small
  have HN1 := Lib.hid (NB.made ho1)
  obtain ⟨A1, hA1, hc1'⟩ : ∃ A1, A1 ≤ 600000000000000000 ∧ CurR w1 gc (.slice cA L cc) L A1 := ⟨_, by omega, hc1⟩
  have HC1 := Lib.hid (hc1'.keep hal)
  have HB1 := Lib.hid hbel2
  have HQ1_0 := Lib.hid ((HR0.out.grown hcb1.to_grown (by simp; omega)).below hal)
  have hza : (w1.alloc (.cells #[.slice E0 N1.ends.length e0, .slice E1 N1.ids.length e1, .slice E2 N1.inputs.length e2] 27)).heap.size = w1.heap.size + 1 := by simp
  obtain ⟨g, hg⟩ : ∃ g, g = w1.heap.size := ⟨_, rfl⟩
  rw [← hg] at HN1 hza hz1 ⊢
  clear ht1 ho1 hc1 hc1' hcb1 hal hbel hbel2 hg HC0 HB0 HR0
  generalize w1.alloc (.cells #[.slice E0 N1.ends.length e0, .slice E1 N1.ids.length e1, .slice E2 N1.inputs.length e2] 27) = w2 at *
  have hza2 : g < w2.heap.size := by omega
  clear hza
  have hl := HT.out.len
  have kb := HN1.out.bx.cell
  go_upto_region 4 with (first
    | (go_at_call 19; refine (pick_any w3 gc _ L _ 16 HC3.out (by omega)).mono ?_; rintro e w4 ⟨py, rfl, ⟨hq1, hq2, -⟩, hc4, hg4⟩; have HN4 := Lib.hid (HN3.out.grown hg4 (by omega) (by omega)); have HC4 := Lib.hid hc4; have HB4 := Lib.hid (belowC HB3.out hg4 (by omega)); have HQ4_0 := Lib.hid (HQ3_0.out.grown hg4 (by simp; omega)); clear hc4 hg4)
    | (go_at_call 19; refine (pick_any w2 gc _ L _ ((N1.ends.length : Int) + 1) HC1.out (by omega)).mono ?_; rintro e w3 ⟨px, rfl, ⟨hp1, hp2, -⟩, hc3, hg3⟩; have HN3 := Lib.hid (HN1.out.grown hg3 (by omega) (by omega)); have HC3 := Lib.hid hc3; have HB3 := Lib.hid (belowC HB1.out hg3 (by omega)); have HQ3_0 := Lib.hid (HQ1_0.out.grown hg3 (by simp; omega)); clear hc3 hg3))
  obtain ⟨x1, hx1⟩ : ∃ x1, x1 = px - py / 15 := ⟨_, rfl⟩
  rw [← hx1]
  clear hx1 hp1 hp2 hq1 hq2 HN3 HC3 HB3 HQ3_0 HN1 HC1 HB1 HQ1_0 kb
  have hgw4 : g < w4.heap.size := HN4.out.bx.lt
  go_upto_region 5 with (go_at_call 20; refine (one_any w4 gc _ L _ 4 HC4.out (by omega)).mono ?_; rintro e w5 ⟨b, rfl, hc5, hg5⟩; have HN5 := Lib.hid (HN4.out.grown hg5 (by omega) (by omega)); have HC5 := Lib.hid hc5; have HB5 := Lib.hid (belowC HB4.out hg5 (by omega)); have HQ5_0 := Lib.hid (HQ4_0.out.grown hg5 (by simp; omega)); clear hc5 hg5; cases b)
  all_goals clear HN4 HC4 HB4 HQ4_0
  · have kb5 := HN5.out.bx.cell
    go_upto_region 6 with fail
    have kr5 := HQ5_0.out.cell
    have fr5 := HQ5_0.out.free
    have hS5 : (w5.drew).cell? ⟨g, 0, none⟩ = some (.slice E0 N1.ends.length e0) ∧ (w5.drew).cell? ⟨g, 1, none⟩ = some (.slice E1 N1.ids.length e1) ∧ (w5.drew).cell? ⟨g, 2, none⟩ = some (.slice E2 N1.inputs.length e2) := ⟨HN5.out.drew.bx.cell 0, HN5.out.drew.bx.cell 1, HN5.out.drew.bx.cell 2⟩
    refine wp_region_any (by kernel_rfl) ?_
    try (change wpAny _ _ _ _ _ _ _ (World.drew _))
    simp only [List.size_toArray, List.length_cons, List.length_nil, Array.replicate, List.replicate]
    refine wpAny_take (i := 1) (oi := _) (v := ?_) rfl (by kernel_rfl) (by kernel_rfl) (by kernel_rfl) (fun _ _ _ h => h) (Or.inl ⟨by rfl, ?_⟩) ?_
    case refine_2 => intro w0; go_simp; with_reducible rfl
    try simp only [Act.put, List.getElem_toArray, List.getElem_cons_zero, List.getElem_cons_succ, List.setIfInBounds_toArray, List.set_cons_zero, List.set_cons_succ]
    refine wpAny_take (i := 2) (oi := _) (v := ?_) rfl (by kernel_rfl) (by kernel_rfl) (by kernel_rfl) (fun _ _ _ h => h) (Or.inl ⟨by rfl, ?_⟩) ?_
    case refine_2 => intro w0; go_simp; with_reducible rfl
    try simp only [Act.put, List.getElem_toArray, List.getElem_cons_zero, List.getElem_cons_succ, List.setIfInBounds_toArray, List.set_cons_zero, List.set_cons_succ]
    refine wpAny_take (i := 3) (oi := _) (v := ?_) rfl (by kernel_rfl) (by kernel_rfl) (by kernel_rfl) (fun _ _ _ h => h) (Or.inl ⟨by rfl, ?_⟩) ?_
    case refine_2 => intro w0; go_simp; with_reducible rfl
    try simp only [Act.put, List.getElem_toArray, List.getElem_cons_zero, List.getElem_cons_succ, List.setIfInBounds_toArray, List.set_cons_zero, List.set_cons_succ]
    refine wpAny_take (i := 7) (oi := _) (v := ?_) rfl (by kernel_rfl) (by kernel_rfl) (by kernel_rfl) (fun _ _ _ h => h) (Or.inl ⟨by rfl, ?_⟩) ?_
    case refine_2 => intro w0; go_simp; with_reducible rfl
    try simp only [Act.put, List.getElem_toArray, List.getElem_cons_zero, List.getElem_cons_succ, List.setIfInBounds_toArray, List.set_cons_zero, List.set_cons_succ]
    refine wpAny_of_P (S := fun W => W.cell? ⟨g, 0, none⟩ = some (.slice E0 N1.ends.length e0) ∧ W.cell? ⟨g, 1, none⟩ = some (.slice E1 N1.ids.length e1) ∧ W.cell? ⟨g, 2, none⟩ = some (.slice E2 N1.inputs.length e2)) (n1 := 14) _ _ _ _ ?_
    refine wpAnyP_take (i := 0) (oi := _) (v := ?_) rfl (by kernel_rfl) (by kernel_rfl) (by kernel_rfl) (by omega) (by kernel_rfl) (fun _ _ _ h => h) (Or.inl ⟨by rfl, ?_⟩) (hS5) ?_
    case refine_2 => intro w0 hS0; obtain ⟨h0, h1, h2⟩ := hS0; go_simp; try with_reducible rfl
    try simp only [Act.put, List.getElem_toArray, List.getElem_cons_zero, List.getElem_cons_succ, List.setIfInBounds_toArray, List.set_cons_zero, List.set_cons_succ]
    refine wpAnyP_take (i := 4) (oi := _) (v := ?_) rfl (by kernel_rfl) (by kernel_rfl) (by kernel_rfl) (by omega) (by kernel_rfl) (fun _ _ _ h => h) (Or.inl ⟨by rfl, ?_⟩) (hS5) ?_
    case refine_2 => intro w0 hS0; obtain ⟨h0, h1, h2⟩ := hS0; go_simp; try with_reducible rfl
    try simp only [Act.put, List.getElem_toArray, List.getElem_cons_zero, List.getElem_cons_succ, List.setIfInBounds_toArray, List.set_cons_zero, List.set_cons_succ]
    refine wpAnyP_take (i := 5) (oi := _) (v := ?_) rfl (by kernel_rfl) (by kernel_rfl) (by kernel_rfl) (by omega) (by kernel_rfl) (fun _ _ _ h => h) (Or.inl ⟨by rfl, ?_⟩) (hS5) ?_
    case refine_2 => intro w0 hS0; obtain ⟨h0, h1, h2⟩ := hS0; go_simp; try with_reducible rfl
    try simp only [Act.put, List.getElem_toArray, List.getElem_cons_zero, List.getElem_cons_succ, List.setIfInBounds_toArray, List.set_cons_zero, List.set_cons_succ]
    refine wpAnyP_ready (rs := [6]) (by kernel_rfl) (by simp) (by kernel_rfl) (AllReadyP.cons (o := _) rfl (fun K hK => ?_) AllReadyP.nil)
    go_simp
    go_wp2_with (go_at_call 19; go_loud (refine (pick_any w5.drew gc _ L _ (N1.ends.length : Int) (HC5.out.keep (Below.refl _ _).drew) (by omega)).mono ?_; rintro e w6 ⟨px, rfl, ⟨hp1, hp2, -⟩, hc6, hg6⟩; have HN6 := Lib.hid (HN5.out.drew.grown hg6 (by omega) (by omega)); have HC6 := Lib.hid hc6; have HB6 := Lib.hid (belowC (Below.then_ HB5.out (Below.refl _ _).drew) hg6 (by omega)); have HQ6_0 := Lib.hid ((HQ5_0.out.below (Below.refl _ _).drew).grown hg6 (by simp; omega)); clear hc6 hg6; have hS6 : w6.cell? ⟨g, 0, none⟩ = some (.slice E0 N1.ends.length e0) ∧ w6.cell? ⟨g, 1, none⟩ = some (.slice E1 N1.ids.length e1) ∧ w6.cell? ⟨g, 2, none⟩ = some (.slice E2 N1.inputs.length e2) := ⟨HN6.out.bx.cell 0, HN6.out.bx.cell 1, HN6.out.bx.cell 2⟩))
    refine hK.out _ _ (hS6) (fun _ => ?_)
    clear hK K
    try simp only [Act.put, List.getElem_toArray, List.getElem_cons_zero, List.getElem_cons_succ, List.setIfInBounds_toArray, List.set_cons_zero, List.set_cons_succ]
    refine wpAnyP_ready (rs := [8]) (by kernel_rfl) (by simp) (by kernel_rfl) (AllReadyP.cons (o := _) rfl (fun K hK => ?_) AllReadyP.nil)
    go_simp
    go_wp2_with (go_at_call 19; go_loud (refine (pick_any w6 gc _ L _ 16 HC6.out (by omega)).mono ?_; rintro e w7 ⟨py, rfl, ⟨hq1, hq2, -⟩, hc7, hg7⟩; have HN7 := Lib.hid (HN6.out.grown hg7 (by omega) (by omega)); have HC7 := Lib.hid hc7; have HB7 := Lib.hid (belowC HB6.out hg7 (by omega)); have HQ7_0 := Lib.hid (HQ6_0.out.grown hg7 (by simp; omega)); clear hc7 hg7; have hS7 : w7.cell? ⟨g, 0, none⟩ = some (.slice E0 N1.ends.length e0) ∧ w7.cell? ⟨g, 1, none⟩ = some (.slice E1 N1.ids.length e1) ∧ w7.cell? ⟨g, 2, none⟩ = some (.slice E2 N1.inputs.length e2) := ⟨HN7.out.bx.cell 0, HN7.out.bx.cell 1, HN7.out.bx.cell 2⟩))
    refine hK.out _ _ (hS7) (fun _ => ?_)
    clear hK K
    try simp only [Act.put, List.getElem_toArray, List.getElem_cons_zero, List.getElem_cons_succ, List.setIfInBounds_toArray, List.set_cons_zero, List.set_cons_succ]
    refine wpAnyP_take (i := 9) (oi := _) (v := ?_) rfl (by kernel_rfl) (by kernel_rfl) (by kernel_rfl) (by omega) (by kernel_rfl) (fun _ _ _ h => h) (Or.inl ⟨by rfl, ?_⟩) (hS7) ?_
    case refine_2 => intro w0 hS0; obtain ⟨h0, h1, h2⟩ := hS0; go_simp; try with_reducible rfl
    try simp only [Act.put, List.getElem_toArray, List.getElem_cons_zero, List.getElem_cons_succ, List.setIfInBounds_toArray, List.set_cons_zero, List.set_cons_succ]
    refine wpAnyP_take (i := 10) (oi := _) (v := ?_) rfl (by kernel_rfl) (by kernel_rfl) (by kernel_rfl) (by omega) (by kernel_rfl) (fun _ _ _ h => h) (Or.inl ⟨by rfl, ?_⟩) (hS7) ?_
    case refine_2 => intro w0 hS0; obtain ⟨h0, h1, h2⟩ := hS0; go_simp; try with_reducible rfl
    try simp only [Act.put, List.getElem_toArray, List.getElem_cons_zero, List.getElem_cons_succ, List.setIfInBounds_toArray, List.set_cons_zero, List.set_cons_succ]
    generalize IntKind.i64.wrap (py.tdiv 15) = y1
    generalize IntKind.i64.wrap (px - y1) = y2
    obtain ⟨q1, q2, q3⟩ := resStoreT HQ7_0.out (Nat.le_refl _) HB7.out HN7.out.ow (by omega)
    have HFI := Lib.hid (And.intro q2 q3)
    have hfin := q1.cell
    have kr := HQ7_0.out.cell
    have fr := HQ7_0.out.free
    have kb := HN7.out.bx.cell
    clear q1 q2 q3
    have hb11 : Blk (set3 w7 w.heap.size (.slice E0 N1.ends.length e0) (.slice E1 N1.ids.length e1) (.slice E2 N1.inputs.length e2)) g 27 #[.slice E0 N1.ends.length e0, .slice E1 N1.ids.length e1, .slice E2 N1.inputs.length e2] := (set3_block _ _ _ _ _ (by omega)).trans HN7.out.bx
    have hSset3 : (set3 w7 w.heap.size (.slice E0 N1.ends.length e0) (.slice E1 N1.ids.length e1) (.slice E2 N1.inputs.length e2)).cell? ⟨g, 0, none⟩ = some (.slice E0 N1.ends.length e0) ∧ (set3 w7 w.heap.size (.slice E0 N1.ends.length e0) (.slice E1 N1.ids.length e1) (.slice E2 N1.inputs.length e2)).cell? ⟨g, 1, none⟩ = some (.slice E1 N1.ids.length e1) ∧ (set3 w7 w.heap.size (.slice E0 N1.ends.length e0) (.slice E1 N1.ids.length e1) (.slice E2 N1.inputs.length e2)).cell? ⟨g, 2, none⟩ = some (.slice E2 N1.inputs.length e2) := ⟨hb11.cell 0, hb11.cell 1, hb11.cell 2⟩
    unfold set3 at hSset3
    refine wpAnyP_ready (rs := [11]) (by kernel_rfl) (by simp) (by kernel_rfl) (AllReadyP.cons (o := _) rfl (fun K hK => ?_) AllReadyP.nil)
    go_simp
    refine hK.out _ _ (hSset3) (fun _ => ?_)
    clear hK K
    try simp only [Act.put, List.getElem_toArray, List.getElem_cons_zero, List.getElem_cons_succ, List.setIfInBounds_toArray, List.set_cons_zero, List.set_cons_succ]
    refine wpAnyP_take (i := 12) (oi := _) (v := ?_) rfl (by kernel_rfl) (by kernel_rfl) (by kernel_rfl) (by omega) (by kernel_rfl) (fun _ _ _ h => h) (Or.inl ⟨by rfl, ?_⟩) (hSset3) ?_
    case refine_2 => intro w0 hS0; obtain ⟨h0, h1, h2⟩ := hS0; go_simp; try with_reducible rfl
    try simp only [Act.put, List.getElem_toArray, List.getElem_cons_zero, List.getElem_cons_succ, List.setIfInBounds_toArray, List.set_cons_zero, List.set_cons_succ]
    refine wpAnyP_take (i := 13) (oi := _) (v := ?_) rfl (by kernel_rfl) (by kernel_rfl) (by kernel_rfl) (by omega) (by kernel_rfl) (fun _ _ _ h => h) (Or.inl ⟨by rfl, ?_⟩) (hSset3) ?_
    case refine_2 => intro w0 hS0; obtain ⟨h0, h1, h2⟩ := hS0; go_simp; try with_reducible rfl
    try simp only [Act.put, List.getElem_toArray, List.getElem_cons_zero, List.getElem_cons_succ, List.setIfInBounds_toArray, List.set_cons_zero, List.set_cons_succ]
    refine wpAnyP_go (by kernel_rfl) (wpAny_done (by kernel_rfl) ?_ _)
    clear hS5 hS6 hS7 hSset3 kb kr fr kb5 kr5 fr5 hb11
    go_wp2_with fail
    unfold set3 at hfin
    exact bodyPost_ret (v := .tuple #[.agg #[.slice E0 N1.ends.length e0, .slice E1 N1.ids.length e1, .slice E2 N1.inputs.length e2], .int .i64 x1, .int .i64 y2]) (by simp [results, Try.results5, go_sem, hfin]) rfl ⟨_, N1, _, _, rfl, HFI.out.1, HT.out, HFI.out.2⟩
  · have hT : True := trivial
    obtain ⟨q1, q2, q3⟩ := resStoreT HQ5_0.out (Nat.le_refl _) HB5.out HN5.out.ow (by omega)
    have HFI := Lib.hid (And.intro q2 q3)
    have hfin := q1.cell
    have kr := HQ5_0.out.cell
    have fr := HQ5_0.out.free
    have kb := HN5.out.bx.cell
    clear q1 q2 q3
    go_wp2_with fail
    unfold set3 at hfin
    exact bodyPost_ret (v := .tuple #[.agg #[.slice E0 N1.ends.length e0, .slice E1 N1.ids.length e1, .slice E2 N1.inputs.length e2], .int .i64 x1, .int .i64 x1]) (by simp [results, Try.results5, go_sem, hfin]) rfl ⟨_, N1, _, _, rfl, HFI.out.1, HT.out, HFI.out.2⟩
end Go.Proofs.Ytkbhbbehidhknaa

namespace Go.Proofs.Ytkbhbbehidhknaa
open Go.RowKit

/-- a network, a number, and a list -/
def RetDP (w : World) (e : Ending) (w' : World) : Prop :=
  ∃ (v : Value) (N : Net) (x : Int) (u : Value) (π : List Int), e = .returned (.tuple #[v, .int .i64 x, u]) ∧ OwnNt w' w.heap.size v N ∧ Tame N ∧ OwnI w' w.heap.size u π ∧ π.length ≤ 600 ∧ Below w.heap.size w w'

set_option maxRecDepth 100000 in
set_option maxHeartbeats 4000000 in
theorem DrawPermutePorts_any (w : World) (cv : Value) (L : Nat) (hcd : CodeR w cv L) :
    Calls Try.prog 11 #[cv] w (RetDP w) := by
  have HCD := Lib.hid hcd
  have HF0 := Lib.hid hcd.far
  obtain ⟨wz, hwz⟩ : ∃ wz, wz = (w.alloc (.cells #[.slice none 0 0, .slice none 0 0, .slice none 0 0] 27)) := ⟨_, rfl⟩
  have hzs : wz.heap.size = w.heap.size + 1 := by rw [hwz]; simp
  have hbz : Below w.heap.size w wz := by rw [hwz]; exact ((Below.refl _ _).alloc (by simp) _)
  have HZ0 : Hid (Blk wz w.heap.size 27 #[.slice none 0 0, .slice none 0 0, .slice none 0 0]) := Lib.hid (by
    rw [hwz]
    have := (Blk.new w 27 #[.slice none 0 0, .slice none 0 0, .slice none 0 0])
    simpa using this)
  have hcz := (hcd.below hbz).cur
  have hbc : Below wz.heap.size wz (wz.alloc (.cells #[cv, .int .i64 0, .int .u64 0] 50)) := (Below.refl _ _).alloc (Nat.le_refl _) _
  have HR0 := Lib.hid (HZ0.out.below hbc)
  have HB0 := Lib.hid (Below.then_ hbz hbc)
  have HC0 := Lib.hid hcz
  have hzc : (wz.alloc (.cells #[cv, .int .i64 0, .int .u64 0] 50)).heap.size = wz.heap.size + 1 := by simp
  have HZ := Lib.hid hwz
  obtain ⟨cA, cc, rfl, -, -⟩ := hcd
  clear hwz hbz hbc hcz HZ0
  go_enter Try.func11, Try.ntmps11
  go_wp2_with fail
  rw [← HZ.out]
  clear HZ
  obtain ⟨gc, hgc⟩ : ∃ gc, gc = w.heap.size + 1 := ⟨_, rfl⟩
  rw [hzs] at HC0 hzc
  rw [← hgc] at HC0 hzc ⊢
  generalize wz.alloc (.cells #[.slice cA L cc, .int .i64 0, .int .u64 0] 50) = w0 at *
  have hgc1 : w.heap.size + 1 ≤ gc := by omega
  have hgc2 : gc < w0.heap.size := by omega
  clear hzs HCD wz hgc hzc
  go_upto_region 3 with (go_at_call 18; refine (anyNet_any w0 gc (.slice cA L cc) L 0 7 HC0.out (by omega) (HF0.out.mono (by omega)) (by omega) (by omega)).mono ?_; rintro e w1 ⟨v1, N1, rfl, ho1, ht1, hc1, hcb1⟩; obtain ⟨E0, e0, E1, e1, E2, e2, rfl⟩ := ho1.parts)
  have hz1 := hcb1.size
  have hal : Below w1.heap.size w1 (w1.alloc (.cells #[.slice E0 N1.ends.length e0, .slice E1 N1.ids.length e1, .slice E2 N1.inputs.length e2] 27)) := (Below.refl _ _).alloc (Nat.le_refl _) _
  have hbel : Below w.heap.size w w1 := belowC HB0.out hcb1.to_grown (by omega)
  have hbel2 := Below.then_ hbel hal
  have HT := Lib.hid ht1
  have HS := Lib.hid ht1.small
  have HN1 := Lib.hid (NB.made ho1)
  obtain ⟨A1, hA1, hc1'⟩ : ∃ A1, A1 ≤ 600000000000000000 ∧ CurR w1 gc (.slice cA L cc) L A1 := ⟨_, by omega, hc1⟩
  have HC1 := Lib.hid (hc1'.keep hal)
  have HB1 := Lib.hid hbel2
  have HQ1_0 := Lib.hid ((HR0.out.grown hcb1.to_grown (by simp; omega)).below hal)
  have hza : (w1.alloc (.cells #[.slice E0 N1.ends.length e0, .slice E1 N1.ids.length e1, .slice E2 N1.inputs.length e2] 27)).heap.size = w1.heap.size + 1 := by simp
  obtain ⟨g, hg⟩ : ∃ g, g = w1.heap.size := ⟨_, rfl⟩
  rw [← hg] at HN1 hza hz1 ⊢
  clear ht1 ho1 hc1 hc1' hcb1 hal hbel hbel2 hg HC0 HB0 HR0
  generalize w1.alloc (.cells #[.slice E0 N1.ends.length e0, .slice E1 N1.ids.length e1, .slice E2 N1.inputs.length e2] 27) = w2 at *
  have hza2 : g < w2.heap.size := by omega
  clear hza
  have hl := HT.out.len
  have kb := HN1.out.bx.cell
  go_upto_region 4 with (go_at_call 19; refine (pick_any w2 gc _ L _ (N1.ends.length : Int) HC1.out (by omega)).mono ?_; rintro e w3 ⟨px, rfl, ⟨hp1, hp2, hp3⟩, hc3, hg3⟩; have HN3 := Lib.hid (HN1.out.grown hg3 (by omega) (by omega)); have HC3 := Lib.hid hc3; have HB3 := Lib.hid (belowC HB1.out hg3 (by omega)); have HQ3_0 := Lib.hid (HQ1_0.out.grown hg3 (by simp; omega)); clear hc3 hg3)
  clear HN1 HC1 HB1 HQ1_0 kb
  have hgw : g < w3.heap.size := HN3.out.bx.lt
  have kb3 := HN3.out.bx.cell
  by_cases h0 : N1.ends.length = 0
  · have hb0 : ((N1.ends.length : Int) == 0) = true := by simp [h0]
    clear h0 hp3
    obtain ⟨q1, q2, q3⟩ := resStoreT HQ3_0.out (Nat.le_refl _) HB3.out HN3.out.ow (by omega)
    have HFI := Lib.hid (And.intro q2 q3)
    have hfin := q1.cell
    have kr := HQ3_0.out.cell
    have fr := HQ3_0.out.free
    clear q1 q2 q3
    go_wp2_with fail
    unfold set3 at hfin
    obtain ⟨s0, s1, s2⟩ := res3 (x := .slice E0 N1.ends.length e0) (y := .slice E1 N1.ids.length e1) (z := .slice E2 N1.inputs.length e2) HQ3_0.out
    exact bodyPost_ret (v := .tuple #[.agg #[.slice E0 N1.ends.length e0, .slice E1 N1.ids.length e1, .slice E2 N1.inputs.length e2], .int .i64 (px + 20), .slice none 0 0]) (by simp [results, Try.results11, go_sem, s0, s1, s2]) rfl ⟨_, N1, _, _, [], rfl, HFI.out.1, HT.out, World.ownsRow_nil _ _ _ _, by simp, HFI.out.2⟩
  · have hb0 : ((N1.ends.length : Int) == 0) = false := by rw [beq_eq_false_iff_ne]; omega
    obtain ⟨v, rfl⟩ : ∃ v : Nat, px = (v : Int) := ⟨px.toNat, by omega⟩
    have hv : v < N1.ends.length := by omega
    have iv1 : (0 : Int) ≤ (v : Int) := by omega
    have iv2 : (v : Int) < (N1.ends.length : Int) := by omega
    clear h0 hp3 hp1
    go_upto_region 6 with (go_at_call 20; refine (one_any w3 gc _ L _ 12 HC3.out (by omega)).mono ?_; rintro e w5 ⟨b, rfl, hc5, hg5⟩; have HN5 := Lib.hid (HN3.out.grown hg5 (by omega) (by omega)); have HC5 := Lib.hid hc5; have HB5 := Lib.hid (belowC HB3.out hg5 (by omega)); have HQ5_0 := Lib.hid (HQ3_0.out.grown hg5 (by simp; omega)); clear hc5 hg5; have kb5 := HN5.out.bx.cell; obtain ⟨q1, q2, q3⟩ := resStoreT HQ5_0.out (Nat.le_refl _) HB5.out HN5.out.ow (by omega); have HFI := Lib.hid (And.intro q2 q3); have hfin := q1.cell; have kr := HQ5_0.out.cell; have fr := HQ5_0.out.free; clear q1 q2 q3; cases b)
    rotate_left
    · have hT : True := trivial
      unfold set3 at hfin
      obtain ⟨s0, s1, s2⟩ := res3 (x := .slice E0 N1.ends.length e0) (y := .slice E1 N1.ids.length e1) (z := .slice E2 N1.inputs.length e2) HQ5_0.out
      exact bodyPost_ret (v := .tuple #[.agg #[.slice E0 N1.ends.length e0, .slice E1 N1.ids.length e1, .slice E2 N1.inputs.length e2], .int .i64 ((v : Int) + 20), .slice none 0 0]) (by simp [results, Try.results11, go_sem, s0, s1, s2]) rfl ⟨_, N1, _, _, [], rfl, HFI.out.1, HT.out, World.ownsRow_nil _ _ _ _, by simp, HFI.out.2⟩
    · clear HFI hfin kr fr kb3
      obtain ⟨us, hrow, hinn, hdis⟩ := (NB.parts HN5.out).1
      have hlr := World.ownsRow.lt hrow
      obtain ⟨gE, hE0⟩ : ∃ gE, E0 = some ⟨gE, 0, none⟩ := by
        rcases hrow.2 with ⟨h1, h0⟩ | ⟨g', cap', cur', h1, -⟩
        · simp only [Value.slice.injEq] at h1; omega
        · simp only [Value.slice.injEq] at h1; exact ⟨g', h1.1⟩
      subst hE0
      have hov := (OwnEs.at_ hrow hv).1
      obtain ⟨Aq, cq, hus⟩ := (hinn v hv).shape
      rw [hus] at hov
      have hdl := HT.out.deg v
      unfold dg at hdl
      clear hrow hinn hdis hus hlr
      obtain ⟨d, hd⟩ : ∃ d, d = (gl N1.ends v).length := ⟨_, rfl⟩
      rw [← hd] at hov hdl
      clear hd HN3 HC3 HB3 HQ3_0
      go_upto_region 7 with (go_at_call 35; refine (perm_any w5 gc _ L _ d HC5.out (by omega) (by omega)).mono ?_; rintro e w6 ⟨gp, π, rfl, hoπ, hpm, hc6, hg6⟩; have HN6 := Lib.hid (HN5.out.grown hg6 (by omega) (by omega)); have HC6 := Lib.hid hc6; have HB6 := Lib.hid (belowC HB5.out hg6 (by omega)); have HQ6_0 := Lib.hid (HQ5_0.out.grown hg6 (by simp; omega)))
      have hpl : π.length = d := by rw [hpm.length_eq, upTo_length]
      have hz6 := hg6.size
      have HCB6 := Lib.hid (CurB.of_grown hg6 (Nat.le_refl _))
      have HP6 := Lib.hid hoπ
      have hgp := (World.ownsRow.lt hoπ gp rfl).2
      have hgp1 := (World.ownsRow.lt hoπ gp rfl).1
      have hgw5 : g < w5.heap.size := HN5.out.bx.lt
      have h50 : w0.heap.size ≤ w5.heap.size := by omega
      clear hpm hoπ hc6 hg6 hov kb5
      have HPL := Lib.hid hpl
      clear hpl
      by_cases hd0 : d = 0
      · have hdd : ¬ (0 : Int) < (d : Int) := by omega
        clear hd0
        have HPF := Lib.hid (((HP6.out).mono (by omega)).but (set3_but (x := .slice (some ⟨gE, 0, none⟩) N1.ends.length e0) (y := .slice E1 N1.ids.length e1) (z := .slice E2 N1.inputs.length e2) HQ6_0.out) (by decide) : OwnI _ w.heap.size _ _)
        obtain ⟨q1, q2, q3⟩ := resStoreT HQ6_0.out (Nat.le_refl _) HB6.out HN6.out.ow (by omega)
        have HFI := Lib.hid (And.intro q2 q3)
        have kr := HQ6_0.out.cell
        have fr := HQ6_0.out.free
        have kb := HN6.out.bx.cell
        clear q1 q2 q3
        go_wp2_with fail
        have HPF' := HPF.out
        unfold set3 at HPF'
        obtain ⟨s0, s1, s2⟩ := res3 (x := .slice (some ⟨gE, 0, none⟩) N1.ends.length e0) (y := .slice E1 N1.ids.length e1) (z := .slice E2 N1.inputs.length e2) HQ6_0.out
        exact bodyPost_ret (v := .tuple #[.agg #[.slice (some ⟨gE, 0, none⟩) N1.ends.length e0, .slice E1 N1.ids.length e1, .slice E2 N1.inputs.length e2], .int .i64 v, .slice (some ⟨gp, 0, none⟩) d d]) (by simp [results, Try.results11, go_sem, s0, s1, s2]) rfl ⟨_, N1, _, _, _, rfl, HFI.out.1, HT.out, HPF', by have := HPL.out; simp; omega, HFI.out.2⟩
      · have hdd : (0 : Int) < (d : Int) := by omega
        have hdd2 : 0 < d := by omega
        clear hd0
        go_upto_region 8 with (go_at_call 20; refine (one_any w6 gc _ L _ 8 HC6.out (by omega)).mono ?_; rintro e w7 ⟨b, rfl, hc7, hg7⟩; have HN7 := Lib.hid (HN6.out.grown hg7 (by omega) (by omega)); have HC7 := Lib.hid hc7; have HB7 := Lib.hid (belowC HB6.out hg7 (by omega)); have HQ7_0 := Lib.hid (HQ6_0.out.grown hg7 (by simp; omega)); have hz7 := hg7.size; have HP7 := Lib.hid (HP6.out.grown hg7 (by omega)); have HCB7 := Lib.hid (HCB6.out.trans (CurB.of_grown (B := w5.heap.size) hg7 (by omega))); clear hc7 hg7; have HPF := Lib.hid (((HP7.out).mono (by omega)).but (set3_but (x := .slice (some ⟨gE, 0, none⟩) N1.ends.length e0) (y := .slice E1 N1.ids.length e1) (z := .slice E2 N1.inputs.length e2) HQ7_0.out) (by decide) : OwnI _ w.heap.size _ _); obtain ⟨q1, q2, q3⟩ := resStoreT HQ7_0.out (Nat.le_refl _) HB7.out HN7.out.ow (by omega); have HFI := Lib.hid (And.intro q2 q3); have kr := HQ7_0.out.cell; have fr := HQ7_0.out.free; have kb := HN7.out.bx.cell; clear q1 q2 q3; cases b)
        · have hT : True := trivial
          have HPF' := HPF.out
          unfold set3 at HPF'
          obtain ⟨s0, s1, s2⟩ := res3 (x := .slice (some ⟨gE, 0, none⟩) N1.ends.length e0) (y := .slice E1 N1.ids.length e1) (z := .slice E2 N1.inputs.length e2) HQ7_0.out
          exact bodyPost_ret (v := .tuple #[.agg #[.slice (some ⟨gE, 0, none⟩) N1.ends.length e0, .slice E1 N1.ids.length e1, .slice E2 N1.inputs.length e2], .int .i64 v, .slice (some ⟨gp, 0, none⟩) d d]) (by simp [results, Try.results11, go_sem, s0, s1, s2]) rfl ⟨_, N1, _, _, _, rfl, HFI.out.1, HT.out, HPF', by have := HPL.out; simp; omega, HFI.out.2⟩
        · clear HPF HFI kr fr kb
          go_upto_region 9 with (go_at_call 36; go_loud (refine (among_any (w7.alloc _) gc _ L _ _ [-1, 0, (d : Int)] (HC7.out.keep ((Below.refl _ _).alloc (Nat.le_refl _) _)) (by omega) (IntsR.built w7 3 [-1, 0, (d : Int)] (by simp)) (by have := hz7; rintro b rfl; omega) (by simp) (by simp)).mono ?_; rintro e w8 ⟨q, rfl, -, hc8, hg8⟩; have hcb8 := (HCB7.out.trans (CurB.of_below ((Below.refl _ w7).alloc (Nat.le_refl _) _) (by omega))).trans (CurB.of_grown (B := w5.heap.size) hg8 (by simp; omega)); have HP8 := Lib.hid ((HP7.out.below ((Below.refl _ w7).alloc (Nat.le_refl _) _)).grown hg8 (by omega)); have hat := OwnI.at_ HP8.out HPL.out.symm (j := 0) (by have := HPL.out; omega); have hc0 := hat.1; have hf0 := hat.2))
          have hcb9 : CurB w5.heap.size gc w5 (w8.setCell ⟨gp, 0, none⟩ (.int .i64 q)) := hcb8.setCell (p := ⟨gp, 0, none⟩) (by simpa using hgp1) _
          have HN9 := Lib.hid (HN5.out.cur hcb9 (by omega) (by omega))
          have HB9 := Lib.hid (belowC HB5.out hcb9.to_grown (by omega))
          have HQ9_0 := Lib.hid (HQ5_0.out.grown hcb9.to_grown (by simp; omega))
          have HP9 := Lib.hid (HP8.out.put (j := 0) HPL.out.symm q)
          clear hcb8 hcb9 hat hc0 hf0 hg8 hc8
          generalize w8.setCell ⟨gp, 0, none⟩ (.int .i64 q) = w9 at *
          have HPF := Lib.hid (((HP9.out).mono (by omega)).but (set3_but (x := .slice (some ⟨gE, 0, none⟩) N1.ends.length e0) (y := .slice E1 N1.ids.length e1) (z := .slice E2 N1.inputs.length e2) HQ9_0.out) (by decide) : OwnI _ w.heap.size _ _)
          obtain ⟨q1, q2, q3⟩ := resStoreT HQ9_0.out (Nat.le_refl _) HB9.out HN9.out.ow (by omega)
          have HFI := Lib.hid (And.intro q2 q3)
          have kr := HQ9_0.out.cell
          have fr := HQ9_0.out.free
          have kb := HN9.out.bx.cell
          clear q1 q2 q3
          go_wp2_with fail
          have HPF' := HPF.out
          unfold set3 at HPF'
          obtain ⟨s0, s1, s2⟩ := res3 (x := .slice (some ⟨gE, 0, none⟩) N1.ends.length e0) (y := .slice E1 N1.ids.length e1) (z := .slice E2 N1.inputs.length e2) HQ9_0.out
          exact bodyPost_ret (v := .tuple #[.agg #[.slice (some ⟨gE, 0, none⟩) N1.ends.length e0, .slice E1 N1.ids.length e1, .slice E2 N1.inputs.length e2], .int .i64 v, .slice (some ⟨gp, 0, none⟩) d d]) (by simp [results, Try.results11, go_sem, s0, s1, s2]) rfl ⟨_, N1, _, _, _, rfl, HFI.out.1, HT.out, HPF', by have := HPL.out; simp; omega, HFI.out.2⟩
end Go.Proofs.Ytkbhbbehidhknaa

namespace Go.Proofs.Ytkbhbbehidhknaa
open Go.RowKit

/-- two networks -/
def RetDU (w : World) (e : Ending) (w' : World) : Prop :=
  ∃ (v v' : Value) (N N' : Net), e = .returned (.tuple #[v, v']) ∧ OwnNt w' w.heap.size v N ∧ Tame N ∧ OwnNt w' w.heap.size v' N' ∧ Tame N' ∧ Below w.heap.size w w'

theorem Tame.empty {n : Nat} (hn : n ≤ 64) : Tame (emptyN n) :=
  ⟨by simp [emptyN]; exact hn, fun a => by unfold dg emptyN; simp only; rw [gl_replicate]; simp, by simp [emptyN], by simp [emptyN]; exact hn⟩
set_option maxRecDepth 100000 in
set_option maxHeartbeats 8000000 in
theorem DrawUnionOf_any (w : World) (cv : Value) (L : Nat) (hcd : CodeR w cv L) :
    Calls Try.prog 14 #[cv] w (RetDU w) := by
  have HCD := Lib.hid hcd
  have HF0 := Lib.hid hcd.far
  obtain ⟨wz, hwz⟩ : ∃ wz, wz = ((w.alloc (.cells #[.slice none 0 0, .slice none 0 0, .slice none 0 0] 27)).alloc (.cells #[.slice none 0 0, .slice none 0 0, .slice none 0 0] 27)) := ⟨_, rfl⟩
  have hzs : wz.heap.size = w.heap.size + 2 := by rw [hwz]; simp
  have hbz : Below w.heap.size w wz := by rw [hwz]; exact (((Below.refl _ _).alloc (by simp) _).alloc (by simp) _)
  have HZ0 : Hid (Blk wz w.heap.size 27 #[.slice none 0 0, .slice none 0 0, .slice none 0 0]) := Lib.hid (by
    rw [hwz]
    have := (Blk.new w 27 #[.slice none 0 0, .slice none 0 0, .slice none 0 0]).alloc (.cells #[.slice none 0 0, .slice none 0 0, .slice none 0 0] 27)
    simpa using this)
  have HZ1 : Hid (Blk wz (w.heap.size + 1) 27 #[.slice none 0 0, .slice none 0 0, .slice none 0 0]) := Lib.hid (by
    rw [hwz]
    have := (Blk.new (w.alloc (.cells #[.slice none 0 0, .slice none 0 0, .slice none 0 0] 27)) 27 #[.slice none 0 0, .slice none 0 0, .slice none 0 0])
    simpa using this)
  have hcz := (hcd.below hbz).cur
  have hbc : Below wz.heap.size wz (wz.alloc (.cells #[cv, .int .i64 0, .int .u64 0] 50)) := (Below.refl _ _).alloc (Nat.le_refl _) _
  have HR0 := Lib.hid (HZ0.out.below hbc)
  have HR1 := Lib.hid (HZ1.out.below hbc)
  have HB0 := Lib.hid (Below.then_ hbz hbc)
  have HC0 := Lib.hid hcz
  have hzc : (wz.alloc (.cells #[cv, .int .i64 0, .int .u64 0] 50)).heap.size = wz.heap.size + 1 := by simp
  have HZ := Lib.hid hwz
  obtain ⟨cA, cc, rfl, -, -⟩ := hcd
  clear hwz hbz hbc hcz HZ0 HZ1
  go_enter Try.func14, Try.ntmps14
  go_wp2_with fail
  rw [← HZ.out]
  clear HZ
  obtain ⟨gc, hgc⟩ : ∃ gc, gc = w.heap.size + 2 := ⟨_, rfl⟩
  rw [hzs] at HC0 hzc
  rw [← hgc] at HC0 hzc ⊢
  generalize wz.alloc (.cells #[.slice cA L cc, .int .i64 0, .int .u64 0] 50) = w0 at *
  have hgc1 : w.heap.size + 2 ≤ gc := by omega
  have hgc2 : gc < w0.heap.size := by omega
  clear hzs HCD wz hgc hzc
  go_upto_region 3 with (first
    | (go_at_call 18; refine (anyNet_any w1 gc (.slice cA L cc) L A1 6 HC1.out (by omega) (HF0.out.mono (by omega)) (by omega) (by omega)).mono ?_; rintro e w2 ⟨v2, N2, rfl, ho2, ht2, hc2, hcb2⟩; obtain ⟨F0, f0, F1, f1, F2, f2, rfl⟩ := ho2.parts)
    | (go_at_call 18; refine (anyNet_any w0 gc (.slice cA L cc) L 0 6 HC0.out (by omega) (HF0.out.mono (by omega)) (by omega) (by omega)).mono ?_; rintro e w1 ⟨v1, N1, rfl, ho1, ht1, hc1, hcb1⟩; obtain ⟨E0, e0, E1, e1, E2, e2, rfl⟩ := ho1.parts; have hz1 := hcb1.size; obtain ⟨A1, hA1, hc1'⟩ : ∃ A1, A1 ≤ 600000000000000000 ∧ CurR w1 gc (.slice cA L cc) L A1 := ⟨_, by omega, hc1⟩; have HC1 := Lib.hid hc1'))
  have hz2 := hcb2.size
  have hal1 : Below w2.heap.size w2 (w2.alloc (.cells #[.slice E0 N1.ends.length e0, .slice E1 N1.ids.length e1, .slice E2 N1.inputs.length e2] 27)) := (Below.refl _ _).alloc (Nat.le_refl _) _
  have hal2 : Below w2.heap.size w2 ((w2.alloc (.cells #[.slice E0 N1.ends.length e0, .slice E1 N1.ids.length e1, .slice E2 N1.inputs.length e2] 27)).alloc (.cells #[.slice F0 N2.ends.length f0, .slice F1 N2.ids.length f1, .slice F2 N2.inputs.length f2] 27)) := hal1.alloc hal1.size _
  have hb1 : Below w.heap.size w w1 := belowC HB0.out hcb1.to_grown (by omega)
  have hb2 : Below w.heap.size w w2 := belowC hb1 hcb2.to_grown (by omega)
  have HB := Lib.hid (Below.then_ hb2 hal2)
  have HT1 := Lib.hid ht1
  have HT2 := Lib.hid ht2
  have HN1 := Lib.hid ((NB.made (ho1.grown hcb2.to_grown hgc2)).alloc (.cells #[.slice F0 N2.ends.length f0, .slice F1 N2.ids.length f1, .slice F2 N2.inputs.length f2] 27))
  have hn2 : NB ((w2.alloc (.cells #[.slice E0 N1.ends.length e0, .slice E1 N1.ids.length e1, .slice E2 N1.inputs.length e2] 27)).alloc (.cells #[.slice F0 N2.ends.length f0, .slice F1 N2.ids.length f1, .slice F2 N2.inputs.length f2] 27)) w1.heap.size (w2.heap.size + 1) (.slice F0 N2.ends.length f0) (.slice F1 N2.ids.length f1) (.slice F2 N2.inputs.length f2) N2 := by
    have := NB.made (ho2.below hal1)
    rwa [World.size_alloc] at this
  have HN2 := Lib.hid hn2
  obtain ⟨A2, hA2, hc2'⟩ : ∃ A2, A2 ≤ 1200000000000000000 ∧ CurR w2 gc (.slice cA L cc) L A2 := ⟨_, by omega, hc2⟩
  have HC := Lib.hid (hc2'.keep hal2)
  have HQ0 := Lib.hid (((HR0.out.grown hcb1.to_grown (by simp; omega)).grown hcb2.to_grown (by simp; omega)).below hal2)
  have HQ1 := Lib.hid (((HR1.out.grown hcb1.to_grown (by simp; omega)).grown hcb2.to_grown (by simp; omega)).below hal2)
  have hza : ((w2.alloc (.cells #[.slice E0 N1.ends.length e0, .slice E1 N1.ids.length e1, .slice E2 N1.inputs.length e2] 27)).alloc (.cells #[.slice F0 N2.ends.length f0, .slice F1 N2.ids.length f1, .slice F2 N2.inputs.length f2] 27)).heap.size = w2.heap.size + 1 + 1 := by simp
  obtain ⟨g2, hg2⟩ : ∃ g2, g2 = w2.heap.size + 1 := ⟨_, rfl⟩
  rw [← hg2] at HN2 hza ⊢
  obtain ⟨g1, hg1⟩ : ∃ g1, g1 = w2.heap.size := ⟨_, rfl⟩
  rw [← hg1] at HN1 ⊢
  have hn1 : g1 ≠ gc := by omega
  have hn2' : g2 ≠ gc := by omega
  have hn3 : g1 ≠ w.heap.size ∧ g1 ≠ w.heap.size + 1 ∧ g2 ≠ w.heap.size ∧ g2 ≠ w.heap.size + 1 := by omega
  have HNE := Lib.hid hn3
  have hgz1 : w0.heap.size ≤ g1 := by omega
  have hgz2 : w1.heap.size ≤ g2 := by omega
  clear ht1 ht2 ho1 ho2 hc1 hc1' hc2 hc2' hcb1 hcb2 hal1 hal2 hb1 hb2 hn2 hg1 hg2 hn3 HC0 HB0 HR0 HR1 HC1
  generalize (w2.alloc (.cells #[.slice E0 N1.ends.length e0, .slice E1 N1.ids.length e1, .slice E2 N1.inputs.length e2] 27)).alloc (.cells #[.slice F0 N2.ends.length f0, .slice F1 N2.ids.length f1, .slice F2 N2.inputs.length f2] 27) = wa at *
  have hza2 : w0.heap.size ≤ wa.heap.size := by omega
  have hza3 : w1.heap.size ≤ wa.heap.size := by omega
  clear hza
  go_upto_region 4 with (go_at_call 19; refine (pick_any wa gc _ L A2 8 HC.out (by omega)).mono ?_; rintro e w3 ⟨x, rfl, ⟨hp1, hp2, -⟩, hc3, hg3⟩)
  have hz3 := hg3.size
  have HN31 := Lib.hid (HN1.out.grown hg3 (by omega) hn1)
  have HN32 := Lib.hid (HN2.out.grown hg3 (by omega) hn2')
  have HB3 := Lib.hid (belowC HB.out hg3 (by omega))
  have HC3 := Lib.hid hc3
  have HQ30 := Lib.hid (HQ0.out.grown hg3 (by simp; omega))
  have HQ31 := Lib.hid (HQ1.out.grown hg3 (by simp; omega))
  obtain ⟨x0, rfl⟩ : ∃ x0 : Nat, x = (x0 : Int) := ⟨x.toNat, by omega⟩
  clear hc3 hg3 HC HB HN1 HN2 HQ0 HQ1 hp1 hp2
  have h30 : w0.heap.size ≤ w3.heap.size := by omega
  rcases (by omega : x0 = 0 ∨ x0 = 1 ∨ 2 ≤ x0) with rfl | rfl | hx2
  · have HEM : Hid (∀ (W : World) (qn : Nat), qn ≤ 1 → Calls Try.prog 41 #[.int .i64 (20 + (qn : Int))] W (RetNt W (emptyN (20 + qn)))) := Lib.hid (fun W qn h => by
      have := neEmpty_any (20 + qn) W (by omega)
      rwa [show ((20 + qn : Nat) : Int) = 20 + (qn : Int) by omega] at this)
    go_wp2_with (first
      | (go_at_call 41; refine (HEM.out w5 qn hqn).mono ?_; rintro e w6 ⟨v6, rfl, ho6, hb6⟩; obtain ⟨K0, k0, K1, k1, K2, k2, rfl⟩ := ho6.parts; have hz6 := hb6.size; have hQ0 := HQ50.out.below hb6; have hQ1 := HQ51.out.below hb6; have hBB := Below.then_ HB5.out hb6; have hO4 := HO5.out.below hb6; obtain ⟨q1, q2, q3, q4, q5, q6⟩ := resStore2 (x := .slice G0 (emptyN 20).ends.length d0) (y := .slice G1 (emptyN 20).ids.length d1) (z := .slice G2 (emptyN 20).inputs.length d2) (x' := .slice K0 (emptyN (20 + qn)).ends.length k0) (y' := .slice K1 (emptyN (20 + qn)).ids.length k1) (z' := .slice K2 (emptyN (20 + qn)).inputs.length k2) hQ0 hQ1 (by omega) (Nat.le_refl _) (by omega) hBB hO4 (by omega) ho6 (by omega); have HFI := Lib.hid (And.intro q1 (And.intro q2 q3)); obtain ⟨s0, s1, s2⟩ := res3 (x := .slice G0 (emptyN 20).ends.length d0) (y := .slice G1 (emptyN 20).ids.length d1) (z := .slice G2 (emptyN 20).inputs.length d2) hQ0; have t0 := q5.cell; have t1 := q6.cell; have kr0 := (hQ0).cell; have fr0 := (hQ0).free; have kr1 := (hQ1).cell; have fr1 := (hQ1).free; have kq1 := q4.cell; have fq1 := q4.free; unfold set3 at t0 t1 kq1 fq1; clear q1 q2 q3 q4 q5 q6)
      | (go_at_call 19; refine (pick_any w4 gc _ L _ 2 HC4.out (by omega)).mono ?_; rintro e w5 ⟨q, rfl, hpq, hc5, hg5⟩; obtain ⟨qn, rfl⟩ : ∃ qn : Nat, q = (qn : Int) := ⟨q.toNat, by have := hpq.1; omega⟩; have hqn : qn ≤ 1 := (by have := hpq.2.2; omega); have hz5 := hg5.size; have HO5 := Lib.hid (HO4.out.grown hg5 (by omega)); have HB5 := Lib.hid (belowC HB4.out hg5 (by omega)); have HQ50 := Lib.hid (HQ40.out.grown hg5 (by simp; omega)); have HQ51 := Lib.hid (HQ41.out.grown hg5 (by simp; omega)); clear hpq hc5 hg5)
      | (go_at_call 41; refine (neEmpty_any 20 w3 (by omega)).mono ?_; rintro e w4 ⟨v4, rfl, ho4, hb4⟩; obtain ⟨G0, d0, G1, d1, G2, d2, rfl⟩ := ho4.parts; have hz4 := hb4.size; have HC4 := Lib.hid (HC3.out.keep hb4); have HO4 := Lib.hid ho4; have HB4 := Lib.hid (Below.then_ HB3.out hb4); have HQ40 := Lib.hid (HQ30.out.below hb4); have HQ41 := Lib.hid (HQ31.out.below hb4); clear ho4 hb4))
    exact bodyPost_ret (v := .tuple #[.agg #[.slice G0 (emptyN 20).ends.length d0, .slice G1 (emptyN 20).ids.length d1, .slice G2 (emptyN 20).inputs.length d2], .agg #[.slice K0 (emptyN (20 + qn)).ends.length k0, .slice K1 (emptyN (20 + qn)).ids.length k1, .slice K2 (emptyN (20 + qn)).inputs.length k2]]) (by simp [results, Try.results14, go_sem, t0, t1, s0, s1, s2]) rfl ⟨_, _, _, _, rfl, HFI.out.1, Tame.empty (by omega), HFI.out.2.1, Tame.empty (by omega), HFI.out.2.2⟩
  · go_wp2_with (first
      | (go_at_call 42; refine (withIds_any (S := fun _ => True) w6 gc _ L A6 _ N6 HC6.out (by omega) (HF0.out.mono (by omega)) HNR6.out HS6.out).mono ?_; rintro e w7 ⟨v7, N7, rfl, ho7, hi7, hc7, hcb7⟩; obtain ⟨K0, k0, K1, k1, K2, k2, rfl⟩ := ho7.parts; have hz7 := hcb7.size; have hQ0 := HQ60.out.grown hcb7.to_grown (by simp; omega); have hQ1 := HQ61.out.grown hcb7.to_grown (by simp; omega); have hBB := belowC HB6.out hcb7.to_grown (by omega); have hO5 := HO6.out.grown hcb7.to_grown (by omega); have HT7 := Lib.hid ((HD6.out.withIds hi7).tame (by omega) (by omega)); obtain ⟨q1, q2, q3, q4, q5, q6⟩ := resStore2 (x := .slice G0 N5.ends.length d0) (y := .slice G1 N5.ids.length d1) (z := .slice G2 N5.inputs.length d2) (x' := .slice K0 N7.ends.length k0) (y' := .slice K1 N7.ids.length k1) (z' := .slice K2 N7.inputs.length k2) hQ0 hQ1 (by omega) (Nat.le_refl _) (by omega) hBB hO5 (by omega) ho7 (by omega); have HFI := Lib.hid (And.intro q1 (And.intro q2 q3)); obtain ⟨s0, s1, s2⟩ := res3 (x := .slice G0 N5.ends.length d0) (y := .slice G1 N5.ids.length d1) (z := .slice G2 N5.inputs.length d2) hQ0; have t0 := q5.cell; have t1 := q6.cell; have kr0 := (hQ0).cell; have fr0 := (hQ0).free; have kr1 := (hQ1).cell; have fr1 := (hQ1).free; have kq1 := q4.cell; have fq1 := q4.free; unfold set3 at t0 t1 kq1 fq1; clear q1 q2 q3 q4 q5 q6)
      | (go_at_call 43; refine (net_any w5 gc _ L A5 4 HC5.out (by omega) (HF0.out.mono (by omega)) (by omega) (by omega)).mono ?_; rintro e w6 ⟨v6, N6, rfl, ho6, hd6, hc6, hcb6⟩; have hz6 := hcb6.size; obtain ⟨A6, hA6, hc6'⟩ : ∃ A6, A6 ≤ 2500000000000000000 ∧ CurR w6 gc (.slice cA L cc) L A6 := ⟨_, by omega, hc6⟩; have HC6 := Lib.hid hc6'; have HNR6 := Lib.hid (ho6.net (S := fun _ => True) (fun _ _ _ => trivial)); have HS6 := Lib.hid (hd6.small (by omega) (by omega)); have HD6 := Lib.hid hd6; have HO6 := Lib.hid (HO5.out.grown hcb6.to_grown (by omega)); have HB6 := Lib.hid (belowC HB5.out hcb6.to_grown (by omega)); have HQ60 := Lib.hid (HQ50.out.grown hcb6.to_grown (by simp; omega)); have HQ61 := Lib.hid (HQ51.out.grown hcb6.to_grown (by simp; omega)); clear ho6 hd6 hc6 hc6' hcb6)
      | (go_at_call 42; refine (withIds_any (S := fun _ => True) w4 gc _ L A4 _ N4 HC4.out (by omega) (HF0.out.mono (by omega)) HNR4.out HS4.out).mono ?_; rintro e w5 ⟨v5, N5, rfl, ho5, hi5, hc5, hcb5⟩; obtain ⟨G0, d0, G1, d1, G2, d2, rfl⟩ := ho5.parts; have hz5 := hcb5.size; obtain ⟨A5, hA5, hc5'⟩ : ∃ A5, A5 ≤ 1900000000000000000 ∧ CurR w5 gc (.slice cA L cc) L A5 := ⟨_, by omega, hc5⟩; have HC5 := Lib.hid hc5'; have HO5 := Lib.hid ho5; have HT5 := Lib.hid ((HD4.out.withIds hi5).tame (by omega) (by omega)); have HB5 := Lib.hid (belowC HB4.out hcb5.to_grown (by omega)); have HQ50 := Lib.hid (HQ40.out.grown hcb5.to_grown (by simp; omega)); have HQ51 := Lib.hid (HQ41.out.grown hcb5.to_grown (by simp; omega)); clear ho5 hi5 hc5 hc5' hcb5)
      | (go_at_call 43; refine (net_any w3 gc _ L _ 4 HC3.out (by omega) (HF0.out.mono (by omega)) (by omega) (by omega)).mono ?_; rintro e w4 ⟨v4, N4, rfl, ho4, hd4, hc4, hcb4⟩; have hz4 := hcb4.size; obtain ⟨A4, hA4, hc4'⟩ : ∃ A4, A4 ≤ 1800000000000000000 ∧ CurR w4 gc (.slice cA L cc) L A4 := ⟨_, by omega, hc4⟩; have HC4 := Lib.hid hc4'; have HNR4 := Lib.hid (ho4.net (S := fun _ => True) (fun _ _ _ => trivial)); have HS4 := Lib.hid (hd4.small (by omega) (by omega)); have HD4 := Lib.hid hd4; have HB4 := Lib.hid (belowC HB3.out hcb4.to_grown (by omega)); have HQ40 := Lib.hid (HQ30.out.grown hcb4.to_grown (by simp; omega)); have HQ41 := Lib.hid (HQ31.out.grown hcb4.to_grown (by simp; omega)); clear ho4 hd4 hc4 hc4' hcb4))
    exact bodyPost_ret (v := .tuple #[.agg #[.slice G0 N5.ends.length d0, .slice G1 N5.ids.length d1, .slice G2 N5.inputs.length d2], .agg #[.slice K0 N7.ends.length k0, .slice K1 N7.ids.length k1, .slice K2 N7.inputs.length k2]]) (by simp [results, Try.results14, go_sem, t0, t1, s0, s1, s2]) rfl ⟨_, _, _, _, rfl, HFI.out.1, HT5.out, HFI.out.2.1, HT7.out, HFI.out.2.2⟩
  · have hne0 : ((x0 : Int) == 0) = false := by rw [beq_eq_false_iff_ne]; omega
    have hne1 : ((x0 : Int) == 1) = false := by rw [beq_eq_false_iff_ne]; omega
    clear hx2
    go_upto_region 8 with fail
    have hS0 : ((w3.drew).cell? ⟨g1, 0, none⟩ = some (.slice E0 N1.ends.length e0) ∧ (w3.drew).cell? ⟨g1, 1, none⟩ = some (.slice E1 N1.ids.length e1) ∧ (w3.drew).cell? ⟨g1, 2, none⟩ = some (.slice E2 N1.inputs.length e2)) ∧ ((w3.drew).cell? ⟨g2, 0, none⟩ = some (.slice F0 N2.ends.length f0) ∧ (w3.drew).cell? ⟨g2, 1, none⟩ = some (.slice F1 N2.ids.length f1) ∧ (w3.drew).cell? ⟨g2, 2, none⟩ = some (.slice F2 N2.inputs.length f2)) := ⟨⟨HN31.out.drew.bx.cell 0, HN31.out.drew.bx.cell 1, HN31.out.drew.bx.cell 2⟩, ⟨HN32.out.drew.bx.cell 0, HN32.out.drew.bx.cell 1, HN32.out.drew.bx.cell 2⟩⟩
    refine wp_region_any (by kernel_rfl) ?_
    try (change wpAny _ _ _ _ _ _ _ (World.drew _))
    simp only [List.size_toArray, List.length_cons, List.length_nil, Array.replicate, List.replicate]
    refine wpAny_of_P (S := fun W => (W.cell? ⟨g1, 0, none⟩ = some (.slice E0 N1.ends.length e0) ∧ W.cell? ⟨g1, 1, none⟩ = some (.slice E1 N1.ids.length e1) ∧ W.cell? ⟨g1, 2, none⟩ = some (.slice E2 N1.inputs.length e2)) ∧ (W.cell? ⟨g2, 0, none⟩ = some (.slice F0 N2.ends.length f0) ∧ W.cell? ⟨g2, 1, none⟩ = some (.slice F1 N2.ids.length f1) ∧ W.cell? ⟨g2, 2, none⟩ = some (.slice F2 N2.inputs.length f2))) (n1 := 4) _ _ _ _ ?_
    refine wpAnyP_take (i := 0) (oi := _) (v := ?_) rfl (by kernel_rfl) (by kernel_rfl) (by kernel_rfl) (by omega) (by kernel_rfl) (fun _ _ _ h => h) (Or.inl ⟨by rfl, ?_⟩) (hS0) ?_
    case refine_2 => intro w0 hS0; obtain ⟨⟨h0, h1, h2⟩, ⟨h3, h4, h5⟩⟩ := hS0; go_simp; try with_reducible rfl
    try simp only [Act.put, List.getElem_toArray, List.getElem_cons_zero, List.getElem_cons_succ, List.setIfInBounds_toArray, List.set_cons_zero, List.set_cons_succ]
    refine wpAnyP_take (i := 1) (oi := _) (v := ?_) rfl (by kernel_rfl) (by kernel_rfl) (by kernel_rfl) (by omega) (by kernel_rfl) (fun _ _ _ h => h) (Or.inl ⟨by rfl, ?_⟩) (hS0) ?_
    case refine_2 => intro w0 hS0; obtain ⟨⟨h0, h1, h2⟩, ⟨h3, h4, h5⟩⟩ := hS0; go_simp; try with_reducible rfl
    try simp only [Act.put, List.getElem_toArray, List.getElem_cons_zero, List.getElem_cons_succ, List.setIfInBounds_toArray, List.set_cons_zero, List.set_cons_succ]
    obtain ⟨q1, q2, q3, q4, q5, q6⟩ := resStore2 (x := .slice E0 N1.ends.length e0) (y := .slice E1 N1.ids.length e1) (z := .slice E2 N1.inputs.length e2) (x' := .slice F0 N2.ends.length f0) (y' := .slice F1 N2.ids.length f1) (z' := .slice F2 N2.inputs.length f2) HQ30.out HQ31.out (by omega) (Nat.le_refl _) (by omega) HB3.out HN31.out.ow (by omega) HN32.out.ow (by omega)
    have HFI := Lib.hid (And.intro (q1.below (Below.refl _ _).drew) (And.intro (q2.below (Below.refl _ _).drew) (Below.then_ q3 (Below.refl _ _).drew)))
    obtain ⟨s0, s1, s2⟩ := res3 (x := .slice E0 N1.ends.length e0) (y := .slice E1 N1.ids.length e1) (z := .slice E2 N1.inputs.length e2) HQ30.out
    have t0 := q5.cell
    have t1 := q6.cell
    have kr0 := (HQ30.out).cell
    have fr0 := (HQ30.out).free
    have kr1 := (HQ31.out).cell
    have fr1 := (HQ31.out).free
    have kq1 := q4.cell
    have fq1 := q4.free
    unfold set3 at t0 t1 kq1 fq1
    clear q1 q2 q3 q4 q5 q6
    have hb11 : Blk (set3 w3 w.heap.size (.slice E0 N1.ends.length e0) (.slice E1 N1.ids.length e1) (.slice E2 N1.inputs.length e2)) g1 27 #[.slice E0 N1.ends.length e0, .slice E1 N1.ids.length e1, .slice E2 N1.inputs.length e2] := (set3_block _ _ _ _ _ HNE.out.1).trans HN31.out.bx
    have hb12 : Blk (set3 w3 w.heap.size (.slice E0 N1.ends.length e0) (.slice E1 N1.ids.length e1) (.slice E2 N1.inputs.length e2)) g2 27 #[.slice F0 N2.ends.length f0, .slice F1 N2.ids.length f1, .slice F2 N2.inputs.length f2] := (set3_block _ _ _ _ _ HNE.out.2.2.1).trans HN32.out.bx
    have hb21 : Blk (set3 (set3 w3 w.heap.size (.slice E0 N1.ends.length e0) (.slice E1 N1.ids.length e1) (.slice E2 N1.inputs.length e2)) (w.heap.size + 1) (.slice F0 N2.ends.length f0) (.slice F1 N2.ids.length f1) (.slice F2 N2.inputs.length f2)) g1 27 #[.slice E0 N1.ends.length e0, .slice E1 N1.ids.length e1, .slice E2 N1.inputs.length e2] := (set3_block _ _ _ _ _ HNE.out.2.1).trans hb11
    have hb22 : Blk (set3 (set3 w3 w.heap.size (.slice E0 N1.ends.length e0) (.slice E1 N1.ids.length e1) (.slice E2 N1.inputs.length e2)) (w.heap.size + 1) (.slice F0 N2.ends.length f0) (.slice F1 N2.ids.length f1) (.slice F2 N2.inputs.length f2)) g2 27 #[.slice F0 N2.ends.length f0, .slice F1 N2.ids.length f1, .slice F2 N2.inputs.length f2] := (set3_block _ _ _ _ _ HNE.out.2.2.2).trans hb12
    have hb11d := hb11.below (Below.refl _ _).drew
    have hb12d := hb12.below (Below.refl _ _).drew
    have hb21d := hb21.below (Below.refl _ _).drew
    have hb22d := hb22.below (Below.refl _ _).drew
    have hS1 : ((set3 w3 w.heap.size (.slice E0 N1.ends.length e0) (.slice E1 N1.ids.length e1) (.slice E2 N1.inputs.length e2)).drew.cell? ⟨g1, 0, none⟩ = some (.slice E0 N1.ends.length e0) ∧ (set3 w3 w.heap.size (.slice E0 N1.ends.length e0) (.slice E1 N1.ids.length e1) (.slice E2 N1.inputs.length e2)).drew.cell? ⟨g1, 1, none⟩ = some (.slice E1 N1.ids.length e1) ∧ (set3 w3 w.heap.size (.slice E0 N1.ends.length e0) (.slice E1 N1.ids.length e1) (.slice E2 N1.inputs.length e2)).drew.cell? ⟨g1, 2, none⟩ = some (.slice E2 N1.inputs.length e2)) ∧ ((set3 w3 w.heap.size (.slice E0 N1.ends.length e0) (.slice E1 N1.ids.length e1) (.slice E2 N1.inputs.length e2)).drew.cell? ⟨g2, 0, none⟩ = some (.slice F0 N2.ends.length f0) ∧ (set3 w3 w.heap.size (.slice E0 N1.ends.length e0) (.slice E1 N1.ids.length e1) (.slice E2 N1.inputs.length e2)).drew.cell? ⟨g2, 1, none⟩ = some (.slice F1 N2.ids.length f1) ∧ (set3 w3 w.heap.size (.slice E0 N1.ends.length e0) (.slice E1 N1.ids.length e1) (.slice E2 N1.inputs.length e2)).drew.cell? ⟨g2, 2, none⟩ = some (.slice F2 N2.inputs.length f2)) := ⟨⟨hb11d.cell 0, hb11d.cell 1, hb11d.cell 2⟩, ⟨hb12d.cell 0, hb12d.cell 1, hb12d.cell 2⟩⟩
    have hS2 : ((set3 (set3 w3 w.heap.size (.slice E0 N1.ends.length e0) (.slice E1 N1.ids.length e1) (.slice E2 N1.inputs.length e2)) (w.heap.size + 1) (.slice F0 N2.ends.length f0) (.slice F1 N2.ids.length f1) (.slice F2 N2.inputs.length f2)).drew.cell? ⟨g1, 0, none⟩ = some (.slice E0 N1.ends.length e0) ∧ (set3 (set3 w3 w.heap.size (.slice E0 N1.ends.length e0) (.slice E1 N1.ids.length e1) (.slice E2 N1.inputs.length e2)) (w.heap.size + 1) (.slice F0 N2.ends.length f0) (.slice F1 N2.ids.length f1) (.slice F2 N2.inputs.length f2)).drew.cell? ⟨g1, 1, none⟩ = some (.slice E1 N1.ids.length e1) ∧ (set3 (set3 w3 w.heap.size (.slice E0 N1.ends.length e0) (.slice E1 N1.ids.length e1) (.slice E2 N1.inputs.length e2)) (w.heap.size + 1) (.slice F0 N2.ends.length f0) (.slice F1 N2.ids.length f1) (.slice F2 N2.inputs.length f2)).drew.cell? ⟨g1, 2, none⟩ = some (.slice E2 N1.inputs.length e2)) ∧ ((set3 (set3 w3 w.heap.size (.slice E0 N1.ends.length e0) (.slice E1 N1.ids.length e1) (.slice E2 N1.inputs.length e2)) (w.heap.size + 1) (.slice F0 N2.ends.length f0) (.slice F1 N2.ids.length f1) (.slice F2 N2.inputs.length f2)).drew.cell? ⟨g2, 0, none⟩ = some (.slice F0 N2.ends.length f0) ∧ (set3 (set3 w3 w.heap.size (.slice E0 N1.ends.length e0) (.slice E1 N1.ids.length e1) (.slice E2 N1.inputs.length e2)) (w.heap.size + 1) (.slice F0 N2.ends.length f0) (.slice F1 N2.ids.length f1) (.slice F2 N2.inputs.length f2)).drew.cell? ⟨g2, 1, none⟩ = some (.slice F1 N2.ids.length f1) ∧ (set3 (set3 w3 w.heap.size (.slice E0 N1.ends.length e0) (.slice E1 N1.ids.length e1) (.slice E2 N1.inputs.length e2)) (w.heap.size + 1) (.slice F0 N2.ends.length f0) (.slice F1 N2.ids.length f1) (.slice F2 N2.inputs.length f2)).drew.cell? ⟨g2, 2, none⟩ = some (.slice F2 N2.inputs.length f2)) := ⟨⟨hb21d.cell 0, hb21d.cell 1, hb21d.cell 2⟩, ⟨hb22d.cell 0, hb22d.cell 1, hb22d.cell 2⟩⟩
    unfold set3 at hS1 hS2
    have HS1 := Lib.hid hS1
    have HS2 := Lib.hid hS2
    have HTT := Lib.hid (And.intro t0 (And.intro t1 (And.intro s0 (And.intro s1 s2))))
    clear hb11 hb12 hb21 hb22 hb11d hb12d hb21d hb22d t0 t1 s0 s1 s2 hS1 hS2
    refine wpAnyP_ready (rs := [2]) (by kernel_rfl) (by simp) (by kernel_rfl) (AllReadyP.cons (o := _) rfl (fun K hK => ?_) AllReadyP.nil)
    go_simp
    refine hK.out _ _ (HS1.out) (fun _ => ?_)
    clear hK K
    try simp only [Act.put, List.getElem_toArray, List.getElem_cons_zero, List.getElem_cons_succ, List.setIfInBounds_toArray, List.set_cons_zero, List.set_cons_succ]
    refine wpAnyP_ready (rs := [3]) (by kernel_rfl) (by simp) (by kernel_rfl) (AllReadyP.cons (o := _) rfl (fun K hK => ?_) AllReadyP.nil)
    go_simp
    refine hK.out _ _ (HS2.out) (fun _ => ?_)
    clear hK K
    try simp only [Act.put, List.getElem_toArray, List.getElem_cons_zero, List.getElem_cons_succ, List.setIfInBounds_toArray, List.set_cons_zero, List.set_cons_succ]
    refine wpAnyP_go (by kernel_rfl) (wpAny_done (by kernel_rfl) ?_ _)
    clear hS0 kq1 fq1 kr0 fr0 kr1 fr1 HS1 HS2
    obtain ⟨t0, t1, s0, s1, s2⟩ := HTT.out
    go_wp2_with fail
    exact bodyPost_ret (v := .tuple #[.agg #[.slice E0 N1.ends.length e0, .slice E1 N1.ids.length e1, .slice E2 N1.inputs.length e2], .agg #[.slice F0 N2.ends.length f0, .slice F1 N2.ids.length f1, .slice F2 N2.inputs.length f2]]) (by simp [results, Try.results14, go_sem, t0, t1, s0, s1, s2]) rfl ⟨_, _, N1, N2, rfl, HFI.out.1, HT1.out, HFI.out.2.1, HT2.out, HFI.out.2.2⟩
end Go.Proofs.Ytkbhbbehidhknaa
