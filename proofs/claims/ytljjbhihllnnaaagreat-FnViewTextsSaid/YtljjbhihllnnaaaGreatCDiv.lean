/- The drawing of a text of a view, or of none. -/
import Derived.Test.YtljjbhihllnnaaaGreatCJn34
import Derived.Test.YtljjbhihllnnaaaGreatCJn25
import Derived.Test.YtljjbhihllnnaaaGreatCJn7
import Derived.Test.YtljjbhihllnnaaaGreatCCst
import Derived.Test.YtljjbhihllnnaaaGreatCJn28
import Derived.Deep.DeepCutAuto
namespace Go.Proofs.YtljjbhihllnnaaaGreat
open Go.RowKit

def smallStr (K : Nat) : Value → Bool
  | .string s => decide (s.size ≤ K)
  | _ => false
theorem strs_at (w : World) (T : TypeId) (cs : Array Value) (K n : Nat) (hn : cs.size = n) (h : cs.all (smallStr K) = true) : ∀ j, j < n → ∃ s : ByteArray, (w.alloc (.cells cs T)).cell? ⟨w.heap.size, j, none⟩ = some (.string s) ∧ s.size ≤ K := fun j hj => by
  subst hn
  have h1 := Array.all_eq_true.1 h j hj
  have h2 := (Blk.new w T cs).cell j
  rw [Array.getElem?_eq_getElem hj] at h2
  generalize cs[j] = v at h1 h2
  cases v <;> first | (cases h1; done) | exact ⟨_, h2, of_decide_eq_true h1⟩

set_option maxRecDepth 100000 in
set_option maxHeartbeats 4000000 in
theorem DrawIsView_any (w : World) (cv : Value) (L : Nat) (hcd : CodeR w cv L) :
    Calls Tryz.prog 16 #[cv] w (fun e w' => ∃ s : ByteArray, e = .returned (.string s) ∧ s.size ≤ 4010 ∧ Below w.heap.size w w') := by
  have HF0 := Lib.hid hcd.far
  have HC0 := Lib.hid hcd.cur
  have HB0 := Lib.hid ((Below.refl w.heap.size w).alloc (Nat.le_refl _) (.cells #[cv, .int .i64 0, .int .u64 0] 105))
  have hzc : (w.alloc (.cells #[cv, .int .i64 0, .int .u64 0] 105)).heap.size = w.heap.size + 1 := by simp
  obtain ⟨cA, cc, rfl, -, -⟩ := hcd
  go_enter Tryz.func16, Tryz.ntmps16
  go_upto_region 2 with fail
  obtain ⟨gc, hgc⟩ : ∃ gc, gc = w.heap.size := ⟨_, rfl⟩
  rw [← hgc] at HC0 ⊢
  generalize w.alloc (.cells #[.slice cA L cc, .int .i64 0, .int .u64 0] 105) = w0 at *
  have hgc1 : w.heap.size ≤ gc := by omega
  have hgc2 : gc < w0.heap.size := by omega
  clear hgc hzc
  go_upto_region 3 with (go_at_call 62; refine (net_any w0 gc (.slice cA L cc) L 0 6 HC0.out (by omega) (HF0.out.mono (by omega)) (by omega) (by omega)).mono ?_; rintro e w1 ⟨v1, N1, rfl, ho1, hd1, hc1, hcb1⟩; obtain ⟨E0, e0, E1, e1, E2, e2, rfl⟩ := ho1.parts)
  have hz1 := hcb1.size
  have hal : Below w1.heap.size w1 (w1.alloc (.cells #[.slice E0 N1.ends.length e0, .slice E1 N1.ids.length e1, .slice E2 N1.inputs.length e2] 27)) := (Below.refl _ _).alloc (Nat.le_refl _) _
  have hbel : Below w.heap.size w w1 := belowC HB0.out hcb1.to_grown (by omega)
  have hbel2 := Below.then_ hbel hal
  have HT := Lib.hid (hd1.tidy (by omega) (by omega))
  have hpos := hd1.pos
  have hlen := hd1.len
  have HN1 := Lib.hid (NB.made ho1)
  obtain ⟨A1, hA1, hc1'⟩ : ∃ A1, A1 ≤ 600000000000000000 ∧ CurR w1 gc (.slice cA L cc) L A1 := ⟨_, by omega, hc1⟩
  have HC1 := Lib.hid (hc1'.keep hal)
  have HB1 := Lib.hid hbel2
  have hza : (w1.alloc (.cells #[.slice E0 N1.ends.length e0, .slice E1 N1.ids.length e1, .slice E2 N1.inputs.length e2] 27)).heap.size = w1.heap.size + 1 := by simp
  obtain ⟨g, hg⟩ : ∃ g, g = w1.heap.size := ⟨_, rfl⟩
  rw [← hg] at HN1 hza hz1 ⊢
  clear ho1 hd1 hc1 hc1' hcb1 hal hbel hbel2 hg HC0 HB0 HF0
  generalize w1.alloc (.cells #[.slice E0 N1.ends.length e0, .slice E1 N1.ids.length e1, .slice E2 N1.inputs.length e2] 27) = w2 at *
  have hza2 : g < w2.heap.size := by omega
  clear hza
  have hS2 : (w2.drew).cell? ⟨g, 0, none⟩ = some (.slice E0 N1.ends.length e0) ∧ (w2.drew).cell? ⟨g, 1, none⟩ = some (.slice E1 N1.ids.length e1) ∧ (w2.drew).cell? ⟨g, 2, none⟩ = some (.slice E2 N1.inputs.length e2) := ⟨HN1.out.drew.bx.cell 0, HN1.out.drew.bx.cell 1, HN1.out.drew.bx.cell 2⟩
  refine wp_region_any (by kernel_rfl) ?_
  try (change wpAny _ _ _ _ _ _ _ (World.drew _))
  simp only [List.size_toArray, List.length_cons, List.length_nil, Array.replicate, List.replicate]
  refine wpAny_take (i := 1) (oi := _) (v := ?_) rfl (by kernel_rfl) (by kernel_rfl) (by kernel_rfl) (fun _ _ _ h => h) (Or.inl ⟨by rfl, ?_⟩) ?_
  case refine_2 => intro w0; go_simp; with_reducible rfl
  try simp only [Act.put, List.getElem_toArray, List.getElem_cons_zero, List.getElem_cons_succ, List.setIfInBounds_toArray, List.set_cons_zero, List.set_cons_succ]
  refine wpAny_take (i := 4) (oi := _) (v := ?_) rfl (by kernel_rfl) (by kernel_rfl) (by kernel_rfl) (fun _ _ _ h => h) (Or.inl ⟨by rfl, ?_⟩) ?_
  case refine_2 => intro w0; go_simp; with_reducible rfl
  try simp only [Act.put, List.getElem_toArray, List.getElem_cons_zero, List.getElem_cons_succ, List.setIfInBounds_toArray, List.set_cons_zero, List.set_cons_succ]
  refine wpAny_take (i := 5) (oi := _) (v := ?_) rfl (by kernel_rfl) (by kernel_rfl) (by kernel_rfl) (fun _ _ _ h => h) (Or.inl ⟨by rfl, ?_⟩) ?_
  case refine_2 => intro w0; go_simp; with_reducible rfl
  try simp only [Act.put, List.getElem_toArray, List.getElem_cons_zero, List.getElem_cons_succ, List.setIfInBounds_toArray, List.set_cons_zero, List.set_cons_succ]
  refine wpAny_of_P (S := fun W => W.cell? ⟨g, 0, none⟩ = some (.slice E0 N1.ends.length e0) ∧ W.cell? ⟨g, 1, none⟩ = some (.slice E1 N1.ids.length e1) ∧ W.cell? ⟨g, 2, none⟩ = some (.slice E2 N1.inputs.length e2)) (n1 := 12) _ _ _ _ ?_
  refine wpAnyP_take (i := 0) (oi := _) (v := ?_) rfl (by kernel_rfl) (by kernel_rfl) (by kernel_rfl) (by omega) (by kernel_rfl) (fun _ _ _ h => h) (Or.inl ⟨by rfl, ?_⟩) (hS2) ?_
  case refine_2 => intro w0 hS0; obtain ⟨h0, h1, h2⟩ := hS0; go_simp; try with_reducible rfl
  try simp only [Act.put, List.getElem_toArray, List.getElem_cons_zero, List.getElem_cons_succ, List.setIfInBounds_toArray, List.set_cons_zero, List.set_cons_succ]
  refine wpAnyP_take (i := 6) (oi := _) (v := ?_) rfl (by kernel_rfl) (by kernel_rfl) (by kernel_rfl) (by omega) (by kernel_rfl) (fun _ _ _ h => h) (Or.inl ⟨by rfl, ?_⟩) (hS2) ?_
  case refine_2 => intro w0 hS0; obtain ⟨h0, h1, h2⟩ := hS0; go_simp; try with_reducible rfl
  try simp only [Act.put, List.getElem_toArray, List.getElem_cons_zero, List.getElem_cons_succ, List.setIfInBounds_toArray, List.set_cons_zero, List.set_cons_succ]
  refine wpAnyP_take (i := 7) (oi := _) (v := ?_) rfl (by kernel_rfl) (by kernel_rfl) (by kernel_rfl) (by omega) (by kernel_rfl) (fun _ _ _ h => h) (Or.inl ⟨by rfl, ?_⟩) (hS2) ?_
  case refine_2 => intro w0 hS0; obtain ⟨h0, h1, h2⟩ := hS0; go_simp; try with_reducible rfl
  try simp only [Act.put, List.getElem_toArray, List.getElem_cons_zero, List.getElem_cons_succ, List.setIfInBounds_toArray, List.set_cons_zero, List.set_cons_succ]
  refine wpAnyP_ready (rs := [2]) (by kernel_rfl) (by simp) (by kernel_rfl) (AllReadyP.cons (o := _) rfl (fun K hK => ?_) AllReadyP.nil)
  go_simp
  go_wp2_with (go_at_call 63; go_loud (refine (pick_any w2.drew gc _ L _ 4 (HC1.out.keep (Below.refl _ _).drew) (by omega)).mono ?_; rintro e w6 ⟨px, rfl, ⟨hp1, hp2, hp3⟩, hc6, hg6⟩; have HN6 := Lib.hid (HN1.out.drew.grown hg6 (by omega) (by omega)); have HC6 := Lib.hid hc6; have HB6 := Lib.hid (belowC (Below.then_ HB1.out (Below.refl _ _).drew) hg6 (by omega)); clear hc6 hg6; have hS6 : w6.cell? ⟨g, 0, none⟩ = some (.slice E0 N1.ends.length e0) ∧ w6.cell? ⟨g, 1, none⟩ = some (.slice E1 N1.ids.length e1) ∧ w6.cell? ⟨g, 2, none⟩ = some (.slice E2 N1.inputs.length e2) := ⟨HN6.out.bx.cell 0, HN6.out.bx.cell 1, HN6.out.bx.cell 2⟩))
  refine hK.out _ _ (hS6) (fun _ => ?_)
  clear hK K
  try simp only [Act.put, List.getElem_toArray, List.getElem_cons_zero, List.getElem_cons_succ, List.setIfInBounds_toArray, List.set_cons_zero, List.set_cons_succ]
  obtain ⟨tt, htt⟩ : ∃ tt : Nat, px = tt := ⟨px.toNat, by omega⟩
  subst htt
  have hgc6 := HC6.out.lt
  refine wpAnyP_ready (rs := [3]) (by kernel_rfl) (by simp) (by kernel_rfl) (AllReadyP.cons (o := _) rfl (fun K hK => ?_) AllReadyP.nil)
  go_simp
  go_wp2_with (go_at_call 55; go_loud (refine (viTexts_w _ N1 tt w6 (HN6.out.ow.net (S := fun _ => True) (fun _ _ _ => trivial)) HT.out (by omega)).mono ?_; rintro e w7 ⟨Ax, cx, xs, hxl, hsm, rfl, hox, hbx⟩; have HN7 := Lib.hid (HN6.out.below hbx); have HC7 := Lib.hid (HC6.out.keep hbx); have HB7 := Lib.hid (Below.then_ HB6.out hbx); have HX7 := Lib.hid hox; have HXL := Lib.hid hxl; have HSM := Lib.hid hsm; clear hbx hox hsm; have hS7 : w7.cell? ⟨g, 0, none⟩ = some (.slice E0 N1.ends.length e0) ∧ w7.cell? ⟨g, 1, none⟩ = some (.slice E1 N1.ids.length e1) ∧ w7.cell? ⟨g, 2, none⟩ = some (.slice E2 N1.inputs.length e2) := ⟨HN7.out.bx.cell 0, HN7.out.bx.cell 1, HN7.out.bx.cell 2⟩))
  refine hK.out _ _ (hS7) (fun _ => ?_)
  clear hK K
  try simp only [Act.put, List.getElem_toArray, List.getElem_cons_zero, List.getElem_cons_succ, List.setIfInBounds_toArray, List.set_cons_zero, List.set_cons_succ]
  refine wpAnyP_ready (rs := [8]) (by kernel_rfl) (by simp) (by kernel_rfl) (AllReadyP.cons (o := _) rfl (fun K hK => ?_) AllReadyP.nil)
  go_simp
  go_wp2_with (go_at_call 63; go_loud (refine (pick_any w7 gc _ L _ (N1.ends.length : Int) HC7.out (by omega)).mono ?_; rintro e w8 ⟨pi, rfl, ⟨hq1, hq2, hq3⟩, hc8, hg8⟩; have HN8 := Lib.hid (HN7.out.grown hg8 (by omega) (by omega)); have HC8 := Lib.hid hc8; have HB8 := Lib.hid (belowC HB7.out hg8 (by omega)); have HX8 := Lib.hid (HX7.out.grown hg8 hgc6); clear hc8 hg8; have hS8 : w8.cell? ⟨g, 0, none⟩ = some (.slice E0 N1.ends.length e0) ∧ w8.cell? ⟨g, 1, none⟩ = some (.slice E1 N1.ids.length e1) ∧ w8.cell? ⟨g, 2, none⟩ = some (.slice E2 N1.inputs.length e2) := ⟨HN8.out.bx.cell 0, HN8.out.bx.cell 1, HN8.out.bx.cell 2⟩))
  refine hK.out _ _ (hS8) (fun _ => ?_)
  clear hK K
  try simp only [Act.put, List.getElem_toArray, List.getElem_cons_zero, List.getElem_cons_succ, List.setIfInBounds_toArray, List.set_cons_zero, List.set_cons_succ]
  obtain ⟨i, hi⟩ : ∃ i : Nat, pi = i := ⟨pi.toNat, by omega⟩
  subst hi
  have hil : i < N1.ends.length := by omega
  obtain ⟨gt, ct, hvt, -, hgt, -, -⟩ := HX8.out.addr (by rw [HXL.out]; omega)
  rw [HXL.out] at hvt
  simp only [Value.slice.injEq, true_and] at hvt
  obtain ⟨rfl, rfl⟩ := hvt
  obtain ⟨tv, htv0⟩ : ∃ tv, tv = ga xs i := ⟨_, rfl⟩
  have htv : tv.size ≤ 4000 := by rw [htv0]; exact HSM.out.at_ (by rw [HXL.out]; exact hil)
  have q3 : w8.cell? ⟨gt, i, none⟩ = some (.string tv) := by
    have := (HX8.out.at_ (j := i) (by rw [HXL.out]; exact hil)).1 0 (by decide)
    rw [show i * encS.k + 0 = i by show i * 1 + 0 = i; omega] at this
    rw [this, htv0]
    rfl
  have i1 : (0 : Int) ≤ (i : Int) := by omega
  have i2 : (i : Int) < (N1.ends.length : Int) := by omega
  clear hxl htv0 hS2 hS6 hS7 hS8 hq1 hq2 hq3 hp1 hp2
  have hS9 : w8.cell? ⟨g, 0, none⟩ = some (.slice E0 N1.ends.length e0) ∧ w8.cell? ⟨g, 1, none⟩ = some (.slice E1 N1.ids.length e1) ∧ w8.cell? ⟨g, 2, none⟩ = some (.slice E2 N1.inputs.length e2) ∧ w8.cell? ⟨gt, i, none⟩ = some (.string tv) := ⟨HN8.out.bx.cell 0, HN8.out.bx.cell 1, HN8.out.bx.cell 2, q3⟩
  refine wpAnyP_more (S' := fun W => W.cell? ⟨g, 0, none⟩ = some (.slice E0 N1.ends.length e0) ∧ W.cell? ⟨g, 1, none⟩ = some (.slice E1 N1.ids.length e1) ∧ W.cell? ⟨g, 2, none⟩ = some (.slice E2 N1.inputs.length e2) ∧ W.cell? ⟨gt, i, none⟩ = some (.string tv)) (fun W h => ⟨h.1, h.2.1, h.2.2.1⟩) _ _ _ _ ?_
  refine wpAnyP_take (i := 9) (oi := _) (v := ?_) rfl (by kernel_rfl) (by kernel_rfl) (by kernel_rfl) (by omega) (by kernel_rfl) (fun _ _ _ h => h) (Or.inl ⟨by rfl, ?_⟩) (hS9) ?_
  case refine_2 => intro w0 hS0; obtain ⟨h0, h1, h2, h3⟩ := hS0; go_simp; try with_reducible rfl
  try simp only [Act.put, List.getElem_toArray, List.getElem_cons_zero, List.getElem_cons_succ, List.setIfInBounds_toArray, List.set_cons_zero, List.set_cons_succ]
  refine wpAnyP_take (i := 10) (oi := _) (v := ?_) rfl (by kernel_rfl) (by kernel_rfl) (by kernel_rfl) (by omega) (by kernel_rfl) (fun _ _ _ h => h) (Or.inl ⟨by rfl, ?_⟩) (hS9) ?_
  case refine_2 => intro w0 hS0; obtain ⟨h0, h1, h2, h3⟩ := hS0; go_simp; try with_reducible rfl
  try simp only [Act.put, List.getElem_toArray, List.getElem_cons_zero, List.getElem_cons_succ, List.setIfInBounds_toArray, List.set_cons_zero, List.set_cons_succ]
  refine wpAnyP_take (i := 11) (oi := _) (v := ?_) rfl (by kernel_rfl) (by kernel_rfl) (by kernel_rfl) (by omega) (by kernel_rfl) (fun _ _ _ h => h) (Or.inl ⟨by rfl, ?_⟩) (hS9) ?_
  case refine_2 => intro w0 hS0; obtain ⟨h0, h1, h2, h3⟩ := hS0; go_simp; try with_reducible rfl
  try simp only [Act.put, List.getElem_toArray, List.getElem_cons_zero, List.getElem_cons_succ, List.setIfInBounds_toArray, List.set_cons_zero, List.set_cons_succ]
  refine wpAnyP_go (by kernel_rfl) (wpAny_done (by kernel_rfl) ?_ _)
  clear hS9
  clear q3 HX8 HX7 HSM HXL HN8 HN7 HN6 HN1 HT HC7 HC6 HC1 HB7 HB6 HB1
  have CO1 := Lib.hid (one_any w8 gc _ L _ 3 HC8.out (by omega))
  go_wp2_with fail
  refine CO1.out.mono ?_
  rintro e w9 ⟨b1, rfl, hc9, hg9⟩
  have HC9 := Lib.hid hc9
  have HB9 := Lib.hid (belowC HB8.out hg9 hgc1)
  clear hc9 hg9 CO1
  cases b1 with
  | true =>
    have CS := Lib.hid (spoilt_any w9 gc _ L _ tv { data := #[48, 49, 50, 51, 40, 46, 44, 58, 41, 55, 57] } HC9.out (by omega) (by omega) (by decide) (by decide))
    go_wp2_with (go_at_call 65; refine CS.out.mono ?_; rintro e w10 ⟨s, rfl, hs, hc10, hg10⟩)
    go_ret
    exact ⟨s, rfl, by omega, belowC HB9.out hg10 hgc1⟩
  | false =>
    have CO2 := Lib.hid (one_any w9 gc _ L _ 16 HC9.out (by omega))
    go_wp2_with fail
    refine CO2.out.mono ?_
    rintro e w10 ⟨b2, rfl, hc10, hg10⟩
    have HC10 := Lib.hid hc10
    have HB10 := Lib.hid (belowC HB9.out hg10 hgc1)
    clear hc10 hg10 CO2
    cases b2 with
    | true =>
      go_upto_region 7 with fail
      have hlt := HC10.out.lt
      go_wp2_with fail
      refine (of_any _ gc _ L _ w10.heap.size 9 9 40 (HC10.out.keep ((Below.refl _ _).alloc (Nat.le_refl _) _)) (by omega) (by omega) (by omega) (by omega) (strs_at w10 9 _ 40 9 rfl (by kernel_rfl))).mono ?_
      rintro e w11 ⟨s, rfl, hs, hc11, hg11⟩
      go_wp2_with fail
      go_ret
      exact ⟨s, rfl, by omega, belowC (HB10.out.alloc HB10.out.size _) hg11 hgc1⟩
    | false =>
      go_wp2_with fail
      go_ret
      exact ⟨tv, rfl, by omega, HB10.out⟩
end Go.Proofs.YtljjbhihllnnaaaGreat
