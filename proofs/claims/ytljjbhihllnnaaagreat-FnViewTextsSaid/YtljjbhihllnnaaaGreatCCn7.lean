/- The drawing of networks: a network that is seldom changed. Printed by gen_bend.py. -/
import Derived.Test.YtljjbhihllnnaaaGreatCCn6
import Derived.Test.YtljjbhihllnnaaaGreatCJn25
namespace Go.Proofs.YtljjbhihllnnaaaGreat
open Go.RowKit

set_option maxRecDepth 100000 in
set_option maxHeartbeats 16000000 in
theorem neBend_any {S : Nat → Prop} (w : World) (gc : Nat) (cv : Value) (L A : Nat) (u : Value) (N : Net) (hc : CurR w gc cv L A) (hp : A + 16777216 ≤ 4611686018427387900) (hf : FarV cv w.heap.size) (hN : NetR w S u N) (hs : Drawn 40 500 N) :
    Calls Tryz.prog 157 #[.pointer (some ⟨gc, 0, none⟩), u] w (RetDr w w.heap.size gc cv L (A + 16777216) Tame) := by
  have hgc := hc.lt
  have HN := Lib.hid hN
  have HDR := Lib.hid hs
  have HS := Lib.hid (hs.small (by omega) (by omega))
  have hnl := hs.len
  have hnp := hs.pos
  have hni := hs.ins
  have HNI := Lib.hid hs.ins
  have hids := hs.ids
  obtain ⟨ve, vi, vn, rfl, he, hi, hn⟩ := hN
  obtain ⟨Ae, ce, rfl, -, -, -⟩ := he
  obtain ⟨Ai, ci, rfl, -, -, -⟩ := hi
  obtain ⟨An, cn, rfl, -, -, -⟩ := hn
  obtain ⟨wz, hwz⟩ : ∃ wz, wz = (w.alloc (.cells #[.slice Ae N.ends.length ce, .slice Ai N.ids.length ci, .slice An N.inputs.length cn] 27)).alloc (.cells #[.slice none 0 0, .slice none 0 0, .slice none 0 0] 27) := ⟨_, rfl⟩
  have hzs : wz.heap.size = w.heap.size + 1 + 1 := by rw [hwz]; simp
  have hbz : Below w.heap.size w wz := by rw [hwz]; exact ((Below.refl _ _).alloc (Nat.le_refl _) _).alloc (by simp) _
  have HK : Hid (Blk wz w.heap.size 27 #[.slice Ae N.ends.length ce, .slice Ai N.ids.length ci, .slice An N.inputs.length cn]) := Lib.hid (by rw [hwz]; exact (Blk.new w _ _).alloc _)
  have HR : Hid (Blk wz (w.heap.size + 1) 27 #[.slice none 0 0, .slice none 0 0, .slice none 0 0]) := Lib.hid (by
    rw [hwz]
    have := Blk.new (w.alloc (.cells #[.slice Ae N.ends.length ce, .slice Ai N.ids.length ci, .slice An N.inputs.length cn] 27)) 27 #[.slice none 0 0, .slice none 0 0, .slice none 0 0]
    rwa [World.size_alloc] at this)
  have HC := Lib.hid (hc.keep hbz)
  have HNZ := Lib.hid (HN.out.below hbz)
  have HCB : Hid (CurB w.heap.size gc w wz) := Lib.hid (CurB.of_below hbz (Nat.le_refl _))
  have hF : DF w gc cv wz.heap.size w.heap.size (w.heap.size + 1) := ⟨hgc, hf, by omega, Nat.le_refl _, by omega, by omega⟩
  have HF := Lib.hid hF
  have HZ := Lib.hid hwz
  clear hwz hbz hc hf hF hs HN hni
  go_enter Tryz.func157, Tryz.ntmps157
  go_upto_region 1 with (fail)
  rw [← HZ.out]
  clear HZ
  have kb := HK.out.cell
  go_upto_region 2 with (go_at_call 165; refine (neOwn_any _ N _ HNZ.out HS.out).mono ?_; rintro e w1 ⟨v1, rfl, ho1, hb1⟩; obtain ⟨E0, e0, E1, e1, E2, e2, rfl⟩ := ho1.parts; have hk1 := HK.out.below hb1; have kb1 := hk1.cell; have kf1 := hk1.free)
  have HD1 := Lib.hid (DS.store HK.out HR.out (by omega) HC.out HCB.out HF.out.far HF.out.gcl (Nat.le_refl _) hb1 ho1)
  unfold set3 at HD1
  clear hk1 kb1 kf1 kb HK HR HC HCB HNZ ho1
  generalize ((w1.setCell ⟨w.heap.size, 0, none⟩ (.slice E0 N.ends.length e0)).setCell ⟨w.heap.size, 1, none⟩ (.slice E1 N.ids.length e1)).setCell ⟨w.heap.size, 2, none⟩ (.slice E2 N.inputs.length e2) = w2 at *
  clear hb1
  have kb2 := HD1.out.bx.cell
  go_upto_region 3 with (go_at_call 63; refine (pick_any _ gc cv L A (N.ends.length : Int) HD1.out.cu (by omega)).mono ?_; rintro e w3 ⟨x, rfl, hpx, hc3, hg3⟩; obtain ⟨vn, rfl⟩ : ∃ vn : Nat, x = (vn : Int) := ⟨x.toNat, by have := hpx.1; omega⟩; have hv : vn < N.ends.length := by { have := hpx.2.2; omega }; clear hpx)
  have HD2 := Lib.hid (HD1.out.grown HF.out hg3 hc3)
  clear HD1 hc3 hg3 kb2
  go_upto_region 4 with (go_at_call 63; refine (pick_any _ gc cv L (A + 2) 40 HD2.out.cu (by omega)).mono ?_; rintro e w4 ⟨x, rfl, hpx, hc4, hg4⟩; obtain ⟨x0, rfl⟩ : ∃ x0 : Nat, x = (x0 : Int) := ⟨x.toNat, by have := hpx.1; omega⟩; clear hpx)
  have HD : Hid (DS w gc cv L (A + 4) wz.heap.size w.heap.size (w.heap.size + 1) (.slice E0 N.ends.length e0) (.slice E1 N.ids.length e1) (.slice E2 N.inputs.length e2) N w4) := Lib.hid (HD2.out.grown HF.out hg4 hc4)
  clear HD2 hc4 hg4
  have hzz : wz.heap.size ≤ w4.heap.size := by have := HD.out.re.lt; omega
  have iv1 : (0 : Int) ≤ (vn : Int) := by omega
  have iv2 : (vn : Int) < (N.ends.length : Int) := by omega
  have kb := HD.out.bx.cell
  have hvI : vn < N.inputs.length := by have := HNI.out; omega
  have iv3 : (vn : Int) < (N.inputs.length : Int) := by omega
  rcases (by omega : x0 = 0 ∨ x0 = 1 ∨ x0 = 2 ∨ x0 = 3 ∨ x0 = 4 ∨ x0 = 5 ∨ x0 = 6 ∨ x0 = 7 ∨ x0 = 8 ∨ 9 ≤ x0) with rfl | rfl | rfl | rfl | rfl | rfl | rfl | rfl | rfl | hx9
  · have h3k := HD.out.ow
    obtain ⟨g2, rfl, hg2B, hg2l, hg2c, hg2f⟩ := h3k.inAt (j := vn) hvI
    clear h3k
    go_upto_region 5 with fail
    have hS0 : (w4.drew).cell? ⟨w.heap.size, 2, none⟩ = some (.slice (some ⟨g2, 0, none⟩) N.inputs.length e2) := HD.out.drew.bx.cell 2
    refine wp_region_any (by kernel_rfl) ?_
    try (change wpAny _ _ _ _ _ _ _ (World.drew _))
    simp only [List.size_toArray, List.length_cons, List.length_nil, Array.replicate, List.replicate]
    refine wpAny_take (i := 0) (oi := _) (v := ?_) rfl (by kernel_rfl) (by kernel_rfl) (by kernel_rfl) (fun _ _ _ h => h) (Or.inl ⟨by rfl, ?_⟩) ?_
    case refine_2 => intro w0; go_simp; with_reducible rfl
    try simp only [Act.put, List.getElem_toArray, List.getElem_cons_zero, List.getElem_cons_succ, List.setIfInBounds_toArray, List.set_cons_zero, List.set_cons_succ]
    refine wpAny_take (i := 2) (oi := _) (v := ?_) rfl (by kernel_rfl) (by kernel_rfl) (by kernel_rfl) (fun _ _ _ h => h) (Or.inl ⟨by rfl, ?_⟩) ?_
    case refine_2 => intro w0; go_simp; with_reducible rfl
    try simp only [Act.put, List.getElem_toArray, List.getElem_cons_zero, List.getElem_cons_succ, List.setIfInBounds_toArray, List.set_cons_zero, List.set_cons_succ]
    refine wpAny_take (i := 3) (oi := _) (v := ?_) rfl (by kernel_rfl) (by kernel_rfl) (by kernel_rfl) (fun _ _ _ h => h) (Or.inl ⟨by rfl, ?_⟩) ?_
    case refine_2 => intro w0; go_simp; with_reducible rfl
    try simp only [Act.put, List.getElem_toArray, List.getElem_cons_zero, List.getElem_cons_succ, List.setIfInBounds_toArray, List.set_cons_zero, List.set_cons_succ]
    refine wpAny_of_P (S := fun W => W.cell? ⟨w.heap.size, 2, none⟩ = some (.slice (some ⟨g2, 0, none⟩) N.inputs.length e2)) (n1 := 6) _ _ _ _ ?_
    refine wpAnyP_take (i := 1) (oi := _) (v := ?_) rfl (by kernel_rfl) (by kernel_rfl) (by kernel_rfl) (by omega) (by kernel_rfl) (fun _ _ _ h => h) (Or.inl ⟨by rfl, ?_⟩) (hS0) ?_
    case refine_2 => intro w0 hS0; obtain h0 := hS0; go_simp; try with_reducible rfl
    try simp only [Act.put, List.getElem_toArray, List.getElem_cons_zero, List.getElem_cons_succ, List.setIfInBounds_toArray, List.set_cons_zero, List.set_cons_succ]
    refine wpAnyP_ready (rs := [4]) (by kernel_rfl) (by simp) (by kernel_rfl) (AllReadyP.cons (o := _) rfl (fun K hK => ?_) AllReadyP.nil)
    go_simp
    refine hK.out _ _ ((HD.out.drew.alloc _).bx.cell 2) (fun _ => ?_)
    clear hK K
    try simp only [Act.put, List.getElem_toArray, List.getElem_cons_zero, List.getElem_cons_succ, List.setIfInBounds_toArray, List.set_cons_zero, List.set_cons_succ]
    refine wpAnyP_ready (rs := [5]) (by kernel_rfl) (by simp) (by kernel_rfl) (AllReadyP.cons (o := _) rfl (fun K hK => ?_) AllReadyP.nil)
    go_simp
    go_wp2_with (go_at_call 87; refine (among_any _ gc cv L (A + 4) _ [-1, 9, 10] (HD.out.drew.alloc _).cu (by omega) (IntsR.built w4.drew 3 [-1, 9, 10] (by simp)) (by have := HF.out.gcl; rintro b rfl; simp; omega) (by simp) (by simp)).mono ?_; rintro e w5 ⟨q, rfl, -, hc5, hg5⟩; have HD5 := Lib.hid ((HD.out.drew.alloc _).grown HF.out hg5 hc5); have hS5 : w5.cell? ⟨w.heap.size, 2, none⟩ = some (.slice (some ⟨g2, 0, none⟩) N.inputs.length e2) := HD5.out.bx.cell 2; obtain ⟨g3, hg3, -, -, hc3, hf3⟩ := HD5.out.ow.inAt (j := vn) hvI; simp only [Option.some.injEq, Addr.mk.injEq, and_true] at hg3; obtain rfl := hg3)
    refine hK.out _ _ (hS5) (fun _ => ?_)
    clear hK K
    try simp only [Act.put, List.getElem_toArray, List.getElem_cons_zero, List.getElem_cons_succ, List.setIfInBounds_toArray, List.set_cons_zero, List.set_cons_succ]
    refine wpAnyP_go (by kernel_rfl) ?_
    refine wpAny_take (i := 6) (oi := _) (v := ?_) rfl (by kernel_rfl) (by kernel_rfl) (by kernel_rfl) (fun _ _ _ h => h) (Or.inl ⟨by rfl, ?_⟩) ?_
    case refine_2 => intro w0; go_simp; with_reducible rfl
    try simp only [Act.put, List.getElem_toArray, List.getElem_cons_zero, List.getElem_cons_succ, List.setIfInBounds_toArray, List.set_cons_zero, List.set_cons_succ]
    refine wpAny_ready (rs := [7]) (by kernel_rfl) (by simp) (AllReady.cons (o := _) rfl (fun K hK => ?_) AllReady.nil)
    go_simp
    refine hK _ _ ?_
    clear hK K
    refine wpAny_done (by kernel_rfl) ?_ _
    have HDe := Lib.hid (HD5.out.putIn (j := vn) HF.out q)
    clear hS0 hS5 hc5 hg5 hc3 hf3 kb
    obtain ⟨q1, q2, q3, q4⟩ := HDe.out.done HF.out
    have HQ := Lib.hid (And.intro q2 (And.intro q3 q4))
    have hfin := q1
    have kr := HDe.out.re.cell
    have fr := HDe.out.re.free
    have kb := HDe.out.bx.cell
    clear q1 q2 q3 q4
    go_wp2_with fail
    unfold set3 at hfin
    exact bodyPost_ret (v := .agg #[.slice E0 N.ends.length e0, .slice E1 N.ids.length e1, .slice (some ⟨g2, 0, none⟩) N.inputs.length e2]) (by simp [results, Tryz.results157, go_sem, hfin]) rfl ⟨_, _, rfl, HQ.out.1, Tame.mk (by have := HDR.out.len; simp; omega) (fun a => by have := HDR.out.deg a; simp; omega) (by have := HDR.out.ids; simp; omega) (by have := HDR.out.ins; have := HDR.out.len; simp; omega), HQ.out.2.1.mono (by omega), HQ.out.2.2⟩
  · go_upto_region 29 with (at_builtin; refine wpList_append_intsL _ rfl (.tmp 27) (.tmp 28) rfl wz.heap.size (.slice E2 N.inputs.length e2) N.inputs rfl (HD.out.alloc _).parts.2.2.1 _ [0] rfl (IntsR.built _ _ [0] (by simp)) (by have := HNI.out; simp; omega) (by simp; omega) ?_; intro A1 c1 w6 ho hg hl; have hbx1 := ((KeptBut.of_grown hg (rowType (HD.out.alloc _).parts.2.2.1)) _ _ _ _ (HD.out.alloc _).bx (by decide)).trans (HD.out.alloc _).bx; have kb1 := Blk.cell hbx1; have kf1 := Blk.free hbx1)
    have HDe : Hid (DS w gc cv L (A + 4) wz.heap.size w.heap.size (w.heap.size + 1) (.slice E0 N.ends.length e0) (.slice E1 N.ids.length e1) (.slice A1 (N.inputs.length + 1) c1) { N with inputs := N.inputs ++ [0] } (w6.setCell ⟨w.heap.size, 2, none⟩ (.slice A1 (N.inputs.length + 1) c1))) := Lib.hid (DS.appZ (A2 := E2) (c2 := e2) (HD.out.alloc _) HF.out ho hg hl)
    clear hbx1 kb1 kf1 ho hg hl kb
    obtain ⟨q1, q2, q3, q4⟩ := HDe.out.done HF.out
    have HQ := Lib.hid (And.intro q2 (And.intro q3 q4))
    have hfin := q1
    have kr := HDe.out.re.cell
    have fr := HDe.out.re.free
    have kb := HDe.out.bx.cell
    clear q1 q2 q3 q4
    go_wp2_with fail
    unfold set3 at hfin
    exact bodyPost_ret (v := .agg #[.slice E0 N.ends.length e0, .slice E1 N.ids.length e1, .slice A1 (N.inputs.length + 1) c1]) (by simp [results, Tryz.results157, go_sem, hfin]) rfl ⟨_, _, rfl, HQ.out.1, Tame.mk (by have := HDR.out.len; simp; omega) (fun a => by have := HDR.out.deg a; simp; omega) (by have := HDR.out.ids; simp; omega) (by have := HDR.out.ins; have := HDR.out.len; simp; omega), HQ.out.2.1.mono (by omega), HQ.out.2.2⟩
  · have hparts := HD.out.parts
    obtain ⟨us, hrow, hinn, hdis⟩ := hparts.1
    have hlr := World.ownsRow.lt hrow
    obtain ⟨gE, hE0⟩ : ∃ gE, E0 = some ⟨gE, 0, none⟩ := by
      rcases hrow.2 with ⟨h1, h0⟩ | ⟨g', cap', cur', h1, -⟩
      · simp only [Value.slice.injEq] at h1; omega
      · simp only [Value.slice.injEq] at h1; exact ⟨g', h1.1⟩
    subst hE0
    have HROW := Lib.hid hrow
    have HINN := Lib.hid hinn
    have HDIS := Lib.hid hdis
    have hov := (OwnEs.at_ hrow hv).1
    have hua := hinn vn hv
    by_cases hd : 0 < (gl N.ends vn).length
    · obtain ⟨ga, ca, hus, hgaB, hgal, -, -⟩ := hua.addr hd
      have hov2 : w4.cell? ⟨gE, vn, none⟩ = some (.slice (some ⟨ga, 0, none⟩) (gl N.ends vn).length ca) := hov.trans (by rw [hus])
      have hdI : (0 : Int) < ((gl N.ends vn).length : Int) := by omega
      have hgE : gE < w4.heap.size := (hlr gE rfl).2
      have hgEB : wz.heap.size ≤ gE := (hlr gE rfl).1
      clear hov hua hrow hinn hdis hparts hlr
      go_upto_region 10 with fail
      have hS0 : (w4.drew).cell? ⟨w.heap.size, 0, none⟩ = some (.slice (some ⟨gE, 0, none⟩) N.ends.length e0) ∧ (w4.drew).cell? ⟨gE, vn, none⟩ = some (.slice (some ⟨ga, 0, none⟩) (gl N.ends vn).length ca) := ⟨HD.out.drew.bx.cell 0, hov2⟩
      refine wp_region_any (by kernel_rfl) ?_
      try (change wpAny _ _ _ _ _ _ _ (World.drew _))
      simp only [List.size_toArray, List.length_cons, List.length_nil, Array.replicate, List.replicate]
      refine wpAny_take (i := 0) (oi := _) (v := ?_) rfl (by kernel_rfl) (by kernel_rfl) (by kernel_rfl) (fun _ _ _ h => h) (Or.inl ⟨by rfl, ?_⟩) ?_
      case refine_2 => intro w0; go_simp; with_reducible rfl
      try simp only [Act.put, List.getElem_toArray, List.getElem_cons_zero, List.getElem_cons_succ, List.setIfInBounds_toArray, List.set_cons_zero, List.set_cons_succ]
      refine wpAny_take (i := 2) (oi := _) (v := ?_) rfl (by kernel_rfl) (by kernel_rfl) (by kernel_rfl) (fun _ _ _ h => h) (Or.inl ⟨by rfl, ?_⟩) ?_
      case refine_2 => intro w0; go_simp; with_reducible rfl
      try simp only [Act.put, List.getElem_toArray, List.getElem_cons_zero, List.getElem_cons_succ, List.setIfInBounds_toArray, List.set_cons_zero, List.set_cons_succ]
      refine wpAny_take (i := 5) (oi := _) (v := ?_) rfl (by kernel_rfl) (by kernel_rfl) (by kernel_rfl) (fun _ _ _ h => h) (Or.inl ⟨by rfl, ?_⟩) ?_
      case refine_2 => intro w0; go_simp; with_reducible rfl
      try simp only [Act.put, List.getElem_toArray, List.getElem_cons_zero, List.getElem_cons_succ, List.setIfInBounds_toArray, List.set_cons_zero, List.set_cons_succ]
      refine wpAny_of_P (S := fun W => W.cell? ⟨w.heap.size, 0, none⟩ = some (.slice (some ⟨gE, 0, none⟩) N.ends.length e0) ∧ W.cell? ⟨gE, vn, none⟩ = some (.slice (some ⟨ga, 0, none⟩) (gl N.ends vn).length ca)) (n1 := 8) _ _ _ _ ?_
      refine wpAnyP_take (i := 1) (oi := _) (v := ?_) rfl (by kernel_rfl) (by kernel_rfl) (by kernel_rfl) (by omega) (by kernel_rfl) (fun _ _ _ h => h) (Or.inl ⟨by rfl, ?_⟩) (hS0) ?_
      case refine_2 => intro w0 hS0; obtain ⟨h0, h1⟩ := hS0; go_simp; try with_reducible rfl
      try simp only [Act.put, List.getElem_toArray, List.getElem_cons_zero, List.getElem_cons_succ, List.setIfInBounds_toArray, List.set_cons_zero, List.set_cons_succ]
      refine wpAnyP_take (i := 3) (oi := _) (v := ?_) rfl (by kernel_rfl) (by kernel_rfl) (by kernel_rfl) (by omega) (by kernel_rfl) (fun _ _ _ h => h) (Or.inl ⟨by rfl, ?_⟩) (hS0) ?_
      case refine_2 => intro w0 hS0; obtain ⟨h0, h1⟩ := hS0; go_simp; try with_reducible rfl
      try simp only [Act.put, List.getElem_toArray, List.getElem_cons_zero, List.getElem_cons_succ, List.setIfInBounds_toArray, List.set_cons_zero, List.set_cons_succ]
      refine wpAnyP_take (i := 4) (oi := _) (v := ?_) rfl (by kernel_rfl) (by kernel_rfl) (by kernel_rfl) (by omega) (by kernel_rfl) (fun _ _ _ h => h) (Or.inl ⟨by rfl, ?_⟩) (hS0) ?_
      case refine_2 => intro w0 hS0; obtain ⟨h0, h1⟩ := hS0; go_simp; try with_reducible rfl
      try simp only [Act.put, List.getElem_toArray, List.getElem_cons_zero, List.getElem_cons_succ, List.setIfInBounds_toArray, List.set_cons_zero, List.set_cons_succ]
      refine wpAnyP_ready (rs := [6]) (by kernel_rfl) (by simp) (by kernel_rfl) (AllReadyP.cons (o := _) rfl (fun K hK => ?_) AllReadyP.nil)
      go_simp
      refine hK.out _ _ (⟨(HD.out.drew.alloc _).bx.cell 0, ((((Below.refl _ w4).drew).alloc (by simp) _).cell (p := ⟨gE, vn, none⟩) hgE).trans hov2⟩) (fun _ => ?_)
      clear hK K
      try simp only [Act.put, List.getElem_toArray, List.getElem_cons_zero, List.getElem_cons_succ, List.setIfInBounds_toArray, List.set_cons_zero, List.set_cons_succ]
      refine wpAnyP_ready (rs := [7]) (by kernel_rfl) (by simp) (by kernel_rfl) (AllReadyP.cons (o := _) rfl (fun K hK => ?_) AllReadyP.nil)
      go_simp
      go_wp2_with (go_at_call 87; refine (among_any _ gc cv L (A + 4) _ [-1, 0, 1, 6] (HD.out.drew.alloc _).cu (by omega) (IntsR.built w4.drew 3 [-1, 0, 1, 6] (by simp)) (by have := HF.out.gcl; rintro b rfl; simp; omega) (by simp) (by simp)).mono ?_; rintro e w5 ⟨q, rfl, -, hc5, hg5⟩; have HD5 := Lib.hid ((HD.out.drew.alloc _).grown HF.out hg5 hc5); obtain ⟨us5, hrow5, hinn5, hdis5⟩ := HD5.out.parts.1; have hS5 : w5.cell? ⟨w.heap.size, 0, none⟩ = some (.slice (some ⟨gE, 0, none⟩) N.ends.length e0) ∧ w5.cell? ⟨gE, vn, none⟩ = some (.slice (some ⟨ga, 0, none⟩) (gl N.ends vn).length ca) := ⟨HD5.out.bx.cell 0, ((World.cell?_of_block (hg5.block gE (by simp; omega) (by have := HF.out.gcl; simp; omega))).trans ((((Below.refl _ w4).drew).alloc (by simp) _).cell (p := ⟨gE, vn, none⟩) hgE)).trans hov2⟩; have hus5 : us5 vn = .slice (some ⟨ga, 0, none⟩) (gl N.ends vn).length ca := Option.some.inj (((OwnEs.at_ hrow5 hv).1).symm.trans hS5.2); have hua5 := hinn5 vn hv; rw [hus5] at hua5; have hat5 := hua5.at_ (j := 0) hd; have hc6 : w5.cell? ⟨ga, 1, none⟩ = some (.int .i64 (gp (gl N.ends vn) 0).2) := hat5.1.2; have hf6 : w5.frozen? ⟨ga, 1, none⟩ = false := hat5.2 1)
      refine hK.out _ _ (hS5) (fun _ => ?_)
      clear hK K
      try simp only [Act.put, List.getElem_toArray, List.getElem_cons_zero, List.getElem_cons_succ, List.setIfInBounds_toArray, List.set_cons_zero, List.set_cons_succ]
      refine wpAnyP_go (by kernel_rfl) ?_
      refine wpAny_take (i := 8) (oi := _) (v := ?_) rfl (by kernel_rfl) (by kernel_rfl) (by kernel_rfl) (fun _ _ _ h => h) (Or.inl ⟨by rfl, ?_⟩) ?_
      case refine_2 => intro w0; go_simp; with_reducible rfl
      try simp only [Act.put, List.getElem_toArray, List.getElem_cons_zero, List.getElem_cons_succ, List.setIfInBounds_toArray, List.set_cons_zero, List.set_cons_succ]
      refine wpAny_take (i := 9) (oi := _) (v := ?_) rfl (by kernel_rfl) (by kernel_rfl) (by kernel_rfl) (fun _ _ _ h => h) (Or.inl ⟨by rfl, ?_⟩) ?_
      case refine_2 => intro w0; go_simp; with_reducible rfl
      try simp only [Act.put, List.getElem_toArray, List.getElem_cons_zero, List.getElem_cons_succ, List.setIfInBounds_toArray, List.set_cons_zero, List.set_cons_succ]
      refine wpAny_ready (rs := [10]) (by kernel_rfl) (by simp) (AllReady.cons (o := _) rfl (fun K hK => ?_) AllReady.nil)
      go_simp
      refine hK _ _ ?_
      clear hK K
      refine wpAny_done (by kernel_rfl) ?_ _
      have hto := OwnEs.rowTurn (i := 1) (u := .int .i64 q) hrow5 hinn5 hdis5 hv hus5 (by rw [hus5]; exact OwnE.putB (u := q) hua5 hd)
      have HDe := Lib.hid (HD5.out.turnE HF.out hto.2.1 (LowB.set (p := ⟨ga, 1, none⟩) (Nat.le_trans HF.out.bl hto.2.2) _) hto.1)
      have hle1 : (N.ends.set vn ((gl N.ends vn).set 0 ((gp (gl N.ends vn) 0).1, q))).length = N.ends.length := List.length_set
      clear hS0 hS5 hc5 hg5 hc6 hf6 kb hto hat5 hua5 hus5 hrow5 hinn5 hdis5 hov2
      obtain ⟨q1, q2, q3, q4⟩ := HDe.out.done HF.out
      have HQ := Lib.hid (And.intro q2 (And.intro q3 q4))
      have hfin := q1
      have kr := HDe.out.re.cell
      have fr := HDe.out.re.free
      have kb := HDe.out.bx.cell
      clear q1 q2 q3 q4
      go_wp2_with fail
      unfold set3 at hfin
      exact bodyPost_ret (v := .agg #[.slice (some ⟨gE, 0, none⟩) N.ends.length e0, .slice E1 N.ids.length e1, .slice E2 N.inputs.length e2]) (by simp [results, Tryz.results157, go_sem, hfin]) rfl ⟨_, _, rfl, HQ.out.1, Tame.mk (by have := HDR.out.len; simp; omega) (fun a => by have h1 := HDR.out.deg a; have h2 := HDR.out.deg vn; unfold dg at h2; rw [dg_set hv]; split <;> simp <;> omega) (by have := HDR.out.ids; simp; omega) (by have := HDR.out.ins; have := HDR.out.len; simp; omega), HQ.out.2.1.mono (by omega), HQ.out.2.2⟩
    · have hdI : ¬ (0 : Int) < ((gl N.ends vn).length : Int) := by omega
      obtain ⟨Aq, cq, hus⟩ := hua.shape
      have hov2 : w4.cell? ⟨gE, vn, none⟩ = some (.slice Aq (gl N.ends vn).length cq) := hov.trans (by rw [hus])
      clear hov hua hrow hinn hdis hparts hlr kb
      obtain ⟨q1, q2, q3, q4⟩ := HD.out.done HF.out
      have HQ := Lib.hid (And.intro q2 (And.intro q3 q4))
      have hfin := q1
      have kr := HD.out.re.cell
      have fr := HD.out.re.free
      have kb := HD.out.bx.cell
      clear q1 q2 q3 q4
      go_wp2_with fail
      unfold set3 at hfin
      exact bodyPost_ret (v := .agg #[.slice (some ⟨gE, 0, none⟩) N.ends.length e0, .slice E1 N.ids.length e1, .slice E2 N.inputs.length e2]) (by simp [results, Tryz.results157, go_sem, hfin]) rfl ⟨_, _, rfl, HQ.out.1, HDR.out.tame (by omega) (by omega), HQ.out.2.1.mono (by omega), HQ.out.2.2⟩
  · have hparts := HD.out.parts
    obtain ⟨us, hrow, hinn, hdis⟩ := hparts.1
    have hlr := World.ownsRow.lt hrow
    obtain ⟨gE, hE0⟩ : ∃ gE, E0 = some ⟨gE, 0, none⟩ := by
      rcases hrow.2 with ⟨h1, h0⟩ | ⟨g', cap', cur', h1, -⟩
      · simp only [Value.slice.injEq] at h1; omega
      · simp only [Value.slice.injEq] at h1; exact ⟨g', h1.1⟩
    subst hE0
    have HROW := Lib.hid hrow
    have HINN := Lib.hid hinn
    have HDIS := Lib.hid hdis
    have hov := (OwnEs.at_ hrow hv).1
    have hua := hinn vn hv
    by_cases hd : 0 < (gl N.ends vn).length
    · obtain ⟨ga, ca, hus, hgaB, hgal, -, -⟩ := hua.addr hd
      have hov2 : w4.cell? ⟨gE, vn, none⟩ = some (.slice (some ⟨ga, 0, none⟩) (gl N.ends vn).length ca) := hov.trans (by rw [hus])
      have hdI : (0 : Int) < ((gl N.ends vn).length : Int) := by omega
      have hgE : gE < w4.heap.size := (hlr gE rfl).2
      have hgEB : wz.heap.size ≤ gE := (hlr gE rfl).1
      clear hov hua hrow hinn hdis hparts hlr
      go_upto_region 13 with fail
      have hS0 : (w4.drew).cell? ⟨w.heap.size, 0, none⟩ = some (.slice (some ⟨gE, 0, none⟩) N.ends.length e0) ∧ (w4.drew).cell? ⟨gE, vn, none⟩ = some (.slice (some ⟨ga, 0, none⟩) (gl N.ends vn).length ca) := ⟨HD.out.drew.bx.cell 0, hov2⟩
      refine wp_region_any (by kernel_rfl) ?_
      try (change wpAny _ _ _ _ _ _ _ (World.drew _))
      simp only [List.size_toArray, List.length_cons, List.length_nil, Array.replicate, List.replicate]
      refine wpAny_take (i := 0) (oi := _) (v := ?_) rfl (by kernel_rfl) (by kernel_rfl) (by kernel_rfl) (fun _ _ _ h => h) (Or.inl ⟨by rfl, ?_⟩) ?_
      case refine_2 => intro w0; go_simp; with_reducible rfl
      try simp only [Act.put, List.getElem_toArray, List.getElem_cons_zero, List.getElem_cons_succ, List.setIfInBounds_toArray, List.set_cons_zero, List.set_cons_succ]
      refine wpAny_take (i := 2) (oi := _) (v := ?_) rfl (by kernel_rfl) (by kernel_rfl) (by kernel_rfl) (fun _ _ _ h => h) (Or.inl ⟨by rfl, ?_⟩) ?_
      case refine_2 => intro w0; go_simp; with_reducible rfl
      try simp only [Act.put, List.getElem_toArray, List.getElem_cons_zero, List.getElem_cons_succ, List.setIfInBounds_toArray, List.set_cons_zero, List.set_cons_succ]
      refine wpAny_take (i := 5) (oi := _) (v := ?_) rfl (by kernel_rfl) (by kernel_rfl) (by kernel_rfl) (fun _ _ _ h => h) (Or.inl ⟨by rfl, ?_⟩) ?_
      case refine_2 => intro w0; go_simp; with_reducible rfl
      try simp only [Act.put, List.getElem_toArray, List.getElem_cons_zero, List.getElem_cons_succ, List.setIfInBounds_toArray, List.set_cons_zero, List.set_cons_succ]
      refine wpAny_take (i := 6) (oi := _) (v := ?_) rfl (by kernel_rfl) (by kernel_rfl) (by kernel_rfl) (fun _ _ _ h => h) (Or.inl ⟨by rfl, ?_⟩) ?_
      case refine_2 => intro w0; go_simp; with_reducible rfl
      try simp only [Act.put, List.getElem_toArray, List.getElem_cons_zero, List.getElem_cons_succ, List.setIfInBounds_toArray, List.set_cons_zero, List.set_cons_succ]
      refine wpAny_of_P (S := fun W => W.cell? ⟨w.heap.size, 0, none⟩ = some (.slice (some ⟨gE, 0, none⟩) N.ends.length e0) ∧ W.cell? ⟨gE, vn, none⟩ = some (.slice (some ⟨ga, 0, none⟩) (gl N.ends vn).length ca)) (n1 := 11) _ _ _ _ ?_
      refine wpAnyP_take (i := 1) (oi := _) (v := ?_) rfl (by kernel_rfl) (by kernel_rfl) (by kernel_rfl) (by omega) (by kernel_rfl) (fun _ _ _ h => h) (Or.inl ⟨by rfl, ?_⟩) (hS0) ?_
      case refine_2 => intro w0 hS0; obtain ⟨h0, h1⟩ := hS0; go_simp; try with_reducible rfl
      try simp only [Act.put, List.getElem_toArray, List.getElem_cons_zero, List.getElem_cons_succ, List.setIfInBounds_toArray, List.set_cons_zero, List.set_cons_succ]
      refine wpAnyP_take (i := 3) (oi := _) (v := ?_) rfl (by kernel_rfl) (by kernel_rfl) (by kernel_rfl) (by omega) (by kernel_rfl) (fun _ _ _ h => h) (Or.inl ⟨by rfl, ?_⟩) (hS0) ?_
      case refine_2 => intro w0 hS0; obtain ⟨h0, h1⟩ := hS0; go_simp; try with_reducible rfl
      try simp only [Act.put, List.getElem_toArray, List.getElem_cons_zero, List.getElem_cons_succ, List.setIfInBounds_toArray, List.set_cons_zero, List.set_cons_succ]
      refine wpAnyP_take (i := 4) (oi := _) (v := ?_) rfl (by kernel_rfl) (by kernel_rfl) (by kernel_rfl) (by omega) (by kernel_rfl) (fun _ _ _ h => h) (Or.inl ⟨by rfl, ?_⟩) (hS0) ?_
      case refine_2 => intro w0 hS0; obtain ⟨h0, h1⟩ := hS0; go_simp; try with_reducible rfl
      try simp only [Act.put, List.getElem_toArray, List.getElem_cons_zero, List.getElem_cons_succ, List.setIfInBounds_toArray, List.set_cons_zero, List.set_cons_succ]
      refine wpAnyP_take (i := 7) (oi := _) (v := ?_) rfl (by kernel_rfl) (by kernel_rfl) (by kernel_rfl) (by omega) (by kernel_rfl) (fun _ _ _ h => h) (Or.inl ⟨by rfl, ?_⟩) (hS0) ?_
      case refine_2 => intro w0 hS0; obtain ⟨h0, h1⟩ := hS0; go_simp; try with_reducible rfl
      try simp only [Act.put, List.getElem_toArray, List.getElem_cons_zero, List.getElem_cons_succ, List.setIfInBounds_toArray, List.set_cons_zero, List.set_cons_succ]
      refine wpAnyP_take (i := 8) (oi := _) (v := ?_) rfl (by kernel_rfl) (by kernel_rfl) (by kernel_rfl) (by omega) (by kernel_rfl) (fun _ _ _ h => h) (Or.inl ⟨by rfl, ?_⟩) (hS0) ?_
      case refine_2 => intro w0 hS0; obtain ⟨h0, h1⟩ := hS0; go_simp; try with_reducible rfl
      try simp only [Act.put, List.getElem_toArray, List.getElem_cons_zero, List.getElem_cons_succ, List.setIfInBounds_toArray, List.set_cons_zero, List.set_cons_succ]
      refine wpAnyP_ready (rs := [9]) (by kernel_rfl) (by simp) (by kernel_rfl) (AllReadyP.cons (o := _) rfl (fun K hK => ?_) AllReadyP.nil)
      go_simp
      refine hK.out _ _ (⟨(HD.out.drew.alloc _).bx.cell 0, ((((Below.refl _ w4).drew).alloc (by simp) _).cell (p := ⟨gE, vn, none⟩) hgE).trans hov2⟩) (fun _ => ?_)
      clear hK K
      try simp only [Act.put, List.getElem_toArray, List.getElem_cons_zero, List.getElem_cons_succ, List.setIfInBounds_toArray, List.set_cons_zero, List.set_cons_succ]
      refine wpAnyP_ready (rs := [10]) (by kernel_rfl) (by simp) (by kernel_rfl) (AllReadyP.cons (o := _) rfl (fun K hK => ?_) AllReadyP.nil)
      go_simp
      go_wp2_with (go_at_call 87; refine (among_any _ gc cv L (A + 4) _ [-1, 0, (N.ends.length : Int)] (HD.out.drew.alloc _).cu (by omega) (IntsR.built w4.drew 3 [-1, 0, (N.ends.length : Int)] (by simp)) (by have := HF.out.gcl; rintro b rfl; simp; omega) (by simp) (by simp)).mono ?_; rintro e w5 ⟨q, rfl, -, hc5, hg5⟩; have HD5 := Lib.hid ((HD.out.drew.alloc _).grown HF.out hg5 hc5); obtain ⟨us5, hrow5, hinn5, hdis5⟩ := HD5.out.parts.1; have hS5 : w5.cell? ⟨w.heap.size, 0, none⟩ = some (.slice (some ⟨gE, 0, none⟩) N.ends.length e0) ∧ w5.cell? ⟨gE, vn, none⟩ = some (.slice (some ⟨ga, 0, none⟩) (gl N.ends vn).length ca) := ⟨HD5.out.bx.cell 0, ((World.cell?_of_block (hg5.block gE (by simp; omega) (by have := HF.out.gcl; simp; omega))).trans ((((Below.refl _ w4).drew).alloc (by simp) _).cell (p := ⟨gE, vn, none⟩) hgE)).trans hov2⟩; have hus5 : us5 vn = .slice (some ⟨ga, 0, none⟩) (gl N.ends vn).length ca := Option.some.inj (((OwnEs.at_ hrow5 hv).1).symm.trans hS5.2); have hua5 := hinn5 vn hv; rw [hus5] at hua5; have hat5 := hua5.at_ (j := 0) hd; have hc6 : w5.cell? ⟨ga, 0, none⟩ = some (.int .i64 (gp (gl N.ends vn) 0).1) := hat5.1.1; have hf6 : w5.frozen? ⟨ga, 0, none⟩ = false := hat5.2 0)
      refine hK.out _ _ (hS5) (fun _ => ?_)
      clear hK K
      try simp only [Act.put, List.getElem_toArray, List.getElem_cons_zero, List.getElem_cons_succ, List.setIfInBounds_toArray, List.set_cons_zero, List.set_cons_succ]
      refine wpAnyP_go (by kernel_rfl) ?_
      refine wpAny_take (i := 11) (oi := _) (v := ?_) rfl (by kernel_rfl) (by kernel_rfl) (by kernel_rfl) (fun _ _ _ h => h) (Or.inl ⟨by rfl, ?_⟩) ?_
      case refine_2 => intro w0; go_simp; with_reducible rfl
      try simp only [Act.put, List.getElem_toArray, List.getElem_cons_zero, List.getElem_cons_succ, List.setIfInBounds_toArray, List.set_cons_zero, List.set_cons_succ]
      refine wpAny_take (i := 12) (oi := _) (v := ?_) rfl (by kernel_rfl) (by kernel_rfl) (by kernel_rfl) (fun _ _ _ h => h) (Or.inl ⟨by rfl, ?_⟩) ?_
      case refine_2 => intro w0; go_simp; with_reducible rfl
      try simp only [Act.put, List.getElem_toArray, List.getElem_cons_zero, List.getElem_cons_succ, List.setIfInBounds_toArray, List.set_cons_zero, List.set_cons_succ]
      refine wpAny_ready (rs := [13]) (by kernel_rfl) (by simp) (AllReady.cons (o := _) rfl (fun K hK => ?_) AllReady.nil)
      go_simp
      refine hK _ _ ?_
      clear hK K
      refine wpAny_done (by kernel_rfl) ?_ _
      have hto := OwnEs.rowTurn (i := 0) (u := .int .i64 q) hrow5 hinn5 hdis5 hv hus5 (by rw [hus5]; exact OwnE.put1 (u := q) hua5 hd)
      have HDe := Lib.hid (HD5.out.turnE HF.out hto.2.1 (LowB.set (p := ⟨ga, 0, none⟩) (Nat.le_trans HF.out.bl hto.2.2) _) hto.1)
      have hle1 : (N.ends.set vn ((gl N.ends vn).set 0 (q, (gp (gl N.ends vn) 0).2))).length = N.ends.length := List.length_set
      clear hS0 hS5 hc5 hg5 hc6 hf6 kb hto hat5 hua5 hus5 hrow5 hinn5 hdis5 hov2
      obtain ⟨q1, q2, q3, q4⟩ := HDe.out.done HF.out
      have HQ := Lib.hid (And.intro q2 (And.intro q3 q4))
      have hfin := q1
      have kr := HDe.out.re.cell
      have fr := HDe.out.re.free
      have kb := HDe.out.bx.cell
      clear q1 q2 q3 q4
      go_wp2_with fail
      unfold set3 at hfin
      exact bodyPost_ret (v := .agg #[.slice (some ⟨gE, 0, none⟩) N.ends.length e0, .slice E1 N.ids.length e1, .slice E2 N.inputs.length e2]) (by simp [results, Tryz.results157, go_sem, hfin]) rfl ⟨_, _, rfl, HQ.out.1, Tame.mk (by have := HDR.out.len; simp; omega) (fun a => by have h1 := HDR.out.deg a; have h2 := HDR.out.deg vn; unfold dg at h2; rw [dg_set hv]; split <;> simp <;> omega) (by have := HDR.out.ids; simp; omega) (by have := HDR.out.ins; have := HDR.out.len; simp; omega), HQ.out.2.1.mono (by omega), HQ.out.2.2⟩
    · have hdI : ¬ (0 : Int) < ((gl N.ends vn).length : Int) := by omega
      obtain ⟨Aq, cq, hus⟩ := hua.shape
      have hov2 : w4.cell? ⟨gE, vn, none⟩ = some (.slice Aq (gl N.ends vn).length cq) := hov.trans (by rw [hus])
      clear hov hua hrow hinn hdis hparts hlr kb
      obtain ⟨q1, q2, q3, q4⟩ := HD.out.done HF.out
      have HQ := Lib.hid (And.intro q2 (And.intro q3 q4))
      have hfin := q1
      have kr := HD.out.re.cell
      have fr := HD.out.re.free
      have kb := HD.out.bx.cell
      clear q1 q2 q3 q4
      go_wp2_with fail
      unfold set3 at hfin
      exact bodyPost_ret (v := .agg #[.slice (some ⟨gE, 0, none⟩) N.ends.length e0, .slice E1 N.ids.length e1, .slice E2 N.inputs.length e2]) (by simp [results, Tryz.results157, go_sem, hfin]) rfl ⟨_, _, rfl, HQ.out.1, HDR.out.tame (by omega) (by omega), HQ.out.2.1.mono (by omega), HQ.out.2.2⟩
  · have hparts := HD.out.parts
    obtain ⟨us, hrow, hinn, hdis⟩ := hparts.1
    have hlr := World.ownsRow.lt hrow
    obtain ⟨gE, hE0⟩ : ∃ gE, E0 = some ⟨gE, 0, none⟩ := by
      rcases hrow.2 with ⟨h1, h0⟩ | ⟨g', cap', cur', h1, -⟩
      · simp only [Value.slice.injEq] at h1; omega
      · simp only [Value.slice.injEq] at h1; exact ⟨g', h1.1⟩
    subst hE0
    have HROW := Lib.hid hrow
    have HINN := Lib.hid hinn
    have HDIS := Lib.hid hdis
    have hov := (OwnEs.at_ hrow hv).1
    have hua := hinn vn hv
    have hgE : gE < w4.heap.size := (hlr gE rfl).2
    have hgEB : wz.heap.size ≤ gE := (hlr gE rfl).1
    clear hov hua hrow hinn hdis hparts hlr HROW HINN HDIS
    clear kb
    go_upto_region 15 with fail
    have HD0 : Hid (DS w gc cv L (A + 4 + 2 * (8 - 8)) wz.heap.size w.heap.size (w.heap.size + 1) (.slice (some ⟨gE, 0, none⟩) N.ends.length e0) (.slice E1 N.ids.length e1) (.slice E2 N.inputs.length e2) N w4) := Lib.hid (HD.out.mono (by omega))
    go_loopg [] 8 (fun k W => ∃ (ess : List (List (Int × Int))), ess.length = N.ends.length ∧ k ≤ 8 ∧ 8 ≤ dg ess vn + k ∧ dg ess vn + k ≤ 508 ∧ (∀ a, a ≠ vn → dg ess a = dg N.ends a) ∧ DS w gc cv L (A + 4 + 2 * (8 - k)) wz.heap.size w.heap.size (w.heap.size + 1) (.slice (some ⟨gE, 0, none⟩) N.ends.length e0) (.slice E1 N.ids.length e1) (.slice E2 N.inputs.length e2) { N with ends := ess } W)
    case atStart => exact ⟨N.ends, rfl, Nat.le_refl _, by omega, by have := HDR.out.deg vn; omega, fun _ _ => rfl, HD0.out⟩
    case round =>
      clear HD HD0 hzz
      obtain ⟨ess, hle, hk8, hk1, hk2, hoth, hd⟩ := hrel
      obtain ⟨wr2, rfl⟩ : ∃ wr2, wr2 = wr := ⟨_, rfl⟩
      have HDw := Lib.hid hd
      have HLE := Lib.hid hle
      have HOT := Lib.hid hoth
      have hzz : wz.heap.size ≤ wr2.heap.size := by have := hd.re.lt; omega
      have hve : vn < ess.length := by omega
      have hpe := hd.parts.1
      simp only at hpe
      rw [← hle] at hpe
      obtain ⟨us, hrow, hinn, hdis⟩ := hpe
      have hlr := World.ownsRow.lt hrow
      have hgE2 : gE < wr2.heap.size := (hlr gE rfl).2
      have hov := (OwnEs.at_ hrow hve).1
      obtain ⟨Aq, cq, hus⟩ := (hinn vn hve).shape
      have hov2 : wr2.cell? ⟨gE, vn, none⟩ = some (.slice Aq (dg ess vn) cq) := hov.trans (by rw [hus]; rfl)
      have HROW := Lib.hid hrow
      have HINN := Lib.hid hinn
      have HDIS := Lib.hid hdis
      have HUS := Lib.hid hus
      obtain ⟨dv, hdv⟩ : ∃ dv, dv = dg ess vn := ⟨_, rfl⟩
      rw [← hdv] at hov2 hk1 hk2
      have HDV := Lib.hid hdv
      clear hov hrow hinn hdis hus hlr hd hle hoth hdv
      have hS0 : (wr2.drew).cell? ⟨w.heap.size, 0, none⟩ = some (.slice (some ⟨gE, 0, none⟩) N.ends.length e0) ∧ (wr2.drew).cell? ⟨gE, vn, none⟩ = some (.slice Aq dv cq) := ⟨HDw.out.drew.bx.cell 0, hov2⟩
      go_upto_region 15 with fail
      refine wp_region_any (by kernel_rfl) ?_
      try (change wpAny _ _ _ _ _ _ _ (World.drew _))
      simp only [List.size_toArray, List.length_cons, List.length_nil, Array.replicate, List.replicate]
      refine wpAny_take (i := 0) (oi := _) (v := ?_) rfl (by kernel_rfl) (by kernel_rfl) (by kernel_rfl) (fun _ _ _ h => h) (Or.inl ⟨by rfl, ?_⟩) ?_
      case refine_2 => intro w0; go_simp; with_reducible rfl
      try simp only [Act.put, List.getElem_toArray, List.getElem_cons_zero, List.getElem_cons_succ, List.setIfInBounds_toArray, List.set_cons_zero, List.set_cons_succ]
      refine wpAny_take (i := 2) (oi := _) (v := ?_) rfl (by kernel_rfl) (by kernel_rfl) (by kernel_rfl) (fun _ _ _ h => h) (Or.inl ⟨by rfl, ?_⟩) ?_
      case refine_2 => intro w0; go_simp; with_reducible rfl
      try simp only [Act.put, List.getElem_toArray, List.getElem_cons_zero, List.getElem_cons_succ, List.setIfInBounds_toArray, List.set_cons_zero, List.set_cons_succ]
      refine wpAny_take (i := 6) (oi := _) (v := ?_) rfl (by kernel_rfl) (by kernel_rfl) (by kernel_rfl) (fun _ _ _ h => h) (Or.inl ⟨by rfl, ?_⟩) ?_
      case refine_2 => intro w0; go_simp; with_reducible rfl
      try simp only [Act.put, List.getElem_toArray, List.getElem_cons_zero, List.getElem_cons_succ, List.setIfInBounds_toArray, List.set_cons_zero, List.set_cons_succ]
      refine wpAny_of_P (S := fun W => W.cell? ⟨w.heap.size, 0, none⟩ = some (.slice (some ⟨gE, 0, none⟩) N.ends.length e0) ∧ W.cell? ⟨gE, vn, none⟩ = some (.slice Aq dv cq)) (n1 := 10) _ _ _ _ ?_
      refine wpAnyP_take (i := 1) (oi := _) (v := ?_) rfl (by kernel_rfl) (by kernel_rfl) (by kernel_rfl) (by omega) (by kernel_rfl) (fun _ _ _ h => h) (Or.inl ⟨by rfl, ?_⟩) (hS0) ?_
      case refine_2 => intro w0 hS0; obtain ⟨h0, h1⟩ := hS0; go_simp; try with_reducible rfl
      try simp only [Act.put, List.getElem_toArray, List.getElem_cons_zero, List.getElem_cons_succ, List.setIfInBounds_toArray, List.set_cons_zero, List.set_cons_succ]
      refine wpAnyP_take (i := 3) (oi := _) (v := ?_) rfl (by kernel_rfl) (by kernel_rfl) (by kernel_rfl) (by omega) (by kernel_rfl) (fun _ _ _ h => h) (Or.inl ⟨by rfl, ?_⟩) (hS0) ?_
      case refine_2 => intro w0 hS0; obtain ⟨h0, h1⟩ := hS0; go_simp; try with_reducible rfl
      try simp only [Act.put, List.getElem_toArray, List.getElem_cons_zero, List.getElem_cons_succ, List.setIfInBounds_toArray, List.set_cons_zero, List.set_cons_succ]
      refine wpAnyP_take (i := 4) (oi := _) (v := ?_) rfl (by kernel_rfl) (by kernel_rfl) (by kernel_rfl) (by omega) (by kernel_rfl) (fun _ _ _ h => h) (Or.inl ⟨by rfl, ?_⟩) (hS0) ?_
      case refine_2 => intro w0 hS0; obtain ⟨h0, h1⟩ := hS0; go_simp; try with_reducible rfl
      try simp only [Act.put, List.getElem_toArray, List.getElem_cons_zero, List.getElem_cons_succ, List.setIfInBounds_toArray, List.set_cons_zero, List.set_cons_succ]
      refine wpAnyP_take (i := 5) (oi := _) (v := ?_) rfl (by kernel_rfl) (by kernel_rfl) (by kernel_rfl) (by omega) (by kernel_rfl) (fun _ _ _ h => h) (Or.inl ⟨by rfl, ?_⟩) (hS0) ?_
      case refine_2 => intro w0 hS0; obtain ⟨h0, h1⟩ := hS0; go_simp; try with_reducible rfl
      try simp only [Act.put, List.getElem_toArray, List.getElem_cons_zero, List.getElem_cons_succ, List.setIfInBounds_toArray, List.set_cons_zero, List.set_cons_succ]
      refine wpAnyP_ready (rs := [7]) (by kernel_rfl) (by simp) (by kernel_rfl) (AllReadyP.cons (o := _) rfl (fun K hK => ?_) AllReadyP.nil)
      go_simp
      go_wp2_with (go_at_call 63; go_loud (refine (pick_any _ gc cv L (A + 4 + 2 * (8 - gk)) 2 HDw.out.drew.cu (by omega)).mono ?_; rintro e w7 ⟨q, rfl, hpq, hc7, hg7⟩; have HD7 := Lib.hid (HDw.out.drew.grown HF.out hg7 hc7); have hov7 : w7.cell? ⟨gE, vn, none⟩ = some (.slice Aq dv cq) := (World.cell?_of_block (hg7.block gE (by simp; omega) (by have := HF.out.gcl; simp; omega))).trans hov2; have hS7 : w7.cell? ⟨w.heap.size, 0, none⟩ = some (.slice (some ⟨gE, 0, none⟩) N.ends.length e0) ∧ w7.cell? ⟨gE, vn, none⟩ = some (.slice Aq dv cq) := ⟨HD7.out.bx.cell 0, hov7⟩; have hzz7 : wr2.heap.size ≤ w7.heap.size := (by have := hg7.size; simpa using this)))
      refine hK.out _ _ (hS7) (fun _ => ?_)
      clear hK K
      try simp only [Act.put, List.getElem_toArray, List.getElem_cons_zero, List.getElem_cons_succ, List.setIfInBounds_toArray, List.set_cons_zero, List.set_cons_succ]
      refine wpAnyP_take (i := 8) (oi := _) (v := ?_) rfl (by kernel_rfl) (by kernel_rfl) (by kernel_rfl) (by omega) (by kernel_rfl) (fun _ _ _ h => h) (Or.inl ⟨by rfl, ?_⟩) (hS7) ?_
      case refine_2 => intro w0 hS0; obtain ⟨h0, h1⟩ := hS0; go_simp; try with_reducible rfl
      try simp only [Act.put, List.getElem_toArray, List.getElem_cons_zero, List.getElem_cons_succ, List.setIfInBounds_toArray, List.set_cons_zero, List.set_cons_succ]
      refine wpAnyP_take (i := 9) (oi := _) (v := ?_) rfl (by kernel_rfl) (by kernel_rfl) (by kernel_rfl) (by omega) (by kernel_rfl) (fun _ _ _ h => h) (Or.inl ⟨by rfl, ?_⟩) (hS7) ?_
      case refine_2 => intro w0 hS0; obtain ⟨h0, h1⟩ := hS0; go_simp; try with_reducible rfl
      try simp only [Act.put, List.getElem_toArray, List.getElem_cons_zero, List.getElem_cons_succ, List.setIfInBounds_toArray, List.set_cons_zero, List.set_cons_succ]
      refine wpAnyP_go (by kernel_rfl) (wpAny_done (by kernel_rfl) ?_ _)
      have hq1 := hpq.1
      have hq2 := hpq.2.2
      clear hpq hS0 hov2
      have HWQ : Hid (IntKind.i64.wrap (6 + q) = 6 + q) := Lib.hid (by rw [IntWalk.i64_in _ (by omega)])
      rw [HWQ.out]
      clear HWQ
      have HUN := Lib.hid (And.intro HROW.out (And.intro HINN.out HDIS.out))
      clear HROW HINN HDIS HUS HUN hS7 hov7 hzz7 hc7 hg7
      by_cases hcond : (dv : Int) < 6 + q
      · have hpe7 := HD7.out.parts.1
        simp only at hpe7
        obtain ⟨us7, hrow7, hinn7, hdis7⟩ := hpe7
        have hlr7 := World.ownsRow.lt hrow7
        have hgE7 : gE < w7.heap.size := (hlr7 gE rfl).2
        have hnn : N.ends.length = ess.length := HLE.out.symm
        have hrowB := hrow7
        rw [hnn] at hrowB
        have hov7 := (OwnEs.at_ hrowB hve).1
        have hfr7 := (OwnEs.at_ hrowB hve).2
        have hua7 := hinn7 vn hve
        obtain ⟨A9, c9, hus7⟩ := hua7.shape
        have hdl : (gl ess vn).length = dv := HDV.out.symm
        rw [hus7] at hov7 hua7
        rw [hdl] at hov7 hua7 hus7
        have HUA := Lib.hid hua7
        have HROW := Lib.hid hrow7
        have HINN := Lib.hid hinn7
        have HDIS := Lib.hid hdis7
        have HUS := Lib.hid hus7
        have HDL := Lib.hid hdl
        clear hrowB hnn hlr7 hua7 hrow7 hinn7 hdis7 hus7 hdl
        go_upto_region 16 with fail
        have hS0 : (w7.drew).cell? ⟨w.heap.size, 0, none⟩ = some (.slice (some ⟨gE, 0, none⟩) N.ends.length e0) ∧ (w7.drew).cell? ⟨gE, vn, none⟩ = some (.slice A9 dv c9) := ⟨HD7.out.drew.bx.cell 0, hov7⟩
        refine wp_region_any (by kernel_rfl) ?_
        try (change wpAny _ _ _ _ _ _ _ (World.drew _))
        simp only [List.size_toArray, List.length_cons, List.length_nil, Array.replicate, List.replicate]
        refine wpAny_take (i := 0) (oi := _) (v := ?_) rfl (by kernel_rfl) (by kernel_rfl) (by kernel_rfl) (fun _ _ _ h => h) (Or.inl ⟨by rfl, ?_⟩) ?_
        case refine_2 => intro w0; go_simp; with_reducible rfl
        try simp only [Act.put, List.getElem_toArray, List.getElem_cons_zero, List.getElem_cons_succ, List.setIfInBounds_toArray, List.set_cons_zero, List.set_cons_succ]
        refine wpAny_take (i := 2) (oi := _) (v := ?_) rfl (by kernel_rfl) (by kernel_rfl) (by kernel_rfl) (fun _ _ _ h => h) (Or.inl ⟨by rfl, ?_⟩) ?_
        case refine_2 => intro w0; go_simp; with_reducible rfl
        try simp only [Act.put, List.getElem_toArray, List.getElem_cons_zero, List.getElem_cons_succ, List.setIfInBounds_toArray, List.set_cons_zero, List.set_cons_succ]
        refine wpAny_take (i := 3) (oi := _) (v := ?_) rfl (by kernel_rfl) (by kernel_rfl) (by kernel_rfl) (fun _ _ _ h => h) (Or.inl ⟨by rfl, ?_⟩) ?_
        case refine_2 => intro w0; go_simp; with_reducible rfl
        try simp only [Act.put, List.getElem_toArray, List.getElem_cons_zero, List.getElem_cons_succ, List.setIfInBounds_toArray, List.set_cons_zero, List.set_cons_succ]
        refine wpAny_take (i := 5) (oi := _) (v := ?_) rfl (by kernel_rfl) (by kernel_rfl) (by kernel_rfl) (fun _ _ _ h => h) (Or.inl ⟨by rfl, ?_⟩) ?_
        case refine_2 => intro w0; go_simp; with_reducible rfl
        try simp only [Act.put, List.getElem_toArray, List.getElem_cons_zero, List.getElem_cons_succ, List.setIfInBounds_toArray, List.set_cons_zero, List.set_cons_succ]
        refine wpAny_take (i := 8) (oi := _) (v := ?_) rfl (by kernel_rfl) (by kernel_rfl) (by kernel_rfl) (fun _ _ _ h => h) (Or.inl ⟨by rfl, ?_⟩) ?_
        case refine_2 => intro w0; go_simp; with_reducible rfl
        try simp only [Act.put, List.getElem_toArray, List.getElem_cons_zero, List.getElem_cons_succ, List.setIfInBounds_toArray, List.set_cons_zero, List.set_cons_succ]
        refine wpAny_take (i := 9) (oi := _) (v := ?_) rfl (by kernel_rfl) (by kernel_rfl) (by kernel_rfl) (fun _ _ _ h => h) (Or.inl ⟨by rfl, ?_⟩) ?_
        case refine_2 => intro w0; go_simp; with_reducible rfl
        try simp only [Act.put, List.getElem_toArray, List.getElem_cons_zero, List.getElem_cons_succ, List.setIfInBounds_toArray, List.set_cons_zero, List.set_cons_succ]
        refine wpAny_take (i := 11) (oi := _) (v := ?_) rfl (by kernel_rfl) (by kernel_rfl) (by kernel_rfl) (fun _ _ _ h => h) (Or.inl ⟨by rfl, ?_⟩) ?_
        case refine_2 => intro w0; go_simp; with_reducible rfl
        try simp only [Act.put, List.getElem_toArray, List.getElem_cons_zero, List.getElem_cons_succ, List.setIfInBounds_toArray, List.set_cons_zero, List.set_cons_succ]
        refine wpAny_of_P (S := fun W => W.cell? ⟨w.heap.size, 0, none⟩ = some (.slice (some ⟨gE, 0, none⟩) N.ends.length e0) ∧ W.cell? ⟨gE, vn, none⟩ = some (.slice A9 dv c9)) (n1 := 18) _ _ _ _ ?_
        refine wpAnyP_take (i := 1) (oi := _) (v := ?_) rfl (by kernel_rfl) (by kernel_rfl) (by kernel_rfl) (by omega) (by kernel_rfl) (fun _ _ _ h => h) (Or.inl ⟨by rfl, ?_⟩) (hS0) ?_
        case refine_2 => intro w0 hS0; obtain ⟨h0, h1⟩ := hS0; go_simp; try with_reducible rfl
        try simp only [Act.put, List.getElem_toArray, List.getElem_cons_zero, List.getElem_cons_succ, List.setIfInBounds_toArray, List.set_cons_zero, List.set_cons_succ]
        refine wpAnyP_take (i := 4) (oi := _) (v := ?_) rfl (by kernel_rfl) (by kernel_rfl) (by kernel_rfl) (by omega) (by kernel_rfl) (fun _ _ _ h => h) (Or.inl ⟨by rfl, ?_⟩) (hS0) ?_
        case refine_2 => intro w0 hS0; obtain ⟨h0, h1⟩ := hS0; go_simp; try with_reducible rfl
        try simp only [Act.put, List.getElem_toArray, List.getElem_cons_zero, List.getElem_cons_succ, List.setIfInBounds_toArray, List.set_cons_zero, List.set_cons_succ]
        refine wpAnyP_take (i := 6) (oi := _) (v := ?_) rfl (by kernel_rfl) (by kernel_rfl) (by kernel_rfl) (by omega) (by kernel_rfl) (fun _ _ _ h => h) (Or.inl ⟨by rfl, ?_⟩) (hS0) ?_
        case refine_2 => intro w0 hS0; obtain ⟨h0, h1⟩ := hS0; go_simp; try with_reducible rfl
        try simp only [Act.put, List.getElem_toArray, List.getElem_cons_zero, List.getElem_cons_succ, List.setIfInBounds_toArray, List.set_cons_zero, List.set_cons_succ]
        refine wpAnyP_take (i := 7) (oi := _) (v := ?_) rfl (by kernel_rfl) (by kernel_rfl) (by kernel_rfl) (by omega) (by kernel_rfl) (fun _ _ _ h => h) (Or.inl ⟨by rfl, ?_⟩) (hS0) ?_
        case refine_2 => intro w0 hS0; obtain ⟨h0, h1⟩ := hS0; go_simp; try with_reducible rfl
        try simp only [Act.put, List.getElem_toArray, List.getElem_cons_zero, List.getElem_cons_succ, List.setIfInBounds_toArray, List.set_cons_zero, List.set_cons_succ]
        refine wpAnyP_take (i := 10) (oi := _) (v := ?_) rfl (by kernel_rfl) (by kernel_rfl) (by kernel_rfl) (by omega) (by kernel_rfl) (fun _ _ _ h => h) (Or.inl ⟨by rfl, ?_⟩) (hS0) ?_
        case refine_2 => intro w0 hS0; obtain ⟨h0, h1⟩ := hS0; go_simp; try with_reducible rfl
        try simp only [Act.put, List.getElem_toArray, List.getElem_cons_zero, List.getElem_cons_succ, List.setIfInBounds_toArray, List.set_cons_zero, List.set_cons_succ]
        refine wpAnyP_take (i := 12) (oi := _) (v := ?_) rfl (by kernel_rfl) (by kernel_rfl) (by kernel_rfl) (by omega) (by kernel_rfl) (fun _ _ _ h => h) (Or.inl ⟨by rfl, ?_⟩) (hS0) ?_
        case refine_2 => intro w0 hS0; obtain ⟨h0, h1⟩ := hS0; go_simp; try with_reducible rfl
        try simp only [Act.put, List.getElem_toArray, List.getElem_cons_zero, List.getElem_cons_succ, List.setIfInBounds_toArray, List.set_cons_zero, List.set_cons_succ]
        refine wpAnyP_take (i := 13) (oi := _) (v := ?_) rfl (by kernel_rfl) (by kernel_rfl) (by kernel_rfl) (by omega) (by kernel_rfl) (fun _ _ _ h => h) (Or.inl ⟨by rfl, ?_⟩) (hS0) ?_
        case refine_2 => intro w0 hS0; obtain ⟨h0, h1⟩ := hS0; go_simp; try with_reducible rfl
        try simp only [Act.put, List.getElem_toArray, List.getElem_cons_zero, List.getElem_cons_succ, List.setIfInBounds_toArray, List.set_cons_zero, List.set_cons_succ]
        refine wpAnyP_take (i := 14) (oi := _) (v := ?_) rfl (by kernel_rfl) (by kernel_rfl) (by kernel_rfl) (by omega) (by kernel_rfl) (fun _ _ _ h => h) (Or.inl ⟨by rfl, ?_⟩) (hS0) ?_
        case refine_2 => intro w0 hS0; obtain ⟨h0, h1⟩ := hS0; go_simp; try with_reducible rfl
        try simp only [Act.put, List.getElem_toArray, List.getElem_cons_zero, List.getElem_cons_succ, List.setIfInBounds_toArray, List.set_cons_zero, List.set_cons_succ]
        refine wpAnyP_take (i := 15) (oi := _) (v := ?_) rfl (by kernel_rfl) (by kernel_rfl) (by kernel_rfl) (by omega) (by kernel_rfl) (fun _ _ _ h => h) (Or.inl ⟨by rfl, ?_⟩) (hS0) ?_
        case refine_2 => intro w0 hS0; obtain ⟨h0, h1⟩ := hS0; go_simp; try with_reducible rfl
        try simp only [Act.put, List.getElem_toArray, List.getElem_cons_zero, List.getElem_cons_succ, List.setIfInBounds_toArray, List.set_cons_zero, List.set_cons_succ]
        refine wpAnyP_ready (rs := [16]) (by kernel_rfl) (by simp) (by kernel_rfl) (AllReadyP.cons (o := _) rfl (fun K hK => ?_) AllReadyP.nil)
        go_simp
        refine hK.out _ _ (⟨(HD7.out.drew.alloc _).bx.cell 0, ((((Below.refl _ w7).drew).alloc (by simp) _).cell (p := ⟨gE, vn, none⟩) hgE7).trans hov7⟩) (fun _ => ?_)
        clear hK K
        try simp only [Act.put, List.getElem_toArray, List.getElem_cons_zero, List.getElem_cons_succ, List.setIfInBounds_toArray, List.set_cons_zero, List.set_cons_succ]
        have hX : Below w7.heap.size w7 (w7.drew.alloc (.cells #[.int .i64 vn, .int .i64 dv] 38)) := ((Below.refl w7.heap.size w7).drew).alloc (by simp) _
        have HX := Lib.hid hX
        have hwz7 : wz.heap.size ≤ w7.heap.size := by have := HD7.out.re.lt; omega
        clear hX
        refine wpAnyP_ready (rs := [17]) (by kernel_rfl) (by simp) (by kernel_rfl) (AllReadyP.cons (o := _) rfl (fun K hK => ?_) AllReadyP.nil)
        (refine step_append_ends _ rfl (.tmp 91) (.tmp 100) rfl wz.heap.size (.slice A9 dv c9) (gl ess vn) (by simp [go_sem]) (HUA.out.below HX.out) (.slice (some ⟨w7.heap.size, 0, none⟩) 1 1) [((vn : Int), (dv : Int))] (by simp [go_sem]) (EndsR.one (w := w7.drew.alloc (.cells #[.int .i64 vn, .int .i64 dv] 38)) (Blk.new w7.drew 38 #[.int .i64 vn, .int .i64 dv])) (by have := HDL.out; simp; omega) (by simp; omega) ?_; intro A8 c8 w8 ho8 hg8 hl8; have hk8 : KeptBut 38 w7 w8 := (KeptBut.of_below HX.out).trans (KeptBut.of_grown hg8 fun k hk => (by obtain ⟨cs, h1⟩ := (HUA.out.below HX.out).type k hk; exact ⟨cs, _, h1⟩)); have kb8 := (Blk.cell ((hk8 _ _ _ _ HD7.out.bx (by decide)).trans HD7.out.bx)); obtain ⟨cs9, fr9, h9⟩ := rowType HROW.out gE rfl; have hb8 := (hk8 gE _ _ _ h9 (by decide)); have kv8 := (World.cell?_of_block (w := w7) (w' := w8) (a := ⟨gE, vn, none⟩) hb8).trans hov7; have kf8 := (World.frozen?_of_block (w := w7) (w' := w8) (a := ⟨gE, vn, none⟩) hb8).trans hfr7)
        refine hK.out _ _ (⟨kb8 0, kv8⟩) (fun _ => ?_)
        clear hK K
        try simp only [Act.put, List.getElem_toArray, List.getElem_cons_zero, List.getElem_cons_succ, List.setIfInBounds_toArray, List.set_cons_zero, List.set_cons_succ]
        refine wpAnyP_go (by kernel_rfl) ?_
        refine wpAny_take (i := 18) (oi := _) (v := ?_) rfl (by kernel_rfl) (by kernel_rfl) (by kernel_rfl) (fun _ _ _ h => h) (Or.inl ⟨by rfl, ?_⟩) ?_
        case refine_2 => intro w0; go_simp; with_reducible rfl
        try simp only [Act.put, List.getElem_toArray, List.getElem_cons_zero, List.getElem_cons_succ, List.setIfInBounds_toArray, List.set_cons_zero, List.set_cons_succ]
        refine wpAny_ready (rs := [19]) (by kernel_rfl) (by simp) (AllReady.cons (o := _) rfl (fun K hK => ?_) AllReady.nil)
        go_simp
        refine hK _ _ ?_
        clear hK K
        refine wpAny_done (by kernel_rfl) ?_ _
        have HDe := Lib.hid (DS.growRow (N := { N with ends := ess }) (n := N.ends.length) HLE.out HD7.out HF.out HX.out HROW.out HINN.out HDIS.out hve ho8 (by rw [HUS.out]; exact hg8) (by rw [HUS.out]; exact hl8))
        clear hk8 kb8 h9 hb8 kv8 kf8 ho8 hg8 hl8 hS0 hov7 hfr7
        have hcond' : dv < 8 := by omega
        go_wp2_with fail
        go_roundg (gk - 1)
        case measure => omega
        case rel => exact ⟨ess.set vn (gl ess vn ++ [((vn : Int), (dv : Int))]), by rw [List.length_set]; exact HLE.out, by omega, by rw [dg_set hve, if_pos rfl]; have := HDL.out; simp; omega, by rw [dg_set hve, if_pos rfl]; have := HDL.out; simp; omega, fun a ha => by rw [dg_set hve, if_neg ha]; exact HOT.out a ha, HDe.out.mono (by omega)⟩
      · have hdgs : ∀ a, dg ess a ≤ 600 := fun a => by
          by_cases ha : a = vn
          · subst ha; have := HDV.out; omega
          · rw [HOT.out a ha]; have := HDR.out.deg a; omega
        have HDG := Lib.hid hdgs
        have hlen : ess.length ≤ 64 := by have := HLE.out; omega
        have HLN := Lib.hid hlen
        clear hdgs hlen hve
        obtain ⟨q1, q2, q3, q4⟩ := HD7.out.done HF.out
        have HQ := Lib.hid (And.intro q2 (And.intro q3 q4))
        have hfin := q1
        have kr := HD7.out.re.cell
        have fr := HD7.out.re.free
        have kb := HD7.out.bx.cell
        clear q1 q2 q3 q4
        go_wp2_with fail
        unfold set3 at hfin
        exact bodyPost_ret (v := .agg #[.slice (some ⟨gE, 0, none⟩) N.ends.length e0, .slice E1 N.ids.length e1, .slice E2 N.inputs.length e2]) (by simp [results, Tryz.results157, go_sem, hfin]) rfl ⟨_, _, rfl, HQ.out.1, Tame.mk HLN.out HDG.out (by have := HDR.out.ids; simp; omega) (by have := HDR.out.ins; have := HDR.out.len; simp; omega), HQ.out.2.1.mono (by omega), HQ.out.2.2⟩
  · have HIN := Lib.hid (HD.out.ow.net (S := fun _ => True) (fun _ _ _ => trivial))
    go_upto_region 19 with (go_at_call 156; refine (withIds_any (S := fun _ => True) _ gc cv L (A + 4) _ N HD.out.cu (by omega) (HF.out.far.mono HD.out.wsz) HIN.out HS.out).mono ?_; rintro e w5 ⟨v5, N5, rfl, ho5, hi5, hc5, hcb5⟩; obtain ⟨G0, d0, G1, d1, G2, d2, rfl⟩ := ho5.parts; obtain ⟨hb5, hD5, hF5⟩ := HD.out.storeC HF.out ho5 hc5 hcb5; have kb5 := hb5.cell; have kf5 := hb5.free)
    have HD5 := Lib.hid hD5
    have HF5 := Lib.hid hF5
    have HI5 := Lib.hid hi5
    unfold set3 at HD5
    clear hb5 hD5 hF5 kb5 kf5 ho5 hc5 hcb5 hi5 kb HIN
    generalize ((w5.setCell ⟨w.heap.size, 0, none⟩ (.slice G0 N5.ends.length d0)).setCell ⟨w.heap.size, 1, none⟩ (.slice G1 N5.ids.length d1)).setCell ⟨w.heap.size, 2, none⟩ (.slice G2 N5.inputs.length d2) = w6 at *
    have hvd : vn < N5.ids.length := by have := HI5.out.2.2; omega
    have iv4 : (vn : Int) < (N5.ids.length : Int) := by omega
    have iv5 : (0 : Int) < (N5.ids.length : Int) := by omega
    have iv6 : 0 < N5.ids.length := by omega
    have HDR5 := Lib.hid (HDR.out.withIds HI5.out)
    obtain ⟨g1, cap1, he1, hgB1, hgl1, -, -⟩ := OwnI.addr HD5.out.parts.2.1 (by omega)
    simp only [Value.slice.injEq] at he1
    obtain ⟨rfl, -, rfl⟩ := he1
    have hat1 := (OwnI.at_ HD5.out.parts.2.1 rfl (j := 0) (by omega)).1
    have hS0 : (w6.drew).cell? ⟨w.heap.size, 1, none⟩ = some (.slice (some ⟨g1, 0, none⟩) N5.ids.length d1) ∧ (w6.drew).cell? ⟨g1, 0, none⟩ = some (.int .i64 (gi N5.ids 0)) := ⟨HD5.out.drew.bx.cell 1, hat1⟩
    have hzw : w4.heap.size ≤ g1 := hgB1
    refine wp_region_any (by kernel_rfl) ?_
    try (change wpAny _ _ _ _ _ _ _ (World.drew _))
    simp only [List.size_toArray, List.length_cons, List.length_nil, Array.replicate, List.replicate]
    refine wpAny_take (i := 0) (oi := _) (v := ?_) rfl (by kernel_rfl) (by kernel_rfl) (by kernel_rfl) (fun _ _ _ h => h) (Or.inl ⟨by rfl, ?_⟩) ?_
    case refine_2 => intro w0; go_simp; with_reducible rfl
    try simp only [Act.put, List.getElem_toArray, List.getElem_cons_zero, List.getElem_cons_succ, List.setIfInBounds_toArray, List.set_cons_zero, List.set_cons_succ]
    refine wpAny_take (i := 2) (oi := _) (v := ?_) rfl (by kernel_rfl) (by kernel_rfl) (by kernel_rfl) (fun _ _ _ h => h) (Or.inl ⟨by rfl, ?_⟩) ?_
    case refine_2 => intro w0; go_simp; with_reducible rfl
    try simp only [Act.put, List.getElem_toArray, List.getElem_cons_zero, List.getElem_cons_succ, List.setIfInBounds_toArray, List.set_cons_zero, List.set_cons_succ]
    refine wpAny_take (i := 3) (oi := _) (v := ?_) rfl (by kernel_rfl) (by kernel_rfl) (by kernel_rfl) (fun _ _ _ h => h) (Or.inl ⟨by rfl, ?_⟩) ?_
    case refine_2 => intro w0; go_simp; with_reducible rfl
    try simp only [Act.put, List.getElem_toArray, List.getElem_cons_zero, List.getElem_cons_succ, List.setIfInBounds_toArray, List.set_cons_zero, List.set_cons_succ]
    refine wpAny_take (i := 4) (oi := _) (v := ?_) rfl (by kernel_rfl) (by kernel_rfl) (by kernel_rfl) (fun _ _ _ h => h) (Or.inl ⟨by rfl, ?_⟩) ?_
    case refine_2 => intro w0; go_simp; with_reducible rfl
    try simp only [Act.put, List.getElem_toArray, List.getElem_cons_zero, List.getElem_cons_succ, List.setIfInBounds_toArray, List.set_cons_zero, List.set_cons_succ]
    refine wpAny_of_P (S := fun W => W.cell? ⟨w.heap.size, 1, none⟩ = some (.slice (some ⟨g1, 0, none⟩) N5.ids.length d1) ∧ W.cell? ⟨g1, 0, none⟩ = some (.int .i64 (gi N5.ids 0))) (n1 := 10) _ _ _ _ ?_
    refine wpAnyP_take (i := 1) (oi := _) (v := ?_) rfl (by kernel_rfl) (by kernel_rfl) (by kernel_rfl) (by omega) (by kernel_rfl) (fun _ _ _ h => h) (Or.inl ⟨by rfl, ?_⟩) (hS0) ?_
    case refine_2 => intro w0 hS0; obtain ⟨h0, h1⟩ := hS0; go_simp; try with_reducible rfl
    try simp only [Act.put, List.getElem_toArray, List.getElem_cons_zero, List.getElem_cons_succ, List.setIfInBounds_toArray, List.set_cons_zero, List.set_cons_succ]
    refine wpAnyP_take (i := 5) (oi := _) (v := ?_) rfl (by kernel_rfl) (by kernel_rfl) (by kernel_rfl) (by omega) (by kernel_rfl) (fun _ _ _ h => h) (Or.inl ⟨by rfl, ?_⟩) (hS0) ?_
    case refine_2 => intro w0 hS0; obtain ⟨h0, h1⟩ := hS0; go_simp; try with_reducible rfl
    try simp only [Act.put, List.getElem_toArray, List.getElem_cons_zero, List.getElem_cons_succ, List.setIfInBounds_toArray, List.set_cons_zero, List.set_cons_succ]
    refine wpAnyP_take (i := 6) (oi := _) (v := ?_) rfl (by kernel_rfl) (by kernel_rfl) (by kernel_rfl) (by omega) (by kernel_rfl) (fun _ _ _ h => h) (Or.inl ⟨by rfl, ?_⟩) (hS0) ?_
    case refine_2 => intro w0 hS0; obtain ⟨h0, h1⟩ := hS0; go_simp; try with_reducible rfl
    try simp only [Act.put, List.getElem_toArray, List.getElem_cons_zero, List.getElem_cons_succ, List.setIfInBounds_toArray, List.set_cons_zero, List.set_cons_succ]
    refine wpAnyP_take (i := 7) (oi := _) (v := ?_) rfl (by kernel_rfl) (by kernel_rfl) (by kernel_rfl) (by omega) (by kernel_rfl) (fun _ _ _ h => h) (Or.inl ⟨by rfl, ?_⟩) (hS0) ?_
    case refine_2 => intro w0 hS0; obtain ⟨h0, h1⟩ := hS0; go_simp; try with_reducible rfl
    try simp only [Act.put, List.getElem_toArray, List.getElem_cons_zero, List.getElem_cons_succ, List.setIfInBounds_toArray, List.set_cons_zero, List.set_cons_succ]
    refine wpAnyP_ready (rs := [8]) (by kernel_rfl) (by simp) (by kernel_rfl) (AllReadyP.cons (o := _) rfl (fun K hK => ?_) AllReadyP.nil)
    go_simp
    refine hK.out _ _ (⟨(HD5.out.drew.alloc _).bx.cell 1, ((((Below.refl _ w6).drew).alloc (by simp) _).cell (p := ⟨g1, 0, none⟩) hgl1).trans hat1⟩) (fun _ => ?_)
    clear hK K
    try simp only [Act.put, List.getElem_toArray, List.getElem_cons_zero, List.getElem_cons_succ, List.setIfInBounds_toArray, List.set_cons_zero, List.set_cons_succ]
    refine wpAnyP_ready (rs := [9]) (by kernel_rfl) (by simp) (by kernel_rfl) (AllReadyP.cons (o := _) rfl (fun K hK => ?_) AllReadyP.nil)
    go_simp
    go_wp2_with (go_at_call 87; refine (among_any _ gc cv L (A + 4 + 4194304) _ [0, 1, 999999, 1000000, gi N5.ids 0] (HD5.out.drew.alloc _).cu (by omega) (IntsR.built w6.drew 3 [0, 1, 999999, 1000000, gi N5.ids 0] (by simp)) (by have := HF.out.gcl; have := HD5.out.wsz; rintro b rfl; simp; omega) (by simp) (by simp)).mono ?_; rintro e w7 ⟨q, rfl, -, hc7, hg7⟩; have HD7 := Lib.hid ((HD5.out.drew.alloc _).grown HF5.out hg7 hc7); have hat7 := OwnI.at_ HD7.out.parts.2.1 rfl (j := 0) (by omega); have hS7 : w7.cell? ⟨w.heap.size, 1, none⟩ = some (.slice (some ⟨g1, 0, none⟩) N5.ids.length d1) ∧ w7.cell? ⟨g1, 0, none⟩ = some (.int .i64 (gi N5.ids 0)) := ⟨HD7.out.bx.cell 1, hat7.1⟩; have hat8 := OwnI.at_ HD7.out.parts.2.1 rfl (j := vn) hvd; have hc8 := hat8.1; have hf8 := hat8.2)
    refine hK.out _ _ (hS7) (fun _ => ?_)
    clear hK K
    try simp only [Act.put, List.getElem_toArray, List.getElem_cons_zero, List.getElem_cons_succ, List.setIfInBounds_toArray, List.set_cons_zero, List.set_cons_succ]
    refine wpAnyP_go (by kernel_rfl) ?_
    refine wpAny_take (i := 10) (oi := _) (v := ?_) rfl (by kernel_rfl) (by kernel_rfl) (by kernel_rfl) (fun _ _ _ h => h) (Or.inl ⟨by rfl, ?_⟩) ?_
    case refine_2 => intro w0; go_simp; with_reducible rfl
    try simp only [Act.put, List.getElem_toArray, List.getElem_cons_zero, List.getElem_cons_succ, List.setIfInBounds_toArray, List.set_cons_zero, List.set_cons_succ]
    refine wpAny_ready (rs := [11]) (by kernel_rfl) (by simp) (AllReady.cons (o := _) rfl (fun K hK => ?_) AllReady.nil)
    go_simp
    refine hK _ _ ?_
    clear hK K
    refine wpAny_done (by kernel_rfl) ?_ _
    have HDe := Lib.hid (HD7.out.putId (j := vn) HF5.out q)
    clear hS0 hS7 hc7 hg7 hc8 hf8 hat7 hat8 hat1
    obtain ⟨q1, q2, q3, q4⟩ := HDe.out.done HF5.out
    have HQ := Lib.hid (And.intro q2 (And.intro q3 q4))
    have hfin := q1
    have kr := HDe.out.re.cell
    have fr := HDe.out.re.free
    have kb := HDe.out.bx.cell
    clear q1 q2 q3 q4
    go_wp2_with fail
    unfold set3 at hfin
    exact bodyPost_ret (v := .agg #[.slice G0 N5.ends.length d0, .slice (some ⟨g1, 0, none⟩) N5.ids.length d1, .slice G2 N5.inputs.length d2]) (by simp [results, Tryz.results157, go_sem, hfin]) rfl ⟨_, _, rfl, HQ.out.1, Tame.mk (by have := HDR5.out.len; simp; omega) (fun a => by have := HDR5.out.deg a; simp; omega) (by have := HDR5.out.ids; simp; omega) (by have := HDR5.out.ins; have := HDR5.out.len; simp; omega), HQ.out.2.1.mono (by omega), HQ.out.2.2⟩
  · have HDa : Hid (DS w gc cv L (A + 4) wz.heap.size w.heap.size (w.heap.size + 1) (.slice E0 N.ends.length e0) (.slice E1 N.ids.length e1) (.slice E2 N.inputs.length e2) N (w4.alloc (.cells #[.int .i64 5] 3))) := Lib.hid (HD.out.alloc _)
    have ho := OwnI.built w4 wz.heap.size [5] hzz (by simp)
    have ha := HD.out.parts.2.2.1.apartNew 1 1
    have HDe : Hid (DS w gc cv L (A + 4) wz.heap.size w.heap.size (w.heap.size + 1) (.slice E0 N.ends.length e0) (.slice (some ⟨w4.heap.size, 0, none⟩) 1 1) (.slice E2 N.inputs.length e2) { N with ids := [5] } ((w4.alloc (.cells #[.int .i64 5] 3)).setCell ⟨w.heap.size, 1, none⟩ (.slice (some ⟨w4.heap.size, 0, none⟩) 1 1))) := Lib.hid (HDa.out.setY HF.out ho ha)
    have kba := HDa.out.bx.cell
    have kfa := HDa.out.bx.free
    clear ho ha
    go_upto_region 29 with fail
    clear kba kfa kb
    obtain ⟨q1, q2, q3, q4⟩ := HDe.out.done HF.out
    have HQ := Lib.hid (And.intro q2 (And.intro q3 q4))
    have hfin := q1
    have kr := HDe.out.re.cell
    have fr := HDe.out.re.free
    have kb := HDe.out.bx.cell
    clear q1 q2 q3 q4
    go_wp2_with fail
    unfold set3 at hfin
    exact bodyPost_ret (v := .agg #[.slice E0 N.ends.length e0, .slice (some ⟨w4.heap.size, 0, none⟩) 1 1, .slice E2 N.inputs.length e2]) (by simp [results, Tryz.results157, go_sem, hfin]) rfl ⟨_, _, rfl, HQ.out.1, Tame.mk (by have := HDR.out.len; simp; omega) (fun a => by have := HDR.out.deg a; simp; omega) (by simp) (by have := HDR.out.ins; have := HDR.out.len; simp; omega), HQ.out.2.1.mono (by omega), HQ.out.2.2⟩
  · clear kb
    have HD0 : Hid (DS w gc cv L (A + 4 + 2 * N.ends.length) wz.heap.size w.heap.size (w.heap.size + 1) (.slice E0 N.ends.length e0) (.slice E1 N.ids.length e1) (.slice E2 N.ends.length e2) N w4) := Lib.hid (by have h := HD.out; rw [HNI.out] at h; exact h.mono (by omega))
    have HN41 : Hid (N.ends.length + (41 - N.ends.length) = 41) := Lib.hid (by omega)
    have HNN : Hid (Hid.out HNI = Hid.out HNI) := Lib.hid rfl
    clear HNN
    go_upto_region 23 with fail
    go_loopg [] (41 - N.ends.length) (fun k W => ∃ (es : List (List (Int × Int))) (ins : List Int) (F0 F2 : Option Addr) (f0 f2 : Nat), es.length + k = 41 ∧ ins.length = es.length ∧ (∀ a, dg es a ≤ 500) ∧ DS w gc cv L (A + 4 + 2 * es.length) wz.heap.size w.heap.size (w.heap.size + 1) (.slice F0 es.length f0) (.slice E1 N.ids.length e1) (.slice F2 es.length f2) { N with ends := es, inputs := ins } W)
    case atStart => exact ⟨N.ends, N.inputs, E0, E2, e0, e2, HN41.out, HNI.out, HDR.out.deg, HD0.out⟩
    case round =>
      clear HD HD0 hzz
      obtain ⟨es, ins, F0, F2, f0, f2, hk41, hil, hdg, hd⟩ := hrel
      obtain ⟨wr2, rfl⟩ : ∃ wr2, wr2 = wr := ⟨_, rfl⟩
      have HDw := Lib.hid hd
      have HIL := Lib.hid hil
      have HDG := Lib.hid hdg
      obtain ⟨el, hel⟩ : ∃ el, el = es.length := ⟨_, rfl⟩
      have HEL := Lib.hid hel
      rw [← hel] at HDw hk41
      clear hd hil hdg hel
      have hS0 : (wr2.drew).cell? ⟨w.heap.size, 0, none⟩ = some (.slice F0 el f0) := HDw.out.drew.bx.cell 0
      go_upto_region 23 with fail
      refine wp_region_any (by kernel_rfl) ?_
      try (change wpAny _ _ _ _ _ _ _ (World.drew _))
      simp only [List.size_toArray, List.length_cons, List.length_nil, Array.replicate, List.replicate]
      refine wpAny_take (i := 0) (oi := _) (v := ?_) rfl (by kernel_rfl) (by kernel_rfl) (by kernel_rfl) (fun _ _ _ h => h) (Or.inl ⟨by rfl, ?_⟩) ?_
      case refine_2 => intro w0; go_simp; with_reducible rfl
      try simp only [Act.put, List.getElem_toArray, List.getElem_cons_zero, List.getElem_cons_succ, List.setIfInBounds_toArray, List.set_cons_zero, List.set_cons_succ]
      refine wpAny_take (i := 3) (oi := _) (v := ?_) rfl (by kernel_rfl) (by kernel_rfl) (by kernel_rfl) (fun _ _ _ h => h) (Or.inl ⟨by rfl, ?_⟩) ?_
      case refine_2 => intro w0; go_simp; with_reducible rfl
      try simp only [Act.put, List.getElem_toArray, List.getElem_cons_zero, List.getElem_cons_succ, List.setIfInBounds_toArray, List.set_cons_zero, List.set_cons_succ]
      refine wpAny_of_P (S := fun W => W.cell? ⟨w.heap.size, 0, none⟩ = some (.slice F0 el f0)) (n1 := 7) _ _ _ _ ?_
      refine wpAnyP_take (i := 1) (oi := _) (v := ?_) rfl (by kernel_rfl) (by kernel_rfl) (by kernel_rfl) (by omega) (by kernel_rfl) (fun _ _ _ h => h) (Or.inl ⟨by rfl, ?_⟩) (hS0) ?_
      case refine_2 => intro w0 hS0; obtain h0 := hS0; go_simp; try with_reducible rfl
      try simp only [Act.put, List.getElem_toArray, List.getElem_cons_zero, List.getElem_cons_succ, List.setIfInBounds_toArray, List.set_cons_zero, List.set_cons_succ]
      refine wpAnyP_take (i := 2) (oi := _) (v := ?_) rfl (by kernel_rfl) (by kernel_rfl) (by kernel_rfl) (by omega) (by kernel_rfl) (fun _ _ _ h => h) (Or.inl ⟨by rfl, ?_⟩) (hS0) ?_
      case refine_2 => intro w0 hS0; obtain h0 := hS0; go_simp; try with_reducible rfl
      try simp only [Act.put, List.getElem_toArray, List.getElem_cons_zero, List.getElem_cons_succ, List.setIfInBounds_toArray, List.set_cons_zero, List.set_cons_succ]
      refine wpAnyP_ready (rs := [4]) (by kernel_rfl) (by simp) (by kernel_rfl) (AllReadyP.cons (o := _) rfl (fun K hK => ?_) AllReadyP.nil)
      go_simp
      go_wp2_with (go_at_call 63; go_loud (refine (pick_any _ gc cv L (A + 4 + 2 * el) 2 HDw.out.drew.cu (by omega)).mono ?_; rintro e w7 ⟨q, rfl, hpq, hc7, hg7⟩; have HD7 := Lib.hid (HDw.out.drew.grown HF.out hg7 hc7); have hS7 : w7.cell? ⟨w.heap.size, 0, none⟩ = some (.slice F0 el f0) := HD7.out.bx.cell 0))
      refine hK.out _ _ (hS7) (fun _ => ?_)
      clear hK K
      try simp only [Act.put, List.getElem_toArray, List.getElem_cons_zero, List.getElem_cons_succ, List.setIfInBounds_toArray, List.set_cons_zero, List.set_cons_succ]
      refine wpAnyP_take (i := 5) (oi := _) (v := ?_) rfl (by kernel_rfl) (by kernel_rfl) (by kernel_rfl) (by omega) (by kernel_rfl) (fun _ _ _ h => h) (Or.inl ⟨by rfl, ?_⟩) (hS7) ?_
      case refine_2 => intro w0 hS0; obtain h0 := hS0; go_simp; try with_reducible rfl
      try simp only [Act.put, List.getElem_toArray, List.getElem_cons_zero, List.getElem_cons_succ, List.setIfInBounds_toArray, List.set_cons_zero, List.set_cons_succ]
      refine wpAnyP_take (i := 6) (oi := _) (v := ?_) rfl (by kernel_rfl) (by kernel_rfl) (by kernel_rfl) (by omega) (by kernel_rfl) (fun _ _ _ h => h) (Or.inl ⟨by rfl, ?_⟩) (hS7) ?_
      case refine_2 => intro w0 hS0; obtain h0 := hS0; go_simp; try with_reducible rfl
      try simp only [Act.put, List.getElem_toArray, List.getElem_cons_zero, List.getElem_cons_succ, List.setIfInBounds_toArray, List.set_cons_zero, List.set_cons_succ]
      refine wpAnyP_go (by kernel_rfl) (wpAny_done (by kernel_rfl) ?_ _)
      have hq1 := hpq.1
      have hq2 := hpq.2.2
      clear hpq hS0
      have HWQ : Hid (IntKind.i64.wrap (40 + q) = 40 + q) := Lib.hid (by rw [IntWalk.i64_in _ (by omega)])
      rw [HWQ.out]
      clear HWQ hS7 hc7 hg7 HDw
      have hwz7 : wz.heap.size ≤ w7.heap.size := by have := HD7.out.re.lt; omega
      by_cases hcond : (el : Int) < 40 + q
      · have hpe7 := HD7.out.parts.1
        simp only at hpe7
        obtain ⟨us7, hrow7, hinn7, hdis7⟩ := hpe7
        have HROW := Lib.hid hrow7
        have HINN := Lib.hid hinn7
        have HDIS := Lib.hid hdis7
        have HROWE : Hid (w7.ownsRow wz.heap.size 36 1 (.slice F0 el f0) el ((List.range el).map us7)) := Lib.hid (by have h := HROW.out; rwa [← HEL.out] at h)
        clear hrow7 hinn7 hdis7
        have kb7 := HD7.out.bx.cell
        have kf7 := HD7.out.bx.free
        go_upto_region 25 with (at_builtin; refine wpList_append_slice _ rfl (.tmp 133) (.tmp 134) rfl wz.heap.size (.slice F0 el f0) el ((List.range el).map us7) rfl (World.ownsRow.alloc HROWE.out _) w7.heap.size none 0 0 rfl (Blk.new w7 _ _) (by omega) (by simp; omega) ?_; intro A8 c8 w8 ho8 hg8 hl8; have hk8 : KeptBut 36 w7 w8 := (KeptBut.of_below ((Below.refl _ w7).alloc (Nat.le_refl _) _)).trans (KeptBut.of_grown hg8 (rowType (World.ownsRow.alloc HROWE.out _))); have hbx8 := (hk8 _ _ _ _ HD7.out.bx (by decide)).trans HD7.out.bx; have kb8 := Blk.cell hbx8; have kf8 := Blk.free hbx8)
        have HD9 := Lib.hid (DS.pushRow (N := { N with ends := es, inputs := ins }) HD7.out HF.out HEL.out.symm ((Below.refl _ w7).alloc (Nat.le_refl _) _) HROW.out HINN.out HDIS.out ho8 hg8)
        clear hk8 hbx8 kb8 kf8 ho8 hg8 hl8 HROW HINN HDIS HROWE kb7 kf7
        generalize w8.setCell ⟨w.heap.size, 0, none⟩ (.slice A8 (el + 1) c8) = w9 at *
        have hwz9 : wz.heap.size ≤ w9.heap.size := by have := HD9.out.re.lt; omega
        have hil : ins.length = el := by rw [HIL.out, HEL.out]
        have HZ9 : Hid (OwnI w9 wz.heap.size (.slice F2 el f2) ins) := Lib.hid HD9.out.parts.2.2.1
        have hel2 : es.length = ins.length := HIL.out.symm
        subst hil
        have HEL2 := Lib.hid hel2
        clear hel2
        have kb9 := HD9.out.bx.cell
        have kf9 := HD9.out.bx.free
        go_wp2_with (at_builtin; refine wpList_append_intsL _ rfl (.tmp 138) (.tmp 139) rfl wz.heap.size (.slice F2 ins.length f2) ins rfl (HD9.out.alloc _).parts.2.2.1 _ [0] rfl (IntsR.built _ _ [0] (by simp)) (by simp; omega) (by simp; omega) ?_; intro A1 c1 w10 ho hg hl; have hbx1 := ((KeptBut.of_grown hg (rowType (HD9.out.alloc _).parts.2.2.1)) _ _ _ _ (HD9.out.alloc _).bx (by decide)).trans (HD9.out.alloc _).bx; have kb1 := Blk.cell hbx1; have kf1 := Blk.free hbx1)
        have HDe := Lib.hid (DS.appZ (N := { N with ends := es ++ [[]], inputs := ins }) (A2 := F2) (c2 := f2) (HD9.out.alloc _) HF.out ho hg hl)
        clear hbx1 kb1 kf1 ho hg hl kb9 kf9
        go_roundg (gk - 1)
        case measure => omega
        case rel => exact ⟨es ++ [[]], ins ++ [0], A8, A1, c8, c1, by simp; have := HEL2.out; omega, by simp; exact HEL2.out.symm, fun a => by rw [dg_snoc]; exact HDG.out a, by rw [show (es ++ [([] : List (Int × Int))]).length = ins.length + 1 by simp; exact HEL2.out]; exact HDe.out.mono (by omega)⟩
      · have kb7 := HD7.out.bx.cell
        have kf7 := HD7.out.bx.free
        have HDe := Lib.hid (HD7.out.setY HF.out (y' := .slice none 0 0) (ids' := []) (World.ownsRow_nil _ _ _ _) (fun g h => by cases h))
        have hlen : es.length ≤ 64 := by have := HEL.out; omega
        have hinl : ins.length ≤ 64 := by have := HIL.out; omega
        have HLN := Lib.hid hlen
        have HIN := Lib.hid hinl
        clear hlen hinl
        go_upto_region 29 with fail
        clear kb7 kf7
        obtain ⟨q1, q2, q3, q4⟩ := HDe.out.done HF.out
        have HQ := Lib.hid (And.intro q2 (And.intro q3 q4))
        have hfin := q1
        have kr := HDe.out.re.cell
        have fr := HDe.out.re.free
        have kb := HDe.out.bx.cell
        clear q1 q2 q3 q4
        go_wp2_with fail
        unfold set3 at hfin
        exact bodyPost_ret (v := .agg #[.slice F0 el f0, .slice none 0 0, .slice F2 el f2]) (by simp [results, Tryz.results157, go_sem, hfin]) rfl ⟨_, _, rfl, HQ.out.1, Tame.mk HLN.out (fun a => by have := HDG.out a; simp; omega) (by simp) HIN.out, HQ.out.2.1.mono (by omega), HQ.out.2.2⟩
  · have kr := HD.out.re.cell
    have fr := HD.out.re.free
    have hfin := (set3_blk (x := .slice none 0 0) (y := .slice none 0 0) (z := .slice none 0 0) HD.out.re).cell
    have h2 := HF.out.rl
    have HCe := Lib.hid (((HD.out.cu.above HF.out.far HF.out.gcl (p := ⟨w.heap.size + 1, 0, none⟩) h2 (.slice none 0 0)).above HF.out.far HF.out.gcl (p := ⟨w.heap.size + 1, 1, none⟩) h2 (.slice none 0 0)).above HF.out.far HF.out.gcl (p := ⟨w.heap.size + 1, 2, none⟩) h2 (.slice none 0 0))
    have HBe := Lib.hid (((HD.out.cb.setCell (p := ⟨w.heap.size + 1, 0, none⟩) h2 (.slice none 0 0)).setCell (p := ⟨w.heap.size + 1, 1, none⟩) h2 (.slice none 0 0)).setCell (p := ⟨w.heap.size + 1, 2, none⟩) h2 (.slice none 0 0))
    clear kb
    go_wp2_with fail
    unfold set3 at hfin
    exact bodyPost_ret (v := .agg #[.slice none 0 0, .slice none 0 0, .slice none 0 0]) (by simp [results, Tryz.results157, go_sem, hfin]) rfl ⟨_, ⟨[], [], []⟩, rfl, ⟨_, _, _, rfl, OwnEs.nil, World.ownsRow_nil _ _ _ _, World.ownsRow_nil _ _ _ _, fun g h => by cases h⟩, ⟨by simp, fun a => by simp [dg, gl], by simp, by simp⟩, HCe.out.mono (by omega), HBe.out⟩
  · have hne0 : ((x0 : Int) == 0) = false := by rw [beq_eq_false_iff_ne]; omega
    have hne1 : ((x0 : Int) == 1) = false := by rw [beq_eq_false_iff_ne]; omega
    have hne2 : ((x0 : Int) == 2) = false := by rw [beq_eq_false_iff_ne]; omega
    have hne3 : ((x0 : Int) == 3) = false := by rw [beq_eq_false_iff_ne]; omega
    have hne4 : ((x0 : Int) == 4) = false := by rw [beq_eq_false_iff_ne]; omega
    have hne5 : ((x0 : Int) == 5) = false := by rw [beq_eq_false_iff_ne]; omega
    have hne6 : ((x0 : Int) == 6) = false := by rw [beq_eq_false_iff_ne]; omega
    have hne7 : ((x0 : Int) == 7) = false := by rw [beq_eq_false_iff_ne]; omega
    have hne8 : ((x0 : Int) == 8) = false := by rw [beq_eq_false_iff_ne]; omega
    clear kb
    obtain ⟨q1, q2, q3, q4⟩ := HD.out.done HF.out
    have HQ := Lib.hid (And.intro q2 (And.intro q3 q4))
    have hfin := q1
    have kr := HD.out.re.cell
    have fr := HD.out.re.free
    have kb := HD.out.bx.cell
    clear q1 q2 q3 q4
    go_wp2_with fail
    unfold set3 at hfin
    exact bodyPost_ret (v := .agg #[.slice E0 N.ends.length e0, .slice E1 N.ids.length e1, .slice E2 N.inputs.length e2]) (by simp [results, Tryz.results157, go_sem, hfin]) rfl ⟨_, _, rfl, HQ.out.1, HDR.out.tame (by omega) (by omega), HQ.out.2.1.mono (by omega), HQ.out.2.2⟩
end Go.Proofs.YtljjbhihllnnaaaGreat
