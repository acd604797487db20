/- The law FnViewTexts. Printed by gen_lvt.py. -/
import Derived.Test.YtljjbhihllnnaaaGreatCJn43
import Derived.Test.YtljjbhihllnnaaaGreatCJn25
import Derived.Test.YtljjbhihllnnaaaGreatCJn3
import Derived.Test.YtljjbhihllnnaaaGreatCJn34
import Derived.Test.YtljjbhihllnnaaaGreatCDiv
import Derived.Deep.DeepCutAuto
namespace Go.Proofs.YtljjbhihllnnaaaGreat
open Go.RowKit
attribute [local go_sem] BW.cell BW.frozen

set_option maxRecDepth 100000 in
set_option maxHeartbeats 8000000 in
theorem lawViewTexts (c0 c1 : Value) (L0 L1 : Nat) (w : World) (h0 : BytR w c0 L0) (h1 : BytR w c1 L1) :
    Calls Tryz.prog 3 #[c0, c1] w (RetV w (.bool true)) := by
  have HH0 := Lib.hid h0
  have HH1 := Lib.hid h1
  obtain ⟨Aa, ca, rfl, hl0, -⟩ := h0
  obtain ⟨Ab, cb, rfl, hl1, -⟩ := h1
  have HBR := Lib.hid (Below.refl w.heap.size w)
  have CB := Lib.hid (big_any Aa Ab L0 L1 ca cb w hl0 hl1)
  obtain ⟨gb, hgb⟩ : ∃ gb, gb = decide (1048576 < L0 ∨ 1048576 < L0 + L1) := ⟨_, rfl⟩
  rw [← hgb] at CB
  have HGB := Lib.hid hgb
  clear hgb
  cases gb with
  | true =>
    go_enter Tryz.func3, Tryz.ntmps3
    go_wp2_with (go_at_call 6; refine CB.out.mono ?_; rintro e w1 ⟨rfl, rfl⟩)
    exact bodyPost_ret (v := .bool true) (by simp [results, Tryz.results3, go_sem]) rfl ⟨rfl, HBR.out⟩
  | false =>
    have hn : ¬ (1048576 < L0 ∨ 1048576 < L0 + L1) := by
      have := HGB.out
      simpa using this.symm
    have HC0 := Lib.hid (HH0.out.code (by omega))
    have HC1 := Lib.hid (HH1.out.code (by omega))
    clear HH0 HH1 HGB hl0 hl1 hn
    go_enter Tryz.func3, Tryz.ntmps3
    go_upto_region 3 with (go_at_call 6; refine CB.out.mono ?_; rintro e w1 ⟨rfl, rfl⟩)
    clear CB
    have HB := HBR
    clear HBR
    go_upto_region 4 with (go_at_call 7; refine (DrawViewText_any _ _ _ HC0.out).mono ?_; rintro e w1 ⟨v1, N, x, y, rfl, ho1, ht1, hb1⟩; obtain ⟨E0, E0', E1, E1', E2, E2', rfl⟩ := ho1.parts)
    have HNR0 := Lib.hid (ho1.net (S := fun _ => True) (fun _ _ _ => trivial))
    have HS := Lib.hid ht1.small
    have hzw1 := hb1.size
    have hal : Below w.heap.size w (w1.alloc (.cells #[.slice E0 N.ends.length E0', .slice E1 N.ids.length E1', .slice E2 N.inputs.length E2'] 27)) := hb1.alloc hzw1 _
    have H5n := Lib.hid (Blk.new w1 27 #[.slice E0 N.ends.length E0', .slice E1 N.ids.length E1', .slice E2 N.inputs.length E2'])
    have HN := Lib.hid ((HNR0.out).below ((Below.refl w1.heap.size w1).alloc (Nat.le_refl _) (.cells #[.slice E0 N.ends.length E0', .slice E1 N.ids.length E1', .slice E2 N.inputs.length E2'] 27)))
    have HBx := Lib.hid (Below.then_ HB.out hal)
    clear  HB
    have HB := HBx
    clear HBx
    obtain ⟨g5, hg5⟩ : ∃ g, g = w1.heap.size := ⟨_, rfl⟩
    rw [← hg5] at H5n ⊢
    have H5 := H5n
    clear H5n hal
    generalize w1.alloc (.cells #[.slice E0 N.ends.length E0', .slice E1 N.ids.length E1', .slice E2 N.inputs.length E2'] 27) = W1 at *
    clear hg5 HNR0 ho1 ht1 hb1 hzw1
    obtain ⟨s, hs⟩ : ∃ s, s = vwS N x y := ⟨_, rfl⟩
    obtain ⟨ok, hok⟩ : ∃ ok, ok = vwB N x y := ⟨_, rfl⟩
    have CI := Lib.hid (fun W u (h : NetR W (fun _ => True) u N) => ViewText_all u N x y W h HS.out)
    have CP := Lib.hid (fun W u (h : NetR W (fun _ => True) u N) => specViewText_all u N x y W h HS.out)
    rw [← hs, ← hok] at CI CP
    have HK := Lib.hid (And.intro hs hok)
    clear hs hok
    have k5 := H5.out.cell
    go_upto_region 5 with (go_at_call 8; refine (CI.out _ _ HN.out).mono ?_; rintro e w2 ⟨rfl, hb⟩)
    clear k5
    have H5x := Lib.hid (H5.out.below hb)
    have HNx := Lib.hid (HN.out.below hb)
    have HBx := Lib.hid (Below.then_ HB.out hb)
    clear H5 HN HB
    have H5 := H5x
    have HN := HNx
    have HB := HBx
    clear H5x HNx HBx
    clear hb
    have k5 := H5.out.cell
    go_upto_region 6 with (go_at_call 9; refine (CP.out _ _ HN.out).mono ?_; rintro e w3 ⟨rfl, hb⟩)
    clear k5
    have H5x := Lib.hid (H5.out.below hb)
    have HNx := Lib.hid (HN.out.below hb)
    have HBx := Lib.hid (Below.then_ HB.out hb)
    clear H5 HN HB
    have H5 := H5x
    have HN := HNx
    have HB := HBx
    clear H5x HNx HBx
    clear hb
    clear CI CP
    go_upto_if 66 with fail
    go_cut [] (fun W => Below w.heap.size w W)
    case first => as_aux_lemma =>
      cases ok with
      | false =>
        go_wp2_with fail
        go_meet
        exact HB.out
      | true =>
        have hv := HK.out.2.symm
        obtain ⟨a, k, rfl, rfl, ha, hk, hg⟩ := vwOk_spec (by unfold vwB at hv; simp only [Bool.and_eq_true] at hv; exact hv.1)
        have hvw := vw_at hg ha hk
        have hl : (ntx N k a).length ≤ 4000 := by
          have := (vw_yes hvw).2
          rw [this] at hv
          simpa using hv
        have hs : s = strB (ntx N k a) := by rw [HK.out.1, (vw_yes hvw).1, vtx_short hl]
        have hsz : s.size ≤ 4000 := by rw [hs, strB_size]; exact hl
        have hn1 : 0 < N.ends.length := by omega
        have hn2 : N.ends.length ≤ 1000000 := by have := HS.out.1; omega
        have HG := Lib.hid hg
        have HL := Lib.hid hl
        have HSE := Lib.hid hs
        clear hg hl hv hvw hs HK
        go_upto_region 9 with fail
        obtain ⟨xr, hxr, hno⟩ := numberOf_det (HC1.out.below HB.out)
        have CNO := Lib.hid hno
        clear hno
        have hS3 : (w3.drew).cell? ⟨g5, 0, none⟩ = some (.slice E0 N.ends.length E0') := by simpa using H5.out.cell 0
        have hnz : ¬ N.ends = [] := by intro e; rw [e] at hn1; simp at hn1
        obtain ⟨b, hb⟩ : ∃ b, b = xr % N.ends.length := ⟨_, rfl⟩
        have hbl : b < N.ends.length := by rw [hb]; exact Nat.mod_lt _ hn1
        have hmod : (xr : Int).tmod (N.ends.length : Int) = (b : Int) := by rw [hb, Int.tmod_eq_emod_of_nonneg (by omega), Int.natCast_emod]
        have hmw : IntKind.i64.wrap (b : Int) = (b : Int) := IntWalk.i64_in _ (by omega)
        clear hb
        go_cut [12] (fun x12 W => x12 = .int .i64 (b : Nat) ∧ W = w3.drew)
        case first => as_aux_lemma =>
          refine wp_region_any (by kernel_rfl) ?_
          try (change wpAny _ _ _ _ _ _ _ (World.drew _))
          simp only [List.size_toArray, List.length_cons, List.length_nil, Array.replicate, List.replicate]
          refine wpAny_take (i := 0) (oi := _) (v := ?_) rfl (by kernel_rfl) (by kernel_rfl) (by kernel_rfl) (fun _ _ _ h => h) (Or.inl ⟨by rfl, ?_⟩) ?_
          case refine_2 => intro w0; go_simp; with_reducible rfl
          try simp only [Act.put, List.getElem_toArray, List.getElem_cons_zero, List.getElem_cons_succ, List.setIfInBounds_toArray, List.set_cons_zero, List.set_cons_succ]
          refine wpAny_take (i := 2) (oi := _) (v := ?_) rfl (by kernel_rfl) (by kernel_rfl) (by kernel_rfl) (fun _ _ _ h => h) (Or.inl ⟨by rfl, ?_⟩) ?_
          case refine_2 => intro w0; go_simp; with_reducible rfl
          try simp only [Act.put, List.getElem_toArray, List.getElem_cons_zero, List.getElem_cons_succ, List.setIfInBounds_toArray, List.set_cons_zero, List.set_cons_succ]
          refine wpAny_of_P (S := fun W => W.cell? ⟨g5, 0, none⟩ = some (.slice E0 N.ends.length E0')) (n1 := 7) _ _ _ _ ?_
          refine wpAnyP_take (i := 3) (oi := _) (v := ?_) rfl (by kernel_rfl) (by kernel_rfl) (by kernel_rfl) (by omega) (by kernel_rfl) (fun _ _ _ h => h) (Or.inl ⟨by rfl, ?_⟩) (hS3) ?_
          case refine_2 => intro w0 hS0; obtain h0 := hS0; go_simp; try with_reducible rfl
          try simp only [Act.put, List.getElem_toArray, List.getElem_cons_zero, List.getElem_cons_succ, List.setIfInBounds_toArray, List.set_cons_zero, List.set_cons_succ]
          refine wpAnyP_take (i := 4) (oi := _) (v := ?_) rfl (by kernel_rfl) (by kernel_rfl) (by kernel_rfl) (by omega) (by kernel_rfl) (fun _ _ _ h => h) (Or.inl ⟨by rfl, ?_⟩) (hS3) ?_
          case refine_2 => intro w0 hS0; obtain h0 := hS0; go_simp; try with_reducible rfl
          try simp only [Act.put, List.getElem_toArray, List.getElem_cons_zero, List.getElem_cons_succ, List.setIfInBounds_toArray, List.set_cons_zero, List.set_cons_succ]
          refine wpAnyP_ready (rs := [1]) (by kernel_rfl) (by simp) (by kernel_rfl) (AllReadyP.cons (o := _) rfl (fun K hK => ?_) AllReadyP.nil)
          go_simp
          go_wp2_with (go_at_call 10; go_loud (refine (CNO.out _ (Below.refl _ _).drew).mono ?_; rintro e w4 ⟨rfl, rfl⟩))
          refine hK.out _ _ (hS3) (fun _ => ?_)
          clear hK K
          try simp only [Act.put, List.getElem_toArray, List.getElem_cons_zero, List.getElem_cons_succ, List.setIfInBounds_toArray, List.set_cons_zero, List.set_cons_succ]
          refine wpAnyP_take (i := 5) (oi := _) (v := ?_) rfl (by kernel_rfl) (by kernel_rfl) (by kernel_rfl) (by omega) (by kernel_rfl) (fun _ _ _ h => h) (Or.inl ⟨by rfl, ?_⟩) (hS3) ?_
          case refine_2 => intro w0 hS0; obtain h0 := hS0; go_simp; try with_reducible rfl
          try simp only [Act.put, List.getElem_toArray, List.getElem_cons_zero, List.getElem_cons_succ, List.setIfInBounds_toArray, List.set_cons_zero, List.set_cons_succ]
          refine wpAnyP_take (i := 6) (oi := _) (v := ?_) rfl (by kernel_rfl) (by kernel_rfl) (by kernel_rfl) (by omega) (by kernel_rfl) (fun _ _ _ h => h) (Or.inl ⟨by rfl, ?_⟩) (hS3) ?_
          case refine_2 => intro w0 hS0; obtain h0 := hS0; go_simp; try with_reducible rfl
          try simp only [Act.put, List.getElem_toArray, List.getElem_cons_zero, List.getElem_cons_succ, List.setIfInBounds_toArray, List.set_cons_zero, List.set_cons_succ]
          refine wpAnyP_go (by kernel_rfl) (wpAny_done (by kernel_rfl) ?_ _)
          go_wp2_with fail
          go_meet
          exact ⟨rfl, rfl⟩
        case rest => as_aux_lemma =>
        obtain ⟨rfl, hwc⟩ := hcut
        have hbd : Below w3.heap.size w3 w3.drew := (Below.refl _ _).drew
        rw [← hwc] at hbd
        have H5x := Lib.hid (H5.out.below hbd)
        have HNx := Lib.hid (HN.out.below hbd)
        have HBx := Lib.hid (Below.then_ HB.out hbd)
        clear H5 HN HB
        have H5 := H5x
        have HN := HNx
        have HB := HBx
        clear H5x HNx HBx
        clear hbd hwc CNO hmod hmw hnz hS3 hxr
        obtain ⟨s2, hs2⟩ : ∃ s, s = vwS N (b : Int) (k : Int) := ⟨_, rfl⟩
        obtain ⟨ok2, hok2⟩ : ∃ ok, ok = vwB N (b : Int) (k : Int) := ⟨_, rfl⟩
        obtain ⟨sm, hsm⟩ : ∃ sm, sm = decide (ntx N k a = ntx N k b) := ⟨_, rfl⟩
        have CI := Lib.hid (fun W u (h : NetR W (fun _ => True) u N) => ViewText_all u N b k W h HS.out)
        have CW := Lib.hid (fun W u u' (h : NetR W (fun _ => True) u N) (h' : NetR W (fun _ => True) u' N) => SameView_any u u' N N a b k W h h' HG.out HG.out HS.out HS.out ha hbl hk)
        rw [← hs2, ← hok2] at CI
        rw [← hsm] at CW
        have HK2 : Hid ((ok2 = true ∧ s2 = s ∧ sm = true) ∨ (ok2 = true ∧ s2 ≠ s ∧ sm = false) ∨ (ok2 = false ∧ sm = false)) := Lib.hid (by
          have hvw := vw_at HG.out hbl hk
          obtain ⟨e1, e2⟩ := vw_yes hvw
          rw [e1] at hs2
          rw [e2] at hok2
          rw [hok2, hsm, hs2, HSE.out]
          by_cases h1 : (ntx N k b).length ≤ 4000
          · rw [vtx_short h1]
            by_cases h2 : ntx N k a = ntx N k b
            · exact .inl ⟨decide_eq_true h1, by rw [h2], decide_eq_true h2⟩
            · exact .inr (.inl ⟨decide_eq_true h1, fun e => h2 (strB_inj e).symm, decide_eq_false h2⟩)
          · exact .inr (.inr ⟨decide_eq_false h1, decide_eq_false fun e => h1 (by rw [← e]; exact HL.out)⟩))
        clear hs2 hok2 hsm
        have k5 := H5.out.cell
        go_upto_region 11 with (go_at_call 8; refine (CI.out _ _ HN.out).mono ?_; rintro e w5 ⟨rfl, hb⟩)
        clear k5
        have H5x := Lib.hid (H5.out.below hb)
        have HNx := Lib.hid (HN.out.below hb)
        have HBx := Lib.hid (Below.then_ HB.out hb)
        clear H5 HN HB
        have H5 := H5x
        have HN := HNx
        have HB := HBx
        clear H5x HNx HBx
        clear hb
        have k5 := H5.out.cell
        go_upto_region 12 with (go_at_call 11; refine (CW.out _ _ _ HN.out HN.out).mono ?_; rintro e w6 ⟨rfl, hb⟩)
        clear k5
        have H5x := Lib.hid (H5.out.below hb)
        have HNx := Lib.hid (HN.out.below hb)
        have HBx := Lib.hid (Below.then_ HB.out hb)
        clear H5 HN HB
        have H5 := H5x
        have HN := HNx
        have HB := HBx
        clear H5x HNx HBx
        clear hb
        clear CI CW
        go_cut [107] (fun x107 W => x107 = .bool false ∧ W = w6)
        case first => as_aux_lemma =>
          rcases HK2.out with ⟨rfl, rfl, rfl⟩ | ⟨rfl, hne, rfl⟩ | ⟨rfl, rfl⟩
          · go_wp2_with fail
            go_meet
            exact ⟨rfl, rfl⟩
          · have hnt := toList_ne hne
            go_wp2_with fail
            go_meet
            exact ⟨by rw [beq_false_of_ne hnt], rfl⟩
          · go_wp2_with fail
            go_meet
            exact ⟨rfl, rfl⟩
        case rest => as_aux_lemma =>
        obtain ⟨rfl, hwc⟩ := hcut
        subst hwc
        obtain ⟨w6, hw6⟩ : ∃ V, V = wc := ⟨_, rfl⟩
        subst hw6
        clear HK2
        go_upto_if 109 with fail
        go_cut [] (fun W => Below w6.heap.size w6 W)
        case first => as_aux_lemma =>
          by_cases hk0 : k = 0
          · subst hk0
            go_wp2_with fail
            go_meet
            exact Below.refl _ _
          · obtain ⟨k, rfl⟩ : ∃ j, k = j + 1 := ⟨k - 1, by omega⟩
            clear hk0
            have hkk : (((k + 1 : Nat) : Int) - 1) = (k : Int) := by omega
            have hkg : (0 : Int) < ((k + 1 : Nat) : Int) := by omega
            have HLL := Lib.hid (less_len HG.out ha hk HL.out)
            have HBZ := Lib.hid (Below.refl w6.heap.size w6)
            obtain ⟨s3, hs3⟩ : ∃ s, s = strB (ntx N k a) := ⟨_, rfl⟩
            have CC := Lib.hid (cut_law HG.out ha hk HL.out)
            have CV := Lib.hid (fun W u (h : NetR W (fun _ => True) u N) => text_law u W h HS.out HG.out ha (by omega) HLL.out)
            rw [← hs3, ← HSE.out] at CC
            rw [← hs3] at CV
            clear hs3
            clear HB
            go_upto_region 15 with fail
            go_upto_region 16 with (go_at_call 12; refine (CC.out _).mono ?_; rintro e w7 ⟨rfl, hb⟩)
            have H5x := Lib.hid (H5.out.below hb)
            have HNx := Lib.hid (HN.out.below hb)
            have HBZx := Lib.hid (Below.then_ HBZ.out hb)
            clear H5 HN HBZ
            have H5 := H5x
            have HN := HNx
            have HBZ := HBZx
            clear H5x HNx HBZx
            clear hb
            have k5 := H5.out.cell
            go_upto_region 17 with (go_at_call 8; refine (CV.out _ _ HN.out).mono ?_; rintro e w8 ⟨rfl, hb⟩)
            clear k5
            have H5x := Lib.hid (H5.out.below hb)
            have HNx := Lib.hid (HN.out.below hb)
            have HBZx := Lib.hid (Below.then_ HBZ.out hb)
            clear H5 HN HBZ
            have H5 := H5x
            have HN := HNx
            have HBZ := HBZx
            clear H5x HNx HBZx
            clear hb
            clear CC CV
            go_upto_region 19 with fail
            obtain ⟨b5, o5, u5, rfl, hrow5, hre5⟩ := HN.out.rowE ha
            obtain ⟨dg, hdg⟩ : ∃ d, d = (gl N.ends a).length := ⟨_, rfl⟩
            have HRE := Lib.hid hre5
            obtain ⟨A5, c5, rfl, -, -, -⟩ := hre5
            rw [← hdg] at hrow5
            have hd6 : dg ≤ 6 := by have := (goodB_fine HG.out).deg a ha; unfold Go.Proofs.YtljjbhihllnnaaaGreat.dg at this; omega
            have HDG := Lib.hid hdg
            clear hdg
            have k5 := H5.out.cell
            have i1 : (0 : Int) ≤ (a : Int) := by omega
            have i2 : (a : Int) < (N.ends.length : Int) := by omega
            go_wp2_with fail
            clear k5 hrow5
            go_loopw [142] (fun x142 wr => ∃ i : Nat, i ≤ dg ∧ x142 = .int .i64 i ∧ Below w8.heap.size w8 wr) (fun x142 _ => dg - (intOf x142).toNat)
            case atStart => exact ⟨0, Nat.zero_le _, rfl, Below.refl _ _⟩
            case round =>
              obtain ⟨i, hi, rfl, hbel⟩ := hrel
              obtain ⟨wr2, rfl⟩ : ∃ wr2, wr2 = wr := ⟨_, rfl⟩
              by_cases hlt : i < dg
              · have HBL := Lib.hid (Below.refl w8.heap.size w8)
                clear HBZ
                have H5x := Lib.hid (H5.out.below hbel)
                have HNx := Lib.hid (HN.out.below hbel)
                have HREx := Lib.hid (HRE.out.below hbel)
                have HBLx := Lib.hid (Below.then_ HBL.out hbel)
                clear H5 HN HRE HBL
                have H5 := H5x
                have HN := HNx
                have HRE := HREx
                have HBL := HBLx
                clear H5x HNx HREx HBLx
                clear hbel
                obtain ⟨q, j, hgp, hq, hj5⟩ := ends_at HG.out ha (i := i) (by rw [← HDG.out]; exact hlt)
                obtain ⟨A6, c6, e6, -, -, hx6⟩ := HRE.out
                rw [← HDG.out] at e6 hx6
                simp only [Value.slice.injEq, true_and] at e6
                obtain ⟨rfl, rfl⟩ := e6
                obtain ⟨b6, o6, rfl, -, hc6⟩ := hx6 (by omega)
                obtain ⟨d1, d2⟩ := hc6 i hlt
                rw [hgp] at d1 d2
                have CCH := Lib.hid (fun W => child_law HG.out ha hk HL.out (i := i) (by rw [← HDG.out]; exact hlt) W)
                rw [hgp] at CCH
                simp only [Int.toNat_natCast] at CCH
                obtain ⟨s4, hs4⟩ : ∃ s, s = strB (ntx N k q) := ⟨_, rfl⟩
                have hlq := child_len (i := i) (by rw [← HDG.out]; exact hlt) HL.out
                rw [hgp] at hlq
                simp only [Int.toNat_natCast] at hlq
                have CV := Lib.hid (fun W u (h : NetR W (fun _ => True) u N) => text_law u W h HS.out HG.out hq (by omega) hlq)
                rw [← hs4, ← HSE.out] at CCH
                rw [← hs4] at CV
                have j1 : (0 : Int) ≤ (i : Int) := by omega
                have j2 : (i : Int) < (dg : Int) := by omega
                have hal : Below wr2.heap.size wr2 (wr2.alloc (.cells #[.int .i64 (q : Int), .int .i64 (j : Int)] 38)) := (Below.refl _ _).alloc (Nat.le_refl _) _
                have H22n := Lib.hid (Blk.new wr2 38 #[.int .i64 (q : Int), .int .i64 (j : Int)])
                clear hgp hs4 hlq hx6 hc6
                go_upto_region 22 with fail
                clear d1 d2
                have H5x := Lib.hid (H5.out.below hal)
                have HNx := Lib.hid (HN.out.below hal)
                have HREx := Lib.hid (HRE.out.below hal)
                have HBLx := Lib.hid (Below.then_ HBL.out hal)
                clear H5 HN HRE HBL
                have H5 := H5x
                have HN := HNx
                have HRE := HREx
                have HBL := HBLx
                clear H5x HNx HREx HBLx
                clear hal
                obtain ⟨g22, hg22⟩ : ∃ g, g = wr2.heap.size := ⟨_, rfl⟩
                rw [← hg22] at H22n ⊢
                have H22 := H22n
                clear H22n
                generalize wr2.alloc (.cells #[.int .i64 (q : Int), .int .i64 (j : Int)] 38) = wA at *
                clear hg22
                go_upto_region 23 with (go_at_call 13; refine (CCH.out _).mono ?_; rintro e w9 ⟨rfl, hb⟩)
                have H5x := Lib.hid (H5.out.below hb)
                have HNx := Lib.hid (HN.out.below hb)
                have HREx := Lib.hid (HRE.out.below hb)
                have H22x := Lib.hid (H22.out.below hb)
                have HBLx := Lib.hid (Below.then_ HBL.out hb)
                clear H5 HN HRE H22 HBL
                have H5 := H5x
                have HN := HNx
                have HRE := HREx
                have H22 := H22x
                have HBL := HBLx
                clear H5x HNx HREx H22x HBLx
                clear hb
                have k22 := H22.out.cell
                have k5 := H5.out.cell
                go_upto_region 24 with (go_at_call 8; refine (CV.out _ _ HN.out).mono ?_; rintro e w10 ⟨rfl, hb⟩)
                clear k5
                have H5x := Lib.hid (H5.out.below hb)
                have HNx := Lib.hid (HN.out.below hb)
                have HREx := Lib.hid (HRE.out.below hb)
                have H22x := Lib.hid (H22.out.below hb)
                have HBLx := Lib.hid (Below.then_ HBL.out hb)
                clear H5 HN HRE H22 HBL
                have H5 := H5x
                have HN := HNx
                have HRE := HREx
                have H22 := H22x
                have HBL := HBLx
                clear H5x HNx HREx H22x HBLx
                clear hb
                clear CCH CV k22
                have k22 := H22.out.cell
                have hjj : ((j : Int) == (j : Int)) = true := by simp
                go_wp2_with fail
                go_roundw
                case rel => exact ⟨i + 1, by omega, by go_num, HBL.out⟩
                case measure => simp [intOf]; omega
              · obtain rfl : i = dg := by omega
                have HBX := Lib.hid (Below.then_ HBZ.out hbel)
                clear hbel
                go_wp2_with fail
                go_meet
                exact HBX.out
        case rest => as_aux_lemma =>
        obtain ⟨wj, hwj⟩ : ∃ V, V = wc := ⟨_, rfl⟩
        rw [← hwj] at hcut ⊢
        clear hwj
        have H5x := Lib.hid (H5.out.below hcut)
        have HNx := Lib.hid (HN.out.below hcut)
        have HBx := Lib.hid (Below.then_ HB.out hcut)
        clear H5 HN HB
        have H5 := H5x
        have HN := HNx
        have HB := HBx
        clear H5x HNx HBx
        clear hcut
        obtain ⟨dd, hdd⟩ : ∃ d, d = (if gl N.ends a = [] then 0 else k) := ⟨_, rfl⟩
        have CD := Lib.hid (fun W => depth_law HG.out ha hk HL.out W)
        have CV := Lib.hid (fun W => isview_law HG.out ha hk HL.out W)
        rw [← HSE.out, ← hdd] at CD
        rw [← HSE.out] at CV
        have HDD := Lib.hid hdd
        clear hdd
        go_upto_region 28 with (go_at_call 14; refine (CD.out _).mono ?_; rintro e wk ⟨rfl, hb⟩)
        have H5x := Lib.hid (H5.out.below hb)
        have HNx := Lib.hid (HN.out.below hb)
        have HBx := Lib.hid (Below.then_ HB.out hb)
        clear H5 HN HB
        have H5 := H5x
        have HN := HNx
        have HB := HBx
        clear H5x HNx HBx
        clear hb
        clear CD
        obtain ⟨b5, o5, u5, rfl, hrow5, hre5⟩ := HN.out.rowE ha
        obtain ⟨A5, c5, rfl, -, -, -⟩ := hre5
        have k5 := H5.out.cell
        have i1 : (0 : Int) ≤ (a : Int) := by omega
        have i2 : (a : Int) < (N.ends.length : Int) := by omega
        have l5 := H5.out.lt
        have l6 := lt_of_cell hrow5
        by_cases hdk : dd = k
        · clear HDD
          subst hdk
          have hee : ((dd : Int) == (dd : Int)) = true := by simp
          go_wp2_with (go_at_call 15; refine (CV.out _).mono ?_; rintro e w12 ⟨rfl, hb⟩)
          go_meet
          exact Below.then_ HB.out hb
        · have hee : ((dd : Int) == (k : Int)) = false := by simp; omega
          have hd0 : (gl N.ends a).length = 0 := by
            have hdd := HDD.out
            by_cases h : gl N.ends a = []
            · rw [h]; rfl
            · rw [if_neg h] at hdd; exact absurd hdd hdk
          rw [hd0] at hrow5
          clear hd0
          go_wp2_with (go_at_call 15; refine (CV.out _).mono ?_; rintro e w12 ⟨rfl, hb⟩; have k6 := fun o => (hb.cell (p := ⟨g5, o, none⟩) l5).trans (k5 o); have k7 := (hb.cell (p := ⟨b5, o5 + a, none⟩) l6).trans hrow5)
          go_meet
          exact Below.then_ HB.out hb
    case rest => as_aux_lemma =>
    clear HN HS HK H5 HB
    obtain ⟨V0, hV0⟩ : ∃ V, V = wc := ⟨_, rfl⟩
    rw [← hV0] at hcut ⊢
    clear hV0
    have HB := Lib.hid hcut
    clear hcut
    go_upto_region 31 with (go_at_call 16; refine (DrawIsView_any _ _ _ (HC1.out.below HB.out)).mono ?_; rintro e v1 ⟨u, rfl, -, hb⟩)
    have HB1 := Lib.hid (Below.then_ HB.out hb)
    clear hb HB
    obtain ⟨vd, hvd⟩ : ∃ d, d = vdepT u := ⟨_, rfl⟩
    obtain ⟨vo, hvo⟩ : ∃ d, d = (viewOf u).isSome := ⟨_, rfl⟩
    have C1 := Lib.hid (DepthOfView_any u)
    have C2 := Lib.hid (specDepthOfView_any u)
    have C3 := Lib.hid (IsView_any u)
    have C4 := Lib.hid (specIsView_any u)
    rw [← hvd, ← hvo] at C1 C2
    rw [← hvo] at C3 C4
    clear hvd hvo
    go_upto_region 32 with (go_at_call 14; refine (C1.out _).mono ?_; rintro e v2 ⟨rfl, hb⟩)
    have HB2 := Lib.hid (Below.then_ HB1.out hb)
    clear hb HB1
    go_upto_region 33 with (go_at_call 17; refine (C2.out _).mono ?_; rintro e v3 ⟨rfl, hb⟩)
    have HB3 := Lib.hid (Below.then_ HB2.out hb)
    clear hb HB2
    have hvv : ((vd : Int) == (vd : Int)) = true := by simp
    cases vo with
    | false =>
      go_wp2_with (first | (go_at_call 15; have hx5 := HB5; refine (C3.out _).mono ?_; rintro e v6 ⟨rfl, hb6⟩; have HB6 := Lib.hid (Below.then_ HB5.out hb6); clear hb6 hx5) | (go_at_call 18; refine (C4.out _).mono ?_; rintro e v5 ⟨rfl, hb5⟩; have HB5 := Lib.hid (Below.then_ HB4.out hb5); clear hb5) | (go_at_call 15; refine (C3.out _).mono ?_; rintro e v4 ⟨rfl, hb4⟩; have HB4 := Lib.hid (Below.then_ HB3.out hb4); clear hb4))
      exact bodyPost_ret (v := .bool true) (by simp [results, Tryz.results3, go_sem]) rfl ⟨rfl, HB6.out⟩
    | true =>
      go_wp2_with (first | (go_at_call 15; have hx5 := HB5; refine (C3.out _).mono ?_; rintro e v6 ⟨rfl, hb6⟩; have HB6 := Lib.hid (Below.then_ HB5.out hb6); clear hb6 hx5) | (go_at_call 18; refine (C4.out _).mono ?_; rintro e v5 ⟨rfl, hb5⟩; have HB5 := Lib.hid (Below.then_ HB4.out hb5); clear hb5) | (go_at_call 15; refine (C3.out _).mono ?_; rintro e v4 ⟨rfl, hb4⟩; have HB4 := Lib.hid (Below.then_ HB3.out hb4); clear hb4))
      exact bodyPost_ret (v := .bool true) (by simp [results, Tryz.results3, go_sem]) rfl ⟨rfl, HB6.out⟩
end Go.Proofs.YtljjbhihllnnaaaGreat
