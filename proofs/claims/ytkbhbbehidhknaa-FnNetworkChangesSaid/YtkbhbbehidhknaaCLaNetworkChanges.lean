/- The law FnNetworkChanges. Printed by gen_lnc.py. -/
import Derived.Test.YtkbhbbehidhknaaCJn32
import Derived.Test.YtkbhbbehidhknaaCJn22
import Derived.Test.YtkbhbbehidhknaaCLs1
import Derived.Test.YtkbhbbehidhknaaCJn28
import Derived.Test.YtkbhbbehidhknaaCJn31
import Derived.Test.YtkbhbbehidhknaaCPe2
import Derived.Deep.DeepCutAuto
namespace Go.Proofs.Ytkbhbbehidhknaa
open Go.RowKit
attribute [local go_sem] BW.cell BW.frozen

set_option maxRecDepth 100000 in
set_option maxHeartbeats 8000000 in
theorem lawNetworkChanges (c0 c1 : Value) (L0 L1 : Nat) (w : World) (h0 : BytR w c0 L0) (h1 : BytR w c1 L1) :
    Calls Try.prog 3 #[c0, c1] w (RetV w (.bool true)) := by
  have HH0 := Lib.hid h0
  have HH1 := Lib.hid h1
  obtain ⟨Aa, ca, rfl, hl0, -⟩ := h0
  obtain ⟨Ab, cb, rfl, hl1, -⟩ := h1
  have HBR := Lib.hid (Below.refl w.heap.size w)
  have CB := Lib.hid (big_any Aa Ab L0 L1 ca cb w hl0 hl1)
  obtain ⟨gb, hgb⟩ : ∃ gb, gb = decide (1048576 < L0 ∨ 1048576 < L0 + L1) := ⟨_, rfl⟩
  rw [← hgb] at CB
  have HGB := Lib.hid hgb
  clear hgb
  cases gb with
  | true =>
    go_enter Try.func3, Try.ntmps3
    go_wp2_with (go_at_call 4; refine CB.out.mono ?_; rintro e w1 ⟨rfl, rfl⟩)
    exact bodyPost_ret (v := .bool true) (by simp [results, Try.results3, go_sem]) rfl ⟨rfl, HBR.out⟩
  | false =>
    have hn : ¬ (1048576 < L0 ∨ 1048576 < L0 + L1) := by
      have := HGB.out
      simpa using this.symm
    have HC0 := Lib.hid (HH0.out.code (by omega))
    have HC1 := Lib.hid (HH1.out.code (by omega))
    clear HH0 HH1 HGB hl0 hl1 hn
    go_enter Try.func3, Try.ntmps3
    go_upto_region 3 with (go_at_call 4; refine CB.out.mono ?_; rintro e w1 ⟨rfl, rfl⟩)
    clear CB
    have HB := HBR
    clear HBR
    go_upto_region 4 with (go_at_call 5; refine (DrawAddEdge_any _ _ _ HC0.out).mono ?_; rintro e w1 ⟨v1, N, x, y, rfl, ho1, ht1, hb1⟩; obtain ⟨E0, E0', E1, E1', E2, E2', rfl⟩ := ho1.parts)
    have HNR0 := Lib.hid (ho1.net (S := fun _ => True) (fun _ _ _ => trivial))
    have HS := Lib.hid ht1.small
    have hzw1 := hb1.size
    have hal : Below w.heap.size w (w1.alloc (.cells #[.slice E0 N.ends.length E0', .slice E1 N.ids.length E1', .slice E2 N.inputs.length E2'] 27)) := hb1.alloc hzw1 _
    have H5n := Lib.hid (Blk.new w1 27 #[.slice E0 N.ends.length E0', .slice E1 N.ids.length E1', .slice E2 N.inputs.length E2'])
    have HN := Lib.hid ((HNR0.out).below ((Below.refl w1.heap.size w1).alloc (Nat.le_refl _) (.cells #[.slice E0 N.ends.length E0', .slice E1 N.ids.length E1', .slice E2 N.inputs.length E2'] 27)))
    have HBx := Lib.hid (Below.then_ HB.out hal)
    clear  HB
    have HB := HBx
    clear HBx
    obtain ⟨g5, hg5⟩ : ∃ g, g = w1.heap.size := ⟨_, rfl⟩
    rw [← hg5] at H5n ⊢
    have H5 := H5n
    clear H5n hal
    generalize w1.alloc (.cells #[.slice E0 N.ends.length E0', .slice E1 N.ids.length E1', .slice E2 N.inputs.length E2'] 27) = W1 at *
    clear hg5
    clear HNR0 ho1 ht1 hb1 hzw1
    obtain ⟨ga, hga⟩ : ∃ ga, ga = addOk N x y := ⟨_, rfl⟩
    obtain ⟨M, hM⟩ : ∃ M, M = okN (joinN N x.toNat y.toNat) ga := ⟨_, rfl⟩
    have CA := Lib.hid (fun W v (h : NetR W (fun _ => True) v N) => ((AddEdge_any v N x y W h HS.out).mono (fun e w' hr => hr.ok) : Calls Try.prog 6 #[v, .int .i64 x, .int .i64 y] W (RetOk W (okN (joinN N x.toNat y.toNat) (addOk N x y)) (addOk N x y))))
    have CS := Lib.hid (fun W v (h : NetR W (fun _ => True) v N) => ((specAddEdge_any v N x y W h HS.out).mono (fun e w' hr => hr.ok) : Calls Try.prog 7 #[v, .int .i64 x, .int .i64 y] W (RetOk W (okN (joinN N x.toNat y.toNat) (addOk N x y)) (addOk N x y))))
    rw [← hga, ← hM] at CA CS
    have HGA := Lib.hid hga
    have HM := Lib.hid hM
    clear hga hM
    have k5 := H5.out.cell
    go_upto_region 5 with (go_at_call 6; refine (CA.out _ _ HN.out).mono ?_; rintro e w2 ⟨F0, F0', F1, F1', F2, F2', rfl, ho, hb⟩)
    clear k5
    have HNR := Lib.hid (ho.net (S := fun _ => True) (fun _ _ _ => trivial))
    have hzw2 := hb.size
    have hal : Below W1.heap.size W1 (w2.alloc (.cells #[.slice F0 M.ends.length F0', .slice F1 M.ids.length F1', .slice F2 M.inputs.length F2'] 27)) := hb.alloc hzw2 _
    have H8n := Lib.hid (Blk.new w2 27 #[.slice F0 M.ends.length F0', .slice F1 M.ids.length F1', .slice F2 M.inputs.length F2'])
    have HA := Lib.hid ((HNR.out).below ((Below.refl w2.heap.size w2).alloc (Nat.le_refl _) (.cells #[.slice F0 M.ends.length F0', .slice F1 M.ids.length F1', .slice F2 M.inputs.length F2'] 27)))
    have H5x := Lib.hid (H5.out.below hal)
    have HNx := Lib.hid (HN.out.below hal)
    have HBx := Lib.hid (Below.then_ HB.out hal)
    clear H5 HN HB
    have H5 := H5x
    have HN := HNx
    have HB := HBx
    clear H5x HNx HBx
    obtain ⟨g8, hg8⟩ : ∃ g, g = w2.heap.size := ⟨_, rfl⟩
    rw [← hg8] at H8n ⊢
    have H8 := H8n
    clear H8n hal
    generalize w2.alloc (.cells #[.slice F0 M.ends.length F0', .slice F1 M.ids.length F1', .slice F2 M.inputs.length F2'] 27) = W2 at *
    clear hg8
    clear HNR ho hb hzw2
    have k5 := H5.out.cell
    go_upto_region 6 with (go_at_call 7; refine (CS.out _ _ HN.out).mono ?_; rintro e w3 ⟨G0, G0', G1, G1', G2, G2', rfl, ho, hb⟩)
    clear k5
    have HNR := Lib.hid (ho.net (S := fun _ => True) (fun _ _ _ => trivial))
    have hzw3 := hb.size
    have hal : Below W2.heap.size W2 (w3.alloc (.cells #[.slice G0 M.ends.length G0', .slice G1 M.ids.length G1', .slice G2 M.inputs.length G2'] 27)) := hb.alloc hzw3 _
    have H10n := Lib.hid (Blk.new w3 27 #[.slice G0 M.ends.length G0', .slice G1 M.ids.length G1', .slice G2 M.inputs.length G2'])
    have HX := Lib.hid ((HNR.out).below ((Below.refl w3.heap.size w3).alloc (Nat.le_refl _) (.cells #[.slice G0 M.ends.length G0', .slice G1 M.ids.length G1', .slice G2 M.inputs.length G2'] 27)))
    have H5x := Lib.hid (H5.out.below hal)
    have HNx := Lib.hid (HN.out.below hal)
    have H8x := Lib.hid (H8.out.below hal)
    have HAx := Lib.hid (HA.out.below hal)
    have HBx := Lib.hid (Below.then_ HB.out hal)
    clear H5 HN H8 HA HB
    have H5 := H5x
    have HN := HNx
    have H8 := H8x
    have HA := HAx
    have HB := HBx
    clear H5x HNx H8x HAx HBx
    obtain ⟨g10, hg10⟩ : ∃ g, g = w3.heap.size := ⟨_, rfl⟩
    rw [← hg10] at H10n ⊢
    have H10 := H10n
    clear H10n hal
    generalize w3.alloc (.cells #[.slice G0 M.ends.length G0', .slice G1 M.ids.length G1', .slice G2 M.inputs.length G2'] 27) = W3 at *
    clear hg10
    clear HNR ho hb hzw3
    clear CA CS
    have k8 := H8.out.cell
    have k10 := H10.out.cell
    go_upto_region 8 with (go_at_call 8; refine (pSameNet_same _ _ M _ HA.out HX.out).mono ?_; rintro e w4 ⟨rfl, hb⟩)
    clear k8 k10
    have H5x := Lib.hid (H5.out.below hb)
    have HNx := Lib.hid (HN.out.below hb)
    have H8x := Lib.hid (H8.out.below hb)
    have HAx := Lib.hid (HA.out.below hb)
    have H10x := Lib.hid (H10.out.below hb)
    have HXx := Lib.hid (HX.out.below hb)
    have HBx := Lib.hid (Below.then_ HB.out hb)
    clear H5 HN H8 HA H10 HX HB
    have H5 := H5x
    have HN := HNx
    have H8 := H8x
    have HA := HAx
    have H10 := H10x
    have HX := HXx
    have HB := HBx
    clear H5x HNx H8x HAx H10x HXx HBx
    clear hb
    go_upto_if 73 with fail
    go_cut [] (fun W => Below w.heap.size w W)
    case first =>
      cases ga with
      | false =>
        go_wp2_with fail
        go_meet
        exact HB.out
      | true =>
        obtain ⟨a, b, rfl, rfl, ha, hb, hgN, hgJ⟩ := addOk_spec HGA.out.symm
        have hM := HM.out
        rw [Int.toNat_natCast, Int.toNat_natCast, okN_true] at hM
        obtain ⟨d, hd⟩ : ∃ d, d = dg N.ends a := ⟨_, rfl⟩
        obtain ⟨e2, he2⟩ : ∃ e2, e2 = dg N.ends b + (if a = b then 1 else 0) := ⟨_, rfl⟩
        have hml : M.ends.length = N.ends.length := by rw [hM]; exact joinE_len _ _ _
        have hlast := join_last ha hb
        have hother := join_other hgJ ha hb
        have hport := join_port ha hb
        have hback := join_back (goodB_sym hgN) ha hb
        rw [← hM] at hgJ hlast hother hport hback
        rw [← hd] at hother hport hback
        rw [← he2] at hlast hother
        have hsM := goodB_small hgJ
        have hidM : M.ids.length ≤ 2097152 := by have := hsM.2.2.1; omega
        have haM : a < M.ends.length := by omega
        have hbM : b < M.ends.length := by omega
        have hd6 : d ≤ 262144 := by have := (goodB_small hgN).2.1 a ha; unfold dg at hd; omega
        have hd7 : e2 ≤ 262144 := by have := hsM.2.1 b hbM; unfold dg at hlast; omega
        have HOTH := Lib.hid hother
        have HLAST := Lib.hid hlast
        have hbk := fun W v (h : NetR W (fun _ => True) v M) => ((RemoveEdge_any v M a d W h hsM hgJ haM hport).mono (fun e w' hr => hr.ok) : Calls Try.prog 10 #[v, .int .i64 (a : Int), .int .i64 (d : Int)] W (RetOk W (okN _ true) true))
        rw [okN_true, hback] at hbk
        have CR := Lib.hid hbk
        obtain ⟨b5, o5, R5, r5, rfl, hrow5⟩ := HN.out.row ha
        have hd' : (gl N.ends a).length = d := hd.symm
        rw [hd'] at hrow5
        clear hml hother hlast hback hbk hd he2 hM hgN hgJ hsM hport hd'
        have k5 := H5.out.cell
        have iv1 : (0 : Int) ≤ (a : Int) := by omega
        have iv2 : (a : Int) < (N.ends.length : Int) := by omega
        go_upto_region 10 with fail
        clear hrow5 k5
        have k8 := H8.out.cell
        go_upto_region 11 with (go_at_call 9; refine (OtherEnd_any (S := fun _ => True) _ M (a : Int) (d : Int) _ HA.out hidM).mono ?_; rintro e w5 ⟨hb', he⟩; rw [HOTH.out.1, HOTH.out.2] at he; subst he)
        clear k8 HOTH
        have hzw5 := hb'.size
        have hal : Below w4.heap.size w4 (w5.alloc (.cells #[.int .i64 (b : Int), .int .i64 (e2 : Int)] 35)) := hb'.alloc hzw5 _
        have H13n := Lib.hid (Blk.new w5 35 #[.int .i64 (b : Int), .int .i64 (e2 : Int)])
        have H5x := Lib.hid (H5.out.below hal)
        have HNx := Lib.hid (HN.out.below hal)
        have H8x := Lib.hid (H8.out.below hal)
        have HAx := Lib.hid (HA.out.below hal)
        have H10x := Lib.hid (H10.out.below hal)
        have HXx := Lib.hid (HX.out.below hal)
        have HBx := Lib.hid (Below.then_ HB.out hal)
        clear H5 HN H8 HA H10 HX HB
        have H5 := H5x
        have HN := HNx
        have H8 := H8x
        have HA := HAx
        have H10 := H10x
        have HX := HXx
        have HB := HBx
        clear H5x HNx H8x HAx H10x HXx HBx
        obtain ⟨g13, hg13⟩ : ∃ g, g = w5.heap.size := ⟨_, rfl⟩
        rw [← hg13] at H13n ⊢
        have H13 := H13n
        clear H13n hal
        generalize w5.alloc (.cells #[.int .i64 (b : Int), .int .i64 (e2 : Int)] 35) = W5 at *
        clear hg13
        clear hb' hzw5
        have k8 := H8.out.cell
        go_upto_region 12 with (go_at_call 10; refine (CR.out _ _ HA.out).mono ?_; rintro e w6 ⟨K0, K0', K1, K1', K2, K2', rfl, ho, hb⟩)
        clear k8
        have HNR := Lib.hid (ho.net (S := fun _ => True) (fun _ _ _ => trivial))
        have hzw6 := hb.size
        have hal : Below W5.heap.size W5 (w6.alloc (.cells #[.slice K0 N.ends.length K0', .slice K1 N.ids.length K1', .slice K2 N.inputs.length K2'] 27)) := hb.alloc hzw6 _
        have H15n := Lib.hid (Blk.new w6 27 #[.slice K0 N.ends.length K0', .slice K1 N.ids.length K1', .slice K2 N.inputs.length K2'])
        have HK := Lib.hid ((HNR.out).below ((Below.refl w6.heap.size w6).alloc (Nat.le_refl _) (.cells #[.slice K0 N.ends.length K0', .slice K1 N.ids.length K1', .slice K2 N.inputs.length K2'] 27)))
        have H5x := Lib.hid (H5.out.below hal)
        have HNx := Lib.hid (HN.out.below hal)
        have H8x := Lib.hid (H8.out.below hal)
        have HAx := Lib.hid (HA.out.below hal)
        have H10x := Lib.hid (H10.out.below hal)
        have HXx := Lib.hid (HX.out.below hal)
        have H13x := Lib.hid (H13.out.below hal)
        have HBx := Lib.hid (Below.then_ HB.out hal)
        clear H5 HN H8 HA H10 HX H13 HB
        have H5 := H5x
        have HN := HNx
        have H8 := H8x
        have HA := HAx
        have H10 := H10x
        have HX := HXx
        have H13 := H13x
        have HB := HBx
        clear H5x HNx H8x HAx H10x HXx H13x HBx
        obtain ⟨g15, hg15⟩ : ∃ g, g = w6.heap.size := ⟨_, rfl⟩
        rw [← hg15] at H15n ⊢
        have H15 := H15n
        clear H15n hal
        generalize w6.alloc (.cells #[.slice K0 N.ends.length K0', .slice K1 N.ids.length K1', .slice K2 N.inputs.length K2'] 27) = W6 at *
        clear hg15
        clear HNR ho hb hzw6
        obtain ⟨b8, o8, R8, r8, rfl, hrow8⟩ := HA.out.row hbM
        obtain ⟨dm, hdm⟩ : ∃ dm, dm = (gl M.ends b).length := ⟨_, rfl⟩
        rw [← hdm] at hrow8
        have hdm2 : dm = e2 + 1 := by rw [hdm]; exact HLAST.out
        have hw : IntKind.i64.wrap ((dm : Int) - 1) = (e2 : Int) := by rw [IntWalk.i64_in _ (by omega)]; omega
        obtain ⟨b5, o5, R5, r5, e5, -⟩ := HN.out.row ha
        have k5 := H5.out.cell
        have k8 := H8.out.cell
        have k13 := H13.out.cell
        have k15 := H15.out.cell
        have l5 := H5.out.lt
        have l8 := H8.out.lt
        have l13 := H13.out.lt
        have l15 := H15.out.lt
        have lr := lt_of_cell hrow8
        have iw1 : (0 : Int) ≤ (b : Int) := by omega
        have iw2 : (b : Int) < (M.ends.length : Int) := by omega
        clear hdm hdm2 e5 HLAST
        refine wp_region_below (by kernel_rfl) (by kernel_rfl) ?_
        repeat (go_big_quiet_step ((go_at_call 8; exact quietB (pSameNet_same _ _ N _ (HK.out.below (BW.h _)) (HN.out.below (BW.h _))))))
        refine wpQuiet_nil ?_
        rintro _ ⟨x1, rfl⟩
        go_wp2_with fail
        go_meet
        exact Below.then_ HB.out x1.h
    case rest =>
    clear HN HS HGA HM H5 H8 H10 HA HX HB
    obtain ⟨V0, hV0⟩ : ∃ V, V = wc := ⟨_, rfl⟩
    rw [← hV0] at hcut ⊢
    clear hV0
    have HB := Lib.hid hcut
    clear hcut
    go_upto_region 15 with (go_at_call 11; refine (DrawPermutePorts_any _ _ _ (HC1.out.below HB.out)).mono ?_; rintro e v1 ⟨vv, N, x, uu, π, rfl, ho1, ht1, hop, hpl, hb1⟩; obtain ⟨E0, E0', E1, E1', E2, E2', rfl⟩ := ho1.parts; obtain ⟨Ap, cp, rfl⟩ := hop.shape)
    have HNR0 := Lib.hid (ho1.net (S := fun _ => True) (fun _ _ _ => trivial))
    have HPR0 := Lib.hid (hop.ints.weak (S' := fun _ => True) (fun _ _ => trivial))
    have HS := Lib.hid ht1.small
    have hzv1 := hb1.size
    have hal : Below V0.heap.size V0 (v1.alloc (.cells #[.slice E0 N.ends.length E0', .slice E1 N.ids.length E1', .slice E2 N.inputs.length E2'] 27)) := hb1.alloc hzv1 _
    have H17n := Lib.hid (Blk.new v1 27 #[.slice E0 N.ends.length E0', .slice E1 N.ids.length E1', .slice E2 N.inputs.length E2'])
    have HN := Lib.hid ((HNR0.out).below ((Below.refl v1.heap.size v1).alloc (Nat.le_refl _) (.cells #[.slice E0 N.ends.length E0', .slice E1 N.ids.length E1', .slice E2 N.inputs.length E2'] 27)))
    have HP := Lib.hid ((HPR0.out).below ((Below.refl v1.heap.size v1).alloc (Nat.le_refl _) (.cells #[.slice E0 N.ends.length E0', .slice E1 N.ids.length E1', .slice E2 N.inputs.length E2'] 27)))
    have HBx := Lib.hid (Below.then_ HB.out hal)
    clear  HB
    have HB := HBx
    clear HBx
    obtain ⟨g17, hg17⟩ : ∃ g, g = v1.heap.size := ⟨_, rfl⟩
    rw [← hg17] at H17n ⊢
    have H17 := H17n
    clear H17n hal
    generalize v1.alloc (.cells #[.slice E0 N.ends.length E0', .slice E1 N.ids.length E1', .slice E2 N.inputs.length E2'] 27) = V1 at *
    clear hg17
    clear HNR0 HPR0 ho1 ht1 hop hb1 hzv1
    obtain ⟨ga, hga⟩ : ∃ ga, ga = portsOk N x π := ⟨_, rfl⟩
    obtain ⟨M, hM⟩ : ∃ M, M = okN (portsN N x.toNat π) ga := ⟨_, rfl⟩
    have CA := Lib.hid (fun W v (h : NetR W (fun _ => True) v N) (hp : IntsR W (fun _ => True) (.slice Ap π.length cp) π) => ((PermutePorts_any v (.slice Ap π.length cp) N x π W h hp HS.out).mono (fun e w' hr => hr.ok) : Calls Try.prog 12 #[v, .int .i64 x, .slice Ap π.length cp] W (RetOk W (okN (portsN N x.toNat π) (portsOk N x π)) (portsOk N x π))))
    have CS := Lib.hid (fun W v (h : NetR W (fun _ => True) v N) (hp : IntsR W (fun _ => True) (.slice Ap π.length cp) π) => ((specPermutePorts_any v (.slice Ap π.length cp) N x π W h hp HS.out).mono (fun e w' hr => hr.ok) : Calls Try.prog 13 #[v, .int .i64 x, .slice Ap π.length cp] W (RetOk W (okN (portsN N x.toNat π) (portsOk N x π)) (portsOk N x π))))
    rw [← hga, ← hM] at CA CS
    have HGA := Lib.hid hga
    have HM := Lib.hid hM
    clear hga hM
    have k17 := H17.out.cell
    go_upto_region 16 with (go_at_call 12; refine (CA.out _ _ HN.out HP.out).mono ?_; rintro e v2 ⟨F0, F0', F1, F1', F2, F2', rfl, ho, hb⟩)
    clear k17
    have HNR := Lib.hid (ho.net (S := fun _ => True) (fun _ _ _ => trivial))
    have hzv2 := hb.size
    have hal : Below V1.heap.size V1 (v2.alloc (.cells #[.slice F0 M.ends.length F0', .slice F1 M.ids.length F1', .slice F2 M.inputs.length F2'] 27)) := hb.alloc hzv2 _
    have H20n := Lib.hid (Blk.new v2 27 #[.slice F0 M.ends.length F0', .slice F1 M.ids.length F1', .slice F2 M.inputs.length F2'])
    have HA := Lib.hid ((HNR.out).below ((Below.refl v2.heap.size v2).alloc (Nat.le_refl _) (.cells #[.slice F0 M.ends.length F0', .slice F1 M.ids.length F1', .slice F2 M.inputs.length F2'] 27)))
    have H17x := Lib.hid (H17.out.below hal)
    have HNx := Lib.hid (HN.out.below hal)
    have HPx := Lib.hid (HP.out.below hal)
    have HBx := Lib.hid (Below.then_ HB.out hal)
    clear H17 HN HP HB
    have H17 := H17x
    have HN := HNx
    have HP := HPx
    have HB := HBx
    clear H17x HNx HPx HBx
    obtain ⟨g20, hg20⟩ : ∃ g, g = v2.heap.size := ⟨_, rfl⟩
    rw [← hg20] at H20n ⊢
    have H20 := H20n
    clear H20n hal
    generalize v2.alloc (.cells #[.slice F0 M.ends.length F0', .slice F1 M.ids.length F1', .slice F2 M.inputs.length F2'] 27) = V2 at *
    clear hg20
    clear HNR ho hb hzv2
    have k17 := H17.out.cell
    go_upto_region 17 with (go_at_call 13; refine (CS.out _ _ HN.out HP.out).mono ?_; rintro e v3 ⟨G0, G0', G1, G1', G2, G2', rfl, ho, hb⟩)
    clear k17
    have HNR := Lib.hid (ho.net (S := fun _ => True) (fun _ _ _ => trivial))
    have hzv3 := hb.size
    have hal : Below V2.heap.size V2 (v3.alloc (.cells #[.slice G0 M.ends.length G0', .slice G1 M.ids.length G1', .slice G2 M.inputs.length G2'] 27)) := hb.alloc hzv3 _
    have H22n := Lib.hid (Blk.new v3 27 #[.slice G0 M.ends.length G0', .slice G1 M.ids.length G1', .slice G2 M.inputs.length G2'])
    have HX := Lib.hid ((HNR.out).below ((Below.refl v3.heap.size v3).alloc (Nat.le_refl _) (.cells #[.slice G0 M.ends.length G0', .slice G1 M.ids.length G1', .slice G2 M.inputs.length G2'] 27)))
    have H17x := Lib.hid (H17.out.below hal)
    have HNx := Lib.hid (HN.out.below hal)
    have HPx := Lib.hid (HP.out.below hal)
    have H20x := Lib.hid (H20.out.below hal)
    have HAx := Lib.hid (HA.out.below hal)
    have HBx := Lib.hid (Below.then_ HB.out hal)
    clear H17 HN HP H20 HA HB
    have H17 := H17x
    have HN := HNx
    have HP := HPx
    have H20 := H20x
    have HA := HAx
    have HB := HBx
    clear H17x HNx HPx H20x HAx HBx
    obtain ⟨g22, hg22⟩ : ∃ g, g = v3.heap.size := ⟨_, rfl⟩
    rw [← hg22] at H22n ⊢
    have H22 := H22n
    clear H22n hal
    generalize v3.alloc (.cells #[.slice G0 M.ends.length G0', .slice G1 M.ids.length G1', .slice G2 M.inputs.length G2'] 27) = V3 at *
    clear hg22
    clear HNR ho hb hzv3
    clear CA CS
    have k20 := H20.out.cell
    have k22 := H22.out.cell
    go_upto_region 19 with (go_at_call 8; refine (pSameNet_same _ _ M _ HA.out HX.out).mono ?_; rintro e v4 ⟨rfl, hb⟩)
    clear k20 k22
    have H17x := Lib.hid (H17.out.below hb)
    have HNx := Lib.hid (HN.out.below hb)
    have HPx := Lib.hid (HP.out.below hb)
    have H20x := Lib.hid (H20.out.below hb)
    have HAx := Lib.hid (HA.out.below hb)
    have H22x := Lib.hid (H22.out.below hb)
    have HXx := Lib.hid (HX.out.below hb)
    have HBx := Lib.hid (Below.then_ HB.out hb)
    clear H17 HN HP H20 HA H22 HX HB
    have H17 := H17x
    have HN := HNx
    have HP := HPx
    have H20 := H20x
    have HA := HAx
    have H22 := H22x
    have HX := HXx
    have HB := HBx
    clear H17x HNx HPx H20x HAx H22x HXx HBx
    clear hb
    go_upto_if 153 with fail
    go_cut [] (fun W => Below w.heap.size w W)
    case first =>
      cases ga with
      | false =>
        go_wp2_with fail
        go_meet
        exact HB.out
      | true =>
        obtain ⟨a, rfl, ha, hgN, hp⟩ := portsOk_spec HGA.out.symm
        have hM := HM.out
        rw [Int.toNat_natCast, okN_true] at hM
        have hgM := goodB_ports hgN hp
        have hokb := ports_okB hgN ha hp
        have hback := ports_backN hgN hp
        rw [← hM] at hgM hokb hback
        have hsM := goodB_small hgM
        have hbk := fun W v pv (h : NetR W (fun _ => True) v M) (hq : IntsR W (fun _ => True) pv (invP π (dg N.ends a))) => ((PermutePorts_any v pv M (a : Int) (invP π (dg N.ends a)) W h hq hsM).mono (fun e w' hr => hr.ok) : Calls Try.prog 12 #[v, .int .i64 (a : Int), pv] W (RetOk W (okN (portsN M (a : Int).toNat (invP π (dg N.ends a))) (portsOk M (a : Int) (invP π (dg N.ends a)))) (portsOk M (a : Int) (invP π (dg N.ends a)))))
        rw [Int.toNat_natCast, hback, hokb, okN_true] at hbk
        obtain ⟨d, hd⟩ : ∃ d, d = dg N.ends a := ⟨_, rfl⟩
        rw [← hd] at hbk hp
        have CR := Lib.hid hbk
        have hpl2 : π.length = d := by rw [hp.length_eq, upTo_length]
        have HPM := Lib.hid hp
        have HPL := Lib.hid hpl2
        have hd6 : d ≤ 600 := by omega
        clear hM hgM hokb hback hsM hbk hd hp hgN ha hpl2
        have hmk := fun W => Go.run_make_row' (P := Try.prog) 25 3 (.int .i64 0) 8 Try.underlying25 int_inf rfl .i64 .i64 π.length (by omega) (by omega) W
        go_upto_region 21 with fail
        clear hmk
        have HRI := Lib.hid (World.rowIs_made v4 (.int .i64 0) π.length 3)
        have HRB := Lib.hid ((Below.refl v4.heap.size v4).alloc (Nat.le_refl _) (.cells (madeCells #[.int .i64 0] π.length) 3))
        generalize v4.alloc (.cells (madeCells #[.int .i64 0] π.length) 3) = v5 at *
        go_wp2_with fail
        go_loopw [159] (fun x159 wr => ∃ k : Nat, k ≤ π.length ∧ x159 = .int .i64 k ∧ wr.rowIs v4.heap.size 3 π.length (fun j => .int .i64 (if π.idxOf (j : Int) < k then ((π.idxOf (j : Int) : Nat) : Int) else 0)) ∧ Below v4.heap.size v4 wr) (fun x159 _ => π.length - (intOf x159).toNat)
        case atStart => exact ⟨0, Nat.zero_le _, rfl, HRI.out.congr fun i _ => by simp, HRB.out⟩
        case round =>
          clear HRI HRB
          obtain ⟨k, hk, rfl, hri, hbel⟩ := hrel
          obtain ⟨wr2, rfl⟩ : ∃ wr2, wr2 = wr := ⟨_, rfl⟩
          have HI := Lib.hid hri
          have HBE := Lib.hid hbel
          clear hri hbel
          by_cases hlt : k < π.length
          · obtain ⟨A9, c9, e9, -, -, hx9⟩ := HP.out
            simp only [Value.slice.injEq, true_and] at e9
            obtain ⟨rfl, rfl⟩ := e9
            obtain ⟨bp, op, rfl, -, hc⟩ := hx9 (by omega)
            have q0 := hc k hlt
            obtain ⟨q, hq, hqd⟩ := perm_at HPM.out (i := k) (by rw [← HPL.out]; exact hlt)
            rw [hq] at q0
            have q1 : wr2.cell? ⟨bp, op + k, none⟩ = some (.int .i64 (q : Int)) := (HBE.out.cell (p := ⟨bp, op + k, none⟩) (lt_of_cell q0)).trans q0
            have hqn : q < π.length := by rw [HPL.out]; exact hqd
            have c2 := HI.out.cell hqn
            have c3 := HI.out.frozen q
            have hq1 : (0 : Int) ≤ (q : Int) := by omega
            have hq2 : (q : Int) < (π.length : Int) := by omega
            have hk1 : (0 : Int) ≤ (k : Int) := by omega
            have hk2 : (k : Int) < (π.length : Int) := by omega
            have HI2 := Lib.hid ((HI.out.set q (.int .i64 (k : Int))).congr (g := fun j => .int .i64 (if π.idxOf (j : Int) < k + 1 then ((π.idxOf (j : Int) : Nat) : Int) else 0)) fun j hj => by
              rw [← inv_step HPM.out (by rw [← HPL.out]; exact hlt) hq j (by rw [← HPL.out]; exact hj)]
              by_cases e : j = q
              · subst e; simp
              · rw [if_neg e, if_neg e])
            have HB2 := Lib.hid (HBE.out.setCell (p := ⟨v4.heap.size, q, none⟩) (Nat.le_refl _) (.int .i64 (k : Int)))
            generalize (if π.idxOf (q : Int) < k then ((π.idxOf (q : Int) : Nat) : Int) else 0) = z0 at c2
            clear q0 hc hx9 hq
            go_wp2_with fail
            go_roundw
            case rel => exact ⟨k + 1, by omega, by go_num, HI2.out, HB2.out⟩
            case measure => simp [intOf]; omega
          · obtain rfl : k = π.length := by omega
            have HIV : Hid (OwnI wr2 v4.heap.size (.slice (some ⟨v4.heap.size, 0, none⟩) π.length π.length) (invP π d)) := Lib.hid (OwnI.of_rowIs (HI.out.congr fun j hj => by
              have hjd : j < d := by rw [← HPL.out]; exact hj
              obtain ⟨h1, -⟩ := perm_inv HPM.out hjd
              rw [invP_at hjd, if_pos (by rw [HPL.out]; exact h1)]) (by rw [invP_len, HPL.out]) (Nat.le_refl _) (by unfold maxLen; omega))
            have HIR := Lib.hid (HIV.out.ints.weak (S' := fun _ => True) (fun _ _ => trivial))
            have hbv := HBE.out
            have hjx : ¬ ((π.length : Int) < (π.length : Int)) := by omega
            clear HI HBE HIV hk hlt
            have H17x := Lib.hid (H17.out.below hbv)
            have HNx := Lib.hid (HN.out.below hbv)
            have HPx := Lib.hid (HP.out.below hbv)
            have H20x := Lib.hid (H20.out.below hbv)
            have HAx := Lib.hid (HA.out.below hbv)
            have H22x := Lib.hid (H22.out.below hbv)
            have HXx := Lib.hid (HX.out.below hbv)
            have HBx := Lib.hid (Below.then_ HB.out hbv)
            clear H17 HN HP H20 HA H22 HX HB
            have H17 := H17x
            have HN := HNx
            have HP := HPx
            have H20 := H20x
            have HA := HAx
            have H22 := H22x
            have HX := HXx
            have HB := HBx
            clear H17x HNx HPx H20x HAx H22x HXx HBx
            clear hbv
            have k20 := H20.out.cell
            go_upto_region 27 with (go_at_call 12; refine (CR.out _ _ _ HA.out HIR.out).mono ?_; rintro e v6 ⟨K0, K0', K1, K1', K2, K2', rfl, ho, hb⟩)
            clear k20
            have HNR := Lib.hid (ho.net (S := fun _ => True) (fun _ _ _ => trivial))
            have hzv6 := hb.size
            have hal : Below wr2.heap.size wr2 (v6.alloc (.cells #[.slice K0 N.ends.length K0', .slice K1 N.ids.length K1', .slice K2 N.inputs.length K2'] 27)) := hb.alloc hzv6 _
            have H27n := Lib.hid (Blk.new v6 27 #[.slice K0 N.ends.length K0', .slice K1 N.ids.length K1', .slice K2 N.inputs.length K2'])
            have HK := Lib.hid ((HNR.out).below ((Below.refl v6.heap.size v6).alloc (Nat.le_refl _) (.cells #[.slice K0 N.ends.length K0', .slice K1 N.ids.length K1', .slice K2 N.inputs.length K2'] 27)))
            have H17x := Lib.hid (H17.out.below hal)
            have HNx := Lib.hid (HN.out.below hal)
            have HPx := Lib.hid (HP.out.below hal)
            have H20x := Lib.hid (H20.out.below hal)
            have HAx := Lib.hid (HA.out.below hal)
            have H22x := Lib.hid (H22.out.below hal)
            have HXx := Lib.hid (HX.out.below hal)
            have HBx := Lib.hid (Below.then_ HB.out hal)
            clear H17 HN HP H20 HA H22 HX HB
            have H17 := H17x
            have HN := HNx
            have HP := HPx
            have H20 := H20x
            have HA := HAx
            have H22 := H22x
            have HX := HXx
            have HB := HBx
            clear H17x HNx HPx H20x HAx H22x HXx HBx
            obtain ⟨g27, hg27⟩ : ∃ g, g = v6.heap.size := ⟨_, rfl⟩
            rw [← hg27] at H27n ⊢
            have H27 := H27n
            clear H27n hal
            generalize v6.alloc (.cells #[.slice K0 N.ends.length K0', .slice K1 N.ids.length K1', .slice K2 N.inputs.length K2'] 27) = V6 at *
            clear hg27
            clear HNR ho hb hzv6
            have k27 := H27.out.cell
            have k17 := H17.out.cell
            go_wp2_with (go_at_call 8; refine (pSameNet_same _ _ N _ HK.out HN.out).mono ?_; rintro e v7 ⟨rfl, hb⟩)
            go_meet
            exact Below.then_ HB.out hb
    case rest =>
    clear HN HS HP HGA HM H17 H20 H22 HA HX HB
    obtain ⟨U0, hU0⟩ : ∃ V, V = wc := ⟨_, rfl⟩
    rw [← hU0] at hcut ⊢
    clear hU0
    have HB := Lib.hid hcut
    clear hcut
    go_upto_region 30 with (go_at_call 14; refine (DrawUnionOf_any _ _ _ (HC0.out.below HB.out)).mono ?_; rintro e u1 ⟨vv, vv', N, M, rfl, ho1, ht1, ho2, ht2, hb1⟩; obtain ⟨E0, E0', E1, E1', E2, E2', rfl⟩ := ho1.parts; obtain ⟨D0, D0', D1, D1', D2, D2', rfl⟩ := ho2.parts)
    have hzu := hb1.size
    have hal2 : Below u1.heap.size u1 ((u1.alloc (.cells #[.slice E0 N.ends.length E0', .slice E1 N.ids.length E1', .slice E2 N.inputs.length E2'] 27)).alloc (.cells #[.slice D0 M.ends.length D0', .slice D1 M.ids.length D1', .slice D2 M.inputs.length D2'] 27)) := ((Below.refl _ _).alloc (Nat.le_refl _) _).alloc (by simp) _
    have hal : Below U0.heap.size U0 ((u1.alloc (.cells #[.slice E0 N.ends.length E0', .slice E1 N.ids.length E1', .slice E2 N.inputs.length E2'] 27)).alloc (.cells #[.slice D0 M.ends.length D0', .slice D1 M.ids.length D1', .slice D2 M.inputs.length D2'] 27)) := Below.then_ hb1 hal2
    have HN := Lib.hid ((ho1.net (S := fun _ => True) (fun _ _ _ => trivial)).below hal2)
    have HM := Lib.hid ((ho2.net (S := fun _ => True) (fun _ _ _ => trivial)).below hal2)
    have H29n := Lib.hid ((Blk.new u1 27 #[.slice E0 N.ends.length E0', .slice E1 N.ids.length E1', .slice E2 N.inputs.length E2']).alloc (.cells #[.slice D0 M.ends.length D0', .slice D1 M.ids.length D1', .slice D2 M.inputs.length D2'] 27))
    have H30n : Hid (Blk ((u1.alloc (.cells #[.slice E0 N.ends.length E0', .slice E1 N.ids.length E1', .slice E2 N.inputs.length E2'] 27)).alloc (.cells #[.slice D0 M.ends.length D0', .slice D1 M.ids.length D1', .slice D2 M.inputs.length D2'] 27)) (u1.heap.size + 1) 27 #[.slice D0 M.ends.length D0', .slice D1 M.ids.length D1', .slice D2 M.inputs.length D2']) := Lib.hid (by
      have := Blk.new (u1.alloc (.cells #[.slice E0 N.ends.length E0', .slice E1 N.ids.length E1', .slice E2 N.inputs.length E2'] 27)) 27 #[.slice D0 M.ends.length D0', .slice D1 M.ids.length D1', .slice D2 M.inputs.length D2']
      rwa [World.size_alloc] at this)
    have HS := Lib.hid ht1.small
    have HT := Lib.hid ht2.small
    have HBx := Lib.hid (Below.then_ HB.out hal)
    clear  HB
    have HB := HBx
    clear HBx
    generalize (u1.alloc (.cells #[.slice E0 N.ends.length E0', .slice E1 N.ids.length E1', .slice E2 N.inputs.length E2'] 27)).alloc (.cells #[.slice D0 M.ends.length D0', .slice D1 M.ids.length D1', .slice D2 M.inputs.length D2'] 27) = U1 at *
    obtain ⟨g29, hg29⟩ : ∃ g, g = u1.heap.size := ⟨_, rfl⟩
    obtain ⟨g30, hg30⟩ : ∃ g, g = u1.heap.size + 1 := ⟨_, rfl⟩
    rw [← hg30] at H30n ⊢
    rw [← hg29] at H29n ⊢
    have H29 := H29n
    have H30 := H30n
    clear H29n H30n hal hal2 ho1 ho2 ht1 ht2 hb1 hzu hg29 hg30
    obtain ⟨ga, hga⟩ : ∃ ga, ga = unionOk N M := ⟨_, rfl⟩
    obtain ⟨Q, hQ⟩ : ∃ Q, Q = okN (unionN N M) ga := ⟨_, rfl⟩
    have CA := Lib.hid (fun W v v' (h : NetR W (fun _ => True) v N) (h' : NetR W (fun _ => True) v' M) => ((UnionOf_any v v' N M W h h' HS.out HT.out).mono (fun e w' hr => hr.ok) : Calls Try.prog 15 #[v, v'] W (RetOk W (okN (unionN N M) (unionOk N M)) (unionOk N M))))
    have CS := Lib.hid (fun W v v' (h : NetR W (fun _ => True) v N) (h' : NetR W (fun _ => True) v' M) => ((specUnionOf_any v v' N M W h h' HS.out HT.out).mono (fun e w' hr => hr.ok) : Calls Try.prog 16 #[v, v'] W (RetOk W (okN (unionN N M) (unionOk N M)) (unionOk N M))))
    rw [← hga, ← hQ] at CA CS
    have HGA := Lib.hid hga
    have HQ := Lib.hid hQ
    clear hga hQ
    have k29 := H29.out.cell
    have k30 := H30.out.cell
    go_upto_region 31 with (go_at_call 15; refine (CA.out _ _ _ HN.out HM.out).mono ?_; rintro e u2 ⟨F0, F0', F1, F1', F2, F2', rfl, ho, hb⟩)
    clear k29 k30
    have HNR := Lib.hid (ho.net (S := fun _ => True) (fun _ _ _ => trivial))
    have hzu2 := hb.size
    have hal : Below U1.heap.size U1 (u2.alloc (.cells #[.slice F0 Q.ends.length F0', .slice F1 Q.ids.length F1', .slice F2 Q.inputs.length F2'] 27)) := hb.alloc hzu2 _
    have H31n := Lib.hid (Blk.new u2 27 #[.slice F0 Q.ends.length F0', .slice F1 Q.ids.length F1', .slice F2 Q.inputs.length F2'])
    have HA := Lib.hid ((HNR.out).below ((Below.refl u2.heap.size u2).alloc (Nat.le_refl _) (.cells #[.slice F0 Q.ends.length F0', .slice F1 Q.ids.length F1', .slice F2 Q.inputs.length F2'] 27)))
    have H29x := Lib.hid (H29.out.below hal)
    have H30x := Lib.hid (H30.out.below hal)
    have HNx := Lib.hid (HN.out.below hal)
    have HMx := Lib.hid (HM.out.below hal)
    have HBx := Lib.hid (Below.then_ HB.out hal)
    clear H29 H30 HN HM HB
    have H29 := H29x
    have H30 := H30x
    have HN := HNx
    have HM := HMx
    have HB := HBx
    clear H29x H30x HNx HMx HBx
    obtain ⟨g31, hg31⟩ : ∃ g, g = u2.heap.size := ⟨_, rfl⟩
    rw [← hg31] at H31n ⊢
    have H31 := H31n
    clear H31n hal
    generalize u2.alloc (.cells #[.slice F0 Q.ends.length F0', .slice F1 Q.ids.length F1', .slice F2 Q.inputs.length F2'] 27) = U2 at *
    clear hg31
    clear HNR ho hb hzu2
    have k29 := H29.out.cell
    have k30 := H30.out.cell
    go_upto_region 32 with (go_at_call 16; refine (CS.out _ _ _ HN.out HM.out).mono ?_; rintro e u3 ⟨G0, G0', G1, G1', G2, G2', rfl, ho, hb⟩)
    clear k29 k30
    have HNR := Lib.hid (ho.net (S := fun _ => True) (fun _ _ _ => trivial))
    have hzu3 := hb.size
    have hal : Below U2.heap.size U2 (u3.alloc (.cells #[.slice G0 Q.ends.length G0', .slice G1 Q.ids.length G1', .slice G2 Q.inputs.length G2'] 27)) := hb.alloc hzu3 _
    have H33n := Lib.hid (Blk.new u3 27 #[.slice G0 Q.ends.length G0', .slice G1 Q.ids.length G1', .slice G2 Q.inputs.length G2'])
    have HX := Lib.hid ((HNR.out).below ((Below.refl u3.heap.size u3).alloc (Nat.le_refl _) (.cells #[.slice G0 Q.ends.length G0', .slice G1 Q.ids.length G1', .slice G2 Q.inputs.length G2'] 27)))
    have H29x := Lib.hid (H29.out.below hal)
    have H30x := Lib.hid (H30.out.below hal)
    have HNx := Lib.hid (HN.out.below hal)
    have HMx := Lib.hid (HM.out.below hal)
    have H31x := Lib.hid (H31.out.below hal)
    have HAx := Lib.hid (HA.out.below hal)
    have HBx := Lib.hid (Below.then_ HB.out hal)
    clear H29 H30 HN HM H31 HA HB
    have H29 := H29x
    have H30 := H30x
    have HN := HNx
    have HM := HMx
    have H31 := H31x
    have HA := HAx
    have HB := HBx
    clear H29x H30x HNx HMx H31x HAx HBx
    obtain ⟨g33, hg33⟩ : ∃ g, g = u3.heap.size := ⟨_, rfl⟩
    rw [← hg33] at H33n ⊢
    have H33 := H33n
    clear H33n hal
    generalize u3.alloc (.cells #[.slice G0 Q.ends.length G0', .slice G1 Q.ids.length G1', .slice G2 Q.inputs.length G2'] 27) = U3 at *
    clear hg33
    clear HNR ho hb hzu3
    clear CA CS
    have k31 := H31.out.cell
    have k33 := H33.out.cell
    go_upto_region 34 with (go_at_call 8; refine (pSameNet_same _ _ Q _ HA.out HX.out).mono ?_; rintro e u4 ⟨rfl, hb⟩)
    clear k31 k33
    have H29x := Lib.hid (H29.out.below hb)
    have H30x := Lib.hid (H30.out.below hb)
    have HNx := Lib.hid (HN.out.below hb)
    have HMx := Lib.hid (HM.out.below hb)
    have H31x := Lib.hid (H31.out.below hb)
    have HAx := Lib.hid (HA.out.below hb)
    have H33x := Lib.hid (H33.out.below hb)
    have HXx := Lib.hid (HX.out.below hb)
    have HBx := Lib.hid (Below.then_ HB.out hb)
    clear H29 H30 HN HM H31 HA H33 HX HB
    have H29 := H29x
    have H30 := H30x
    have HN := HNx
    have HM := HMx
    have H31 := H31x
    have HA := HAx
    have H33 := H33x
    have HX := HXx
    have HB := HBx
    clear H29x H30x HNx HMx H31x HAx H33x HXx HBx
    clear hb
    cases ga with
    | false =>
      go_wp2_with fail
      exact bodyPost_ret (v := .bool true) (by simp [results, Try.results3, go_sem]) rfl ⟨rfl, HB.out⟩
    | true =>
      obtain ⟨hgN, hgM, hgQ⟩ := unionOk_spec HGA.out.symm
      have hQ := HQ.out
      rw [okN_true] at hQ
      rw [← hQ] at hgQ
      have hE := edgeN_unionN N M
      rw [← hQ] at hE
      have hi1 := (goodB_small hgN).2.2.1
      have hi2 := (goodB_small hgM).2.2.1
      have hi3 := (goodB_small hgQ).2.2.1
      have CN := Lib.hid (fun W v (h : NetR W (fun _ => True) v N) => EdgesOf_any v N W h (by omega))
      have CM := Lib.hid (fun W v (h : NetR W (fun _ => True) v M) => EdgesOf_any v M W h (by omega))
      have CQ := Lib.hid (fun W v (h : NetR W (fun _ => True) v Q) => EdgesOf_any v Q W h (by omega))
      have HE := Lib.hid hE
      have HG := Lib.hid (And.intro hgN (And.intro hgM hgQ))
      clear hgN hgM hgQ hE hQ hi1 hi2 hi3
      have k29 := H29.out.cell
      go_upto_region 36 with (go_at_call 17; refine (CN.out _ _ HN.out).mono ?_; rintro e u5 ⟨hb, Xp, Yp, np, he, hnp⟩; rw [HG.out.1] at he hnp; obtain ⟨hnpa, hnpb⟩ := hnp rfl; subst he; have HEp := Lib.hid hnpa; clear hnpa hnp)
      clear k29
      have H29x := Lib.hid (H29.out.below hb)
      have H30x := Lib.hid (H30.out.below hb)
      have HNx := Lib.hid (HN.out.below hb)
      have HMx := Lib.hid (HM.out.below hb)
      have H31x := Lib.hid (H31.out.below hb)
      have HAx := Lib.hid (HA.out.below hb)
      have H33x := Lib.hid (H33.out.below hb)
      have HXx := Lib.hid (HX.out.below hb)
      have HBx := Lib.hid (Below.then_ HB.out hb)
      clear H29 H30 HN HM H31 HA H33 HX HB
      have H29 := H29x
      have H30 := H30x
      have HN := HNx
      have HM := HMx
      have H31 := H31x
      have HA := HAx
      have H33 := H33x
      have HX := HXx
      have HB := HBx
      clear H29x H30x HNx HMx H31x HAx H33x HXx HBx
      clear hb
      have k30 := H30.out.cell
      go_upto_region 37 with (go_at_call 17; refine (CM.out _ _ HM.out).mono ?_; rintro e u6 ⟨hb, Xq, Yq, nq, he, hnq⟩; rw [HG.out.2.1] at he hnq; obtain ⟨hnqa, hnqb⟩ := hnq rfl; subst he; have HEq := Lib.hid hnqa; clear hnqa hnq)
      clear k30
      have H29x := Lib.hid (H29.out.below hb)
      have H30x := Lib.hid (H30.out.below hb)
      have HNx := Lib.hid (HN.out.below hb)
      have HMx := Lib.hid (HM.out.below hb)
      have H31x := Lib.hid (H31.out.below hb)
      have HAx := Lib.hid (HA.out.below hb)
      have H33x := Lib.hid (H33.out.below hb)
      have HXx := Lib.hid (HX.out.below hb)
      have HBx := Lib.hid (Below.then_ HB.out hb)
      clear H29 H30 HN HM H31 HA H33 HX HB
      have H29 := H29x
      have H30 := H30x
      have HN := HNx
      have HM := HMx
      have H31 := H31x
      have HA := HAx
      have H33 := H33x
      have HX := HXx
      have HB := HBx
      clear H29x H30x HNx HMx H31x HAx H33x HXx HBx
      clear hb
      have k31 := H31.out.cell
      go_upto_region 38 with (go_at_call 17; refine (CQ.out _ _ HA.out).mono ?_; rintro e u7 ⟨hb, Xr, Yr, nr, he, hnr⟩; rw [HG.out.2.2] at he hnr; obtain ⟨hnra, hnrb⟩ := hnr rfl; subst he; have HEr := Lib.hid hnra; clear hnra hnr)
      clear k31
      have H29x := Lib.hid (H29.out.below hb)
      have H30x := Lib.hid (H30.out.below hb)
      have HNx := Lib.hid (HN.out.below hb)
      have HMx := Lib.hid (HM.out.below hb)
      have H31x := Lib.hid (H31.out.below hb)
      have HAx := Lib.hid (HA.out.below hb)
      have H33x := Lib.hid (H33.out.below hb)
      have HXx := Lib.hid (HX.out.below hb)
      have HBx := Lib.hid (Below.then_ HB.out hb)
      clear H29 H30 HN HM H31 HA H33 HX HB
      have H29 := H29x
      have H30 := H30x
      have HN := HNx
      have HM := HMx
      have H31 := H31x
      have HA := HAx
      have H33 := H33x
      have HX := HXx
      have HB := HBx
      clear H29x H30x HNx HMx H31x HAx H33x HXx HBx
      clear hb
      have hsum : (nr : Int) = (np : Int) + (nq : Int) := by
        have h1 := HEp.out
        have h2 := HEq.out
        have h3 := HEr.out
        have h4 := HE.out
        omega
      have hw : IntKind.i64.wrap ((np : Int) + (nq : Int)) = (nr : Int) := by rw [IntWalk.i64_in _ (by omega)]; omega
      clear hsum HEp HEq HEr
      go_wp2_with fail
      exact bodyPost_ret (v := .bool true) (by simp [results, Try.results3, go_sem]) rfl ⟨rfl, HB.out⟩
end Go.Proofs.Ytkbhbbehidhknaa
